/- Contracts of the functions that the law cryostatlaw3.RecordBack reaches (printed for this claim by a tool of the kit, and pruned): each Go function's call comes to its Lean function's answer; those of the law package for the answer true alone. -/
-- printed by a program out of the translation, with contracts of this session's own for what the kit's print refuses
import Derived.Test.YtpadejamelppfaaPRecordBackx0
import Derived.Test.YtpadejamelppfaaPRecordBackx1
import Derived.Test.YtpadejamelppfaaPRecordBackx2
import Derived.Test.YtpadejamelppfaaPRecordBackx3
import Derived.Test.YtpadejamelppfaaPRecordBackx4
namespace Go.Proofs.Ytpadejamelppfaa.PRecordBack
open Go.RowKit Go.Proofs.YtpadejamelppfaaW.PrintWords Go.Proofs.YtpadejamelppfaaW.PrintLast Go.Proofs.YtpadejamelppfaaW.PrintMore
attribute [local go_sem] max2_int min2_int max_two min_two max_three min_three max_four min_four   -- for this text's walks alone
set_option linter.unusedVariables false
set_option linter.unusedSimpArgs false

attribute [local go_sem high] eqA40
theorem list_of {s : ByteArray} {l : List UInt8} (h : s.toList = l) : s = ⟨l.toArray⟩ := by
  rw [ByteArray.toList_eq] at h
  subst h; cases s; simp
/-! ### cryostatlaw3_awake: function 32 -/
def cryostatlaw3_awake.f (k : Nat)  : Option (Bool) := (record_Put.f 258 3 2 (⟨#[97, 98]⟩ : ByteArray)).bind fun bt133 => ((record_Get.f k bt133.1).bind fun bt135 => ((record_Put.f 0 0 0 (⟨#[]⟩ : ByteArray)).bind fun bt141 => (if bt133.1.size + 1 ≤ 9223372036854775807 then ((record_Get.f k (bt133.1 ++ (⟨#[120]⟩ : ByteArray))).bind fun bt143 => (if (bt133.1.size : Int) = 32 then (if 0 ≤ 10 then (if 10 ≤ (bt133.1.size : Int) then (if (bt133.1.extract 0 10).toList = ([0, 0, 1, 2, 3, 2, 2, 0, 97, 98] : List UInt8) then ((cryostatlaw0_Num.f bt133.2).bind fun t149 => (if t149 = 0 then (if (bt135.1 == 258 && (bt135.2.1 == 3 && (bt135.2.2.1 == 2 && (bt135.2.2.2.1.toList == ([97, 98] : List UInt8))))) = true then ((cryostatlaw0_Num.f bt135.2.2.2.2).bind fun t150 => (if t150 = 0 then ((cryostatlaw0_Num.f bt141.2).bind fun t151 => (if t151 = 300 then ((cryostatlaw0_Num.f bt143.2.2.2.2).bind fun t152 => (if t152 = 300 then ((record_May.f 258 3 2 (⟨#[97, 98]⟩ : ByteArray)).bind fun t153 => (some t153)) else (some false))) else (some false))) else (some false))) else (some false)) else (some false))) else (some false)) else (none)) else (none)) else (some false))) else (none))))
theorem cryostatlaw3_awake.mono : ∀ k, LeO (cryostatlaw3_awake.f k ) (cryostatlaw3_awake.f (k + 1) ) := by
  intro  k
  unfold cryostatlaw3_awake.f
  repeat' first
      | (with_reducible exact record_Get.mono _ _)
      | (with_reducible exact LeO.refl _)
      | (with_reducible exact LeO.none _)
      | (with_reducible refine LeO.ite ?_ ?_)
      | (with_reducible refine LeO.bind ?_ (fun _ => ?_))
      | exact record_Get.mono _ _
      | exact LeO.none _
      | refine LeO.ite ?_ ?_
      | refine LeO.bind ?_ (fun _ => ?_)
set_option maxHeartbeats 8000000 in
set_option maxRecDepth 100000 in
theorem cryostatlaw3_awake.calls (k : Nat)  (r : Bool) (w : World) (hr : Aside0 (r = true)) (h : cryostatlaw3_awake.f k  = some r) :
    Calls Try.prog 32 #[] w fun e w' => e = .returned (.bool r) ∧ Below w.heap.size w w' := by
  have hu40 := Try.underlying40
  have HB := Aside0.mk (Below.refl w.heap.size w)
  have H : ((record_Put.f 258 3 2 (⟨#[97, 98]⟩ : ByteArray)).bind fun bt133 => ((record_Get.f k bt133.1).bind fun bt135 => ((record_Put.f 0 0 0 (⟨#[]⟩ : ByteArray)).bind fun bt141 => (if bt133.1.size + 1 ≤ 9223372036854775807 then ((record_Get.f k (bt133.1 ++ (⟨#[120]⟩ : ByteArray))).bind fun bt143 => (if (bt133.1.size : Int) = 32 then (if 0 ≤ 10 then (if 10 ≤ (bt133.1.size : Int) then (if (bt133.1.extract 0 10).toList = ([0, 0, 1, 2, 3, 2, 2, 0, 97, 98] : List UInt8) then ((cryostatlaw0_Num.f bt133.2).bind fun t149 => (if t149 = 0 then (if (bt135.1 == 258 && (bt135.2.1 == 3 && (bt135.2.2.1 == 2 && (bt135.2.2.2.1.toList == ([97, 98] : List UInt8))))) = true then ((cryostatlaw0_Num.f bt135.2.2.2.2).bind fun t150 => (if t150 = 0 then ((cryostatlaw0_Num.f bt141.2).bind fun t151 => (if t151 = 300 then ((cryostatlaw0_Num.f bt143.2.2.2.2).bind fun t152 => (if t152 = 300 then ((record_May.f 258 3 2 (⟨#[97, 98]⟩ : ByteArray)).bind fun t153 => (some t153)) else (some false))) else (some false))) else (some false))) else (some false)) else (some false))) else (some false)) else (none)) else (none)) else (some false))) else (none))))) = some r := h
  clear h
  replace H := Option.bind_eq_some_iff.mp H
  obtain ⟨⟨t133, t134⟩, A10, H⟩ := H
  replace H : ((record_Get.f k t133).bind fun bt135 => ((record_Put.f 0 0 0 (⟨#[]⟩ : ByteArray)).bind fun bt141 => (if t133.size + 1 ≤ 9223372036854775807 then ((record_Get.f k (t133 ++ (⟨#[120]⟩ : ByteArray))).bind fun bt143 => (if (t133.size : Int) = 32 then (if 0 ≤ 10 then (if 10 ≤ (t133.size : Int) then (if (t133.extract 0 10).toList = ([0, 0, 1, 2, 3, 2, 2, 0, 97, 98] : List UInt8) then ((cryostatlaw0_Num.f t134).bind fun t149 => (if t149 = 0 then (if (bt135.1 == 258 && (bt135.2.1 == 3 && (bt135.2.2.1 == 2 && (bt135.2.2.2.1.toList == ([97, 98] : List UInt8))))) = true then ((cryostatlaw0_Num.f bt135.2.2.2.2).bind fun t150 => (if t150 = 0 then ((cryostatlaw0_Num.f bt141.2).bind fun t151 => (if t151 = 300 then ((cryostatlaw0_Num.f bt143.2.2.2.2).bind fun t152 => (if t152 = 300 then ((record_May.f 258 3 2 (⟨#[97, 98]⟩ : ByteArray)).bind fun t153 => (some t153)) else (some false))) else (some false))) else (some false))) else (some false)) else (some false))) else (some false)) else (none)) else (none)) else (some false))) else (none)))) = some r := H
  have A1 := Aside0.mk A10
  clear A10
  replace H := Option.bind_eq_some_iff.mp H
  obtain ⟨⟨t135, t136, t137, t138, t139⟩, A20, H⟩ := H
  replace H : ((record_Put.f 0 0 0 (⟨#[]⟩ : ByteArray)).bind fun bt141 => (if t133.size + 1 ≤ 9223372036854775807 then ((record_Get.f k (t133 ++ (⟨#[120]⟩ : ByteArray))).bind fun bt143 => (if (t133.size : Int) = 32 then (if 0 ≤ 10 then (if 10 ≤ (t133.size : Int) then (if (t133.extract 0 10).toList = ([0, 0, 1, 2, 3, 2, 2, 0, 97, 98] : List UInt8) then ((cryostatlaw0_Num.f t134).bind fun t149 => (if t149 = 0 then (if (t135 == 258 && (t136 == 3 && (t137 == 2 && (t138.toList == ([97, 98] : List UInt8))))) = true then ((cryostatlaw0_Num.f t139).bind fun t150 => (if t150 = 0 then ((cryostatlaw0_Num.f bt141.2).bind fun t151 => (if t151 = 300 then ((cryostatlaw0_Num.f bt143.2.2.2.2).bind fun t152 => (if t152 = 300 then ((record_May.f 258 3 2 (⟨#[97, 98]⟩ : ByteArray)).bind fun t153 => (some t153)) else (some false))) else (some false))) else (some false))) else (some false)) else (some false))) else (some false)) else (none)) else (none)) else (some false))) else (none))) = some r := H
  have A2 := Aside0.mk A20
  clear A20
  replace H := Option.bind_eq_some_iff.mp H
  obtain ⟨⟨t141, t142⟩, A30, H⟩ := H
  replace H : (if t133.size + 1 ≤ 9223372036854775807 then ((record_Get.f k (t133 ++ (⟨#[120]⟩ : ByteArray))).bind fun bt143 => (if (t133.size : Int) = 32 then (if 0 ≤ 10 then (if 10 ≤ (t133.size : Int) then (if (t133.extract 0 10).toList = ([0, 0, 1, 2, 3, 2, 2, 0, 97, 98] : List UInt8) then ((cryostatlaw0_Num.f t134).bind fun t149 => (if t149 = 0 then (if (t135 == 258 && (t136 == 3 && (t137 == 2 && (t138.toList == ([97, 98] : List UInt8))))) = true then ((cryostatlaw0_Num.f t139).bind fun t150 => (if t150 = 0 then ((cryostatlaw0_Num.f t142).bind fun t151 => (if t151 = 300 then ((cryostatlaw0_Num.f bt143.2.2.2.2).bind fun t152 => (if t152 = 300 then ((record_May.f 258 3 2 (⟨#[97, 98]⟩ : ByteArray)).bind fun t153 => (some t153)) else (some false))) else (some false))) else (some false))) else (some false)) else (some false))) else (some false)) else (none)) else (none)) else (some false))) else (none)) = some r := H
  have A3 := Aside0.mk A30
  clear A30
  by_cases c4 : t133.size + 1 ≤ 9223372036854775807
  · rw [if_pos c4] at H
    have c4b0 := eq_true c4
    have c4b1 : decide (t133.size + 1 ≤ 9223372036854775807) = true := decide_eq_true c4
    try have c4b2 : (9223372036854775807 < t133.size + 1) = False := eq_false (Nat.not_lt.2 c4)
    replace H := Option.bind_eq_some_iff.mp H
    obtain ⟨⟨t143, t144, t145, t146, t147⟩, A50, H⟩ := H
    replace H : (if (t133.size : Int) = 32 then (if 0 ≤ 10 then (if 10 ≤ (t133.size : Int) then (if (t133.extract 0 10).toList = ([0, 0, 1, 2, 3, 2, 2, 0, 97, 98] : List UInt8) then ((cryostatlaw0_Num.f t134).bind fun t149 => (if t149 = 0 then (if (t135 == 258 && (t136 == 3 && (t137 == 2 && (t138.toList == ([97, 98] : List UInt8))))) = true then ((cryostatlaw0_Num.f t139).bind fun t150 => (if t150 = 0 then ((cryostatlaw0_Num.f t142).bind fun t151 => (if t151 = 300 then ((cryostatlaw0_Num.f t147).bind fun t152 => (if t152 = 300 then ((record_May.f 258 3 2 (⟨#[97, 98]⟩ : ByteArray)).bind fun t153 => (some t153)) else (some false))) else (some false))) else (some false))) else (some false)) else (some false))) else (some false)) else (none)) else (none)) else (some false)) = some r := H
    have A5 := Aside0.mk A50
    clear A50
    by_cases c6 : (t133.size : Int) = 32
    · rw [if_pos c6] at H
      have c6b0 : ((t133.size : Int) == 32) = true := beq_iff_eq.mpr c6
      have c6b1 : ((t133.size : Int) != 32) = false := bne_eq_false_iff_eq.mpr c6
      clear c6
      by_cases c7 : 0 ≤ 10
      · rw [if_pos c7] at H
        have c7b0 := eq_true c7
        have c7b1 : decide (0 ≤ 10) = true := decide_eq_true c7
        clear c7
        by_cases c8 : 10 ≤ (t133.size : Int)
        · rw [if_pos c8] at H
          have c8b0 := eq_true c8
          have c8b1 : decide (10 ≤ (t133.size : Int)) = true := decide_eq_true c8
          clear c8
          by_cases c9 : (t133.extract 0 10).toList = ([0, 0, 1, 2, 3, 2, 2, 0, 97, 98] : List UInt8)
          · rw [if_pos c9] at H
            have c9b0 : ((t133.extract 0 10).toList == ([0, 0, 1, 2, 3, 2, 2, 0, 97, 98] : List UInt8)) = true := beq_iff_eq.mpr c9
            have c9b1 : ((t133.extract 0 10).toList != ([0, 0, 1, 2, 3, 2, 2, 0, 97, 98] : List UInt8)) = false := bne_eq_false_iff_eq.mpr c9
            clear c9
            replace H := Option.bind_eq_some_iff.mp H
            obtain ⟨t149, A100, H⟩ := H
            replace H : (if t149 = 0 then (if (t135 == 258 && (t136 == 3 && (t137 == 2 && (t138.toList == ([97, 98] : List UInt8))))) = true then ((cryostatlaw0_Num.f t139).bind fun t150 => (if t150 = 0 then ((cryostatlaw0_Num.f t142).bind fun t151 => (if t151 = 300 then ((cryostatlaw0_Num.f t147).bind fun t152 => (if t152 = 300 then ((record_May.f 258 3 2 (⟨#[97, 98]⟩ : ByteArray)).bind fun t153 => (some t153)) else (some false))) else (some false))) else (some false))) else (some false)) else (some false)) = some r := H
            have A10 := Aside0.mk A100
            clear A100
            by_cases c11 : t149 = 0
            · rw [if_pos c11] at H
              have c11b0 : (t149 == 0) = true := beq_iff_eq.mpr c11
              have c11b1 : (t149 != 0) = false := bne_eq_false_iff_eq.mpr c11
              clear c11
              by_cases c12 : (t135 == 258 && (t136 == 3 && (t137 == 2 && (t138.toList == ([97, 98] : List UInt8))))) = true
              · rw [if_pos c12] at H
                have c12b0 : (t135 == 258 && (t136 == 3 && (t137 == 2 && (t138.toList == ([97, 98] : List UInt8))))) = true := c12
                (try (have c12b1 : decide (t135 = 258 && (t136 == 3 && (t137 == 2 && (t138.toList == ([97, 98] : List UInt8))))) = true := by simpa using c12))
                (try (have c12b2 : (t135 == 258 && (t136 == 3 && (t137 == 2 && (t138.toList == ([97, 98] : List UInt8))))) = true := by simpa using c12))
                clear c12
                have qq := c12b0
                simp only [Bool.and_eq_true, beq_iff_eq] at qq
                obtain ⟨q0, q1, q2, q3⟩ := qq
                replace q0 : t135 = (258 : Int) := q0
                replace q1 : t136 = (3 : Int) := q1
                replace q2 : t137 = (2 : Int) := q2
                replace q3 : t138 = (⟨#[97, 98]⟩ : ByteArray) := list_of q3
                subst q0 q1 q2 q3
                clear c12b0; (try clear c12b1); (try clear c12b2)
                replace H := Option.bind_eq_some_iff.mp H
                obtain ⟨t150, A130, H⟩ := H
                replace H : (if t150 = 0 then ((cryostatlaw0_Num.f t142).bind fun t151 => (if t151 = 300 then ((cryostatlaw0_Num.f t147).bind fun t152 => (if t152 = 300 then ((record_May.f 258 3 2 (⟨#[97, 98]⟩ : ByteArray)).bind fun t153 => (some t153)) else (some false))) else (some false))) else (some false)) = some r := H
                have A13 := Aside0.mk A130
                clear A130
                by_cases c14 : t150 = 0
                · rw [if_pos c14] at H
                  have c14b0 : (t150 == 0) = true := beq_iff_eq.mpr c14
                  have c14b1 : (t150 != 0) = false := bne_eq_false_iff_eq.mpr c14
                  clear c14
                  replace H := Option.bind_eq_some_iff.mp H
                  obtain ⟨t151, A150, H⟩ := H
                  replace H : (if t151 = 300 then ((cryostatlaw0_Num.f t147).bind fun t152 => (if t152 = 300 then ((record_May.f 258 3 2 (⟨#[97, 98]⟩ : ByteArray)).bind fun t153 => (some t153)) else (some false))) else (some false)) = some r := H
                  have A15 := Aside0.mk A150
                  clear A150
                  by_cases c16 : t151 = 300
                  · rw [if_pos c16] at H
                    have c16b0 : (t151 == 300) = true := beq_iff_eq.mpr c16
                    have c16b1 : (t151 != 300) = false := bne_eq_false_iff_eq.mpr c16
                    clear c16
                    replace H := Option.bind_eq_some_iff.mp H
                    obtain ⟨t152, A170, H⟩ := H
                    replace H : (if t152 = 300 then ((record_May.f 258 3 2 (⟨#[97, 98]⟩ : ByteArray)).bind fun t153 => (some t153)) else (some false)) = some r := H
                    have A17 := Aside0.mk A170
                    clear A170
                    by_cases c18 : t152 = 300
                    · rw [if_pos c18] at H
                      have c18b0 : (t152 == 300) = true := beq_iff_eq.mpr c18
                      have c18b1 : (t152 != 300) = false := bne_eq_false_iff_eq.mpr c18
                      clear c18
                      replace H := Option.bind_eq_some_iff.mp H
                      obtain ⟨t153, A190, H⟩ := H
                      replace H : (some t153) = some r := H
                      have A19 := Aside0.mk A190
                      clear A190
                      obtain rfl := Option.some.inj H
                      go_enter Try.func32, Try.ntmps32
                      go_wp2_with (first | ((with_reducible refine gate_dst (N := 1) rfl ?_); refine box_event ?hg (N := 1) ?hd (cs := #[.int .i64 0, .int .i64 0, .int .i64 0, .string (⟨#[]⟩ : ByteArray)]) (t := 40) ?hr ?_; (case hd => rfl); (case hg => rfl); (case hr => first | (go_simp; done) | (go_simp; rfl)); intro gb132 hg w20 hbox hb; have n0_ := Aside0.mk (below_step (by repeat (first | (with_reducible first | exact HB.out | apply below_alloc | apply pw_below_drewN | apply below_drew1) | exact HB.out)) hb); have n1_ := Aside0.mk (hbox); have n2_ := Aside0.mk ((by rw [hg]; exact (below_size (by repeat (first | (with_reducible first | exact HB.out | apply below_alloc | apply pw_below_drewN | apply below_drew1) | exact HB.out))) : w.heap.size ≤ gb132)); have n3_ := Aside0.mk ((by rw [hg]; exact (below_size (by repeat (first | (with_reducible first | exact HB.out | apply below_alloc | apply pw_below_drewN | apply below_drew1) | exact HB.out))) : w.heap.size ≤ gb132)); clear HB; have HB := n0_; have BK132 := n1_; have GW132 := n2_; have GE132 := n3_; clear n0_ n1_ n2_ n3_; clear hb hbox hg; have hcz21_0 : w20.cell? ⟨gb132, 0, none⟩ = some (.int .i64 0) := (blk_cell BK132.out 0).trans rfl; have hcz21_1 : w20.cell? ⟨gb132, 1, none⟩ = some (.int .i64 0) := (blk_cell BK132.out 1).trans rfl; have hcz21_2 : w20.cell? ⟨gb132, 2, none⟩ = some (.int .i64 0) := (blk_cell BK132.out 2).trans rfl; have hcz21_3 : w20.cell? ⟨gb132, 3, none⟩ = some (.string (⟨#[]⟩ : ByteArray)) := (blk_cell BK132.out 3).trans rfl; have hfz21_0 := blk_frozen BK132.out 0; have hfz21_1 := blk_frozen BK132.out 1; have hfz21_2 := blk_frozen BK132.out 2; have hfz21_3 := blk_frozen BK132.out 3) | ((with_reducible refine gate_callee (f := 26) rfl ?_); refine goesL_ (some 13) rfl rfl Try.func26 (by kernel_rfl) rfl #[.agg #[.int .i64 258, .int .i64 3, .int .i64 2, .string (⟨#[97, 98]⟩ : ByteArray)]] rfl (by (try simp only [List.map_toArray, List.map_cons, List.map_nil]); first | done | rfl | (simp only [List.length_drop, List.length_take]; rfl)) ?_; (with_reducible refine (record_Put.calls 258 3 2 (⟨#[97, 98]⟩ : ByteArray) t133 t134 _ A1.out).mono ?_); rintro e w22 ⟨rfl, hb⟩; refine ⟨_, rfl, ?_⟩; have n0_ := Aside0.mk (blk_below (g := gb132) (o := .cells #[.int .i64 258, .int .i64 3, .int .i64 2, .string (⟨#[97, 98]⟩ : ByteArray)] 40 (0, 0)) (by (with_reducible repeat (first | refine blk_drewN ?_ _ | refine blk_drew ?_ | refine blk_alloc ?_ _)); refine blk_put (cs := #[.int .i64 258, .int .i64 3, .int .i64 2, .string (⟨#[]⟩ : ByteArray)]) ?_ 3 _ rfl; (with_reducible repeat (first | refine blk_drewN ?_ _ | refine blk_drew ?_ | refine blk_alloc ?_ _)); refine blk_put (cs := #[.int .i64 258, .int .i64 3, .int .i64 0, .string (⟨#[]⟩ : ByteArray)]) ?_ 2 _ rfl; (with_reducible repeat (first | refine blk_drewN ?_ _ | refine blk_drew ?_ | refine blk_alloc ?_ _)); refine blk_put (cs := #[.int .i64 258, .int .i64 0, .int .i64 0, .string (⟨#[]⟩ : ByteArray)]) ?_ 1 _ rfl; (with_reducible repeat (first | refine blk_drewN ?_ _ | refine blk_drew ?_ | refine blk_alloc ?_ _)); refine blk_put (cs := #[.int .i64 0, .int .i64 0, .int .i64 0, .string (⟨#[]⟩ : ByteArray)]) ?_ 0 _ rfl; (with_reducible repeat (first | refine blk_drewN ?_ _ | refine blk_drew ?_ | refine blk_alloc ?_ _)); exact BK132.out) hb); have n1_ := Aside0.mk (below_step (by repeat (first | (with_reducible first | exact HB.out | apply below_alloc | apply pw_below_drewN | apply below_drew1 | refine below_set ?_ GE132.out) | exact HB.out)) hb); clear BK132; clear HB; have BK132 := n0_; have HB := n1_; clear n0_ n1_; (try clear hb); (try clear hb2); (try clear hk); (try clear hi)) | ((with_reducible refine gate_callee (f := 28) rfl ?_); refine goesL_ (some 18) rfl rfl Try.func28 (by kernel_rfl) rfl #[.string t133] rfl (by (try simp only [List.map_toArray, List.map_cons, List.map_nil]); first | done | rfl | (simp only [List.length_drop, List.length_take]; rfl)) ?_; (with_reducible refine (record_Get.calls k t133 (258 : Int) (3 : Int) (2 : Int) (⟨#[97, 98]⟩ : ByteArray) t139 _ A2.out).mono ?_); rintro e w23 ⟨rfl, hb⟩; refine ⟨_, rfl, ?_⟩; have n0_ := Aside0.mk (blk_below (g := gb132) (o := .cells #[.int .i64 258, .int .i64 3, .int .i64 2, .string (⟨#[97, 98]⟩ : ByteArray)] 40 (0, 0)) (by (with_reducible repeat (first | refine blk_drewN ?_ _ | refine blk_drew ?_ | refine blk_alloc ?_ _)); exact BK132.out) hb); have n1_ := Aside0.mk (below_step (by repeat (first | (with_reducible first | exact HB.out | apply below_alloc | apply pw_below_drewN | apply below_drew1 | refine below_set ?_ GE132.out) | exact HB.out)) hb); clear BK132; clear HB; have BK132 := n0_; have HB := n1_; clear n0_ n1_; (try clear hb); (try clear hb2); (try clear hk); (try clear hi)) | ((with_reducible refine gate_dst (N := 4) rfl ?_); refine box_event ?hg (N := 4) ?hd (cs := #[.int .i64 0, .int .i64 0, .int .i64 0, .string (⟨#[]⟩ : ByteArray)]) (t := 40) ?hr ?_; (case hd => rfl); (case hg => rfl); (case hr => first | (go_simp; done) | (go_simp; rfl)); intro gb140 hg w24 hbox hb; have n0_ := Aside0.mk (blk_below (g := gb132) (o := .cells #[.int .i64 258, .int .i64 3, .int .i64 2, .string (⟨#[97, 98]⟩ : ByteArray)] 40 (0, 0)) (by (with_reducible repeat (first | refine blk_drewN ?_ _ | refine blk_drew ?_ | refine blk_alloc ?_ _)); exact BK132.out) hb); have n1_ := Aside0.mk (below_step (by repeat (first | (with_reducible first | exact HB.out | apply below_alloc | apply pw_below_drewN | apply below_drew1 | refine below_set ?_ GE132.out) | exact HB.out)) hb); have n2_ := Aside0.mk (hbox); have n3_ := Aside0.mk ((by rw [hg]; exact (below_size (by repeat (first | (with_reducible first | exact HB.out | apply below_alloc | apply pw_below_drewN | apply below_drew1 | refine below_set ?_ GE132.out) | exact HB.out))) : w.heap.size ≤ gb140)); have n4_ := Aside0.mk ((by rw [hg]; exact (below_size (by repeat (first | (with_reducible first | exact HB.out | apply below_alloc | apply pw_below_drewN | apply below_drew1 | refine below_set ?_ GE132.out) | exact HB.out))) : w.heap.size ≤ gb140)); have n5_ := Aside0.mk ((by rw [hg]; exact Nat.ne_of_lt (blk_lt (g := gb132) (o := .cells #[.int .i64 258, .int .i64 3, .int .i64 2, .string (⟨#[97, 98]⟩ : ByteArray)] 40 (0, 0)) (by (with_reducible repeat (first | refine blk_drewN ?_ _ | refine blk_drew ?_ | refine blk_alloc ?_ _)); exact BK132.out)) : gb132 ≠ gb140)); have n6_ := Aside0.mk ((by rw [hg]; exact Nat.ne_of_gt (blk_lt (g := gb132) (o := .cells #[.int .i64 258, .int .i64 3, .int .i64 2, .string (⟨#[97, 98]⟩ : ByteArray)] 40 (0, 0)) (by (with_reducible repeat (first | refine blk_drewN ?_ _ | refine blk_drew ?_ | refine blk_alloc ?_ _)); exact BK132.out)) : gb140 ≠ gb132)); clear BK132; clear HB; have BK132 := n0_; have HB := n1_; have BK140 := n2_; have GW140 := n3_; have GE140 := n4_; have NB132_140 := n5_; have NB140_132 := n6_; clear n0_ n1_ n2_ n3_ n4_ n5_ n6_; clear hb hbox hg; have hnb25 := NB140_132.out; have hnc25 := NB132_140.out; have hcz26_0 : w24.cell? ⟨gb140, 0, none⟩ = some (.int .i64 0) := (blk_cell BK140.out 0).trans rfl; have hcz26_1 : w24.cell? ⟨gb140, 1, none⟩ = some (.int .i64 0) := (blk_cell BK140.out 1).trans rfl; have hcz26_2 : w24.cell? ⟨gb140, 2, none⟩ = some (.int .i64 0) := (blk_cell BK140.out 2).trans rfl; have hcz26_3 : w24.cell? ⟨gb140, 3, none⟩ = some (.string (⟨#[]⟩ : ByteArray)) := (blk_cell BK140.out 3).trans rfl; have hfz26_0 := blk_frozen BK140.out 0; have hfz26_1 := blk_frozen BK140.out 1; have hfz26_2 := blk_frozen BK140.out 2; have hfz26_3 := blk_frozen BK140.out 3) | ((with_reducible refine gate_callee (f := 26) rfl ?_); refine goesL_ (some 23) rfl rfl Try.func26 (by kernel_rfl) rfl #[.agg #[.int .i64 0, .int .i64 0, .int .i64 0, .string (⟨#[]⟩ : ByteArray)]] rfl (by (try simp only [List.map_toArray, List.map_cons, List.map_nil]); first | done | rfl | (simp only [List.length_drop, List.length_take]; rfl)) ?_; (with_reducible refine (record_Put.calls 0 0 0 (⟨#[]⟩ : ByteArray) t141 t142 _ A3.out).mono ?_); rintro e w27 ⟨rfl, hb⟩; refine ⟨_, rfl, ?_⟩; have n0_ := Aside0.mk (blk_below (g := gb132) (o := .cells #[.int .i64 258, .int .i64 3, .int .i64 2, .string (⟨#[97, 98]⟩ : ByteArray)] 40 (0, 0)) (by (with_reducible repeat (first | refine blk_drewN ?_ _ | refine blk_drew ?_ | refine blk_alloc ?_ _)); refine blk_far ?_ NB132_140.out _; (with_reducible repeat (first | refine blk_drewN ?_ _ | refine blk_drew ?_ | refine blk_alloc ?_ _)); refine blk_far ?_ NB132_140.out _; (with_reducible repeat (first | refine blk_drewN ?_ _ | refine blk_drew ?_ | refine blk_alloc ?_ _)); refine blk_far ?_ NB132_140.out _; (with_reducible repeat (first | refine blk_drewN ?_ _ | refine blk_drew ?_ | refine blk_alloc ?_ _)); refine blk_far ?_ NB132_140.out _; (with_reducible repeat (first | refine blk_drewN ?_ _ | refine blk_drew ?_ | refine blk_alloc ?_ _)); exact BK132.out) hb); have n1_ := Aside0.mk (blk_below (g := gb140) (o := .cells #[.int .i64 (258 : Int), .int .i64 (3 : Int), .int .i64 (2 : Int), .string (⟨#[97, 98]⟩ : ByteArray)] 40 (0, 0)) (by (with_reducible repeat (first | refine blk_drewN ?_ _ | refine blk_drew ?_ | refine blk_alloc ?_ _)); refine blk_put (cs := #[.int .i64 (258 : Int), .int .i64 (3 : Int), .int .i64 (2 : Int), .string (⟨#[]⟩ : ByteArray)]) ?_ 3 _ rfl; (with_reducible repeat (first | refine blk_drewN ?_ _ | refine blk_drew ?_ | refine blk_alloc ?_ _)); refine blk_put (cs := #[.int .i64 (258 : Int), .int .i64 (3 : Int), .int .i64 0, .string (⟨#[]⟩ : ByteArray)]) ?_ 2 _ rfl; (with_reducible repeat (first | refine blk_drewN ?_ _ | refine blk_drew ?_ | refine blk_alloc ?_ _)); refine blk_put (cs := #[.int .i64 (258 : Int), .int .i64 0, .int .i64 0, .string (⟨#[]⟩ : ByteArray)]) ?_ 1 _ rfl; (with_reducible repeat (first | refine blk_drewN ?_ _ | refine blk_drew ?_ | refine blk_alloc ?_ _)); refine blk_put (cs := #[.int .i64 0, .int .i64 0, .int .i64 0, .string (⟨#[]⟩ : ByteArray)]) ?_ 0 _ rfl; (with_reducible repeat (first | refine blk_drewN ?_ _ | refine blk_drew ?_ | refine blk_alloc ?_ _)); exact BK140.out) hb); have n2_ := Aside0.mk (below_step (by repeat (first | (with_reducible first | exact HB.out | apply below_alloc | apply pw_below_drewN | apply below_drew1 | refine below_set ?_ GE132.out | refine below_set ?_ GE140.out) | exact HB.out)) hb); clear BK132; clear BK140; clear HB; have BK132 := n0_; have BK140 := n1_; have HB := n2_; clear n0_ n1_ n2_; (try clear hb); (try clear hb2); (try clear hk); (try clear hi)) | ((with_reducible refine gate_callee (f := 28) rfl ?_); refine goesL_ (some 29) rfl rfl Try.func28 (by kernel_rfl) rfl #[.string (t133 ++ (⟨#[120]⟩ : ByteArray))] rfl (by (try simp only [List.map_toArray, List.map_cons, List.map_nil]); first | done | rfl | (simp only [List.length_drop, List.length_take]; rfl)) ?_; (with_reducible refine (record_Get.calls k (t133 ++ (⟨#[120]⟩ : ByteArray)) t143 t144 t145 t146 t147 _ A5.out).mono ?_); rintro e w28 ⟨rfl, hb⟩; refine ⟨_, rfl, ?_⟩; have n0_ := Aside0.mk (blk_below (g := gb132) (o := .cells #[.int .i64 258, .int .i64 3, .int .i64 2, .string (⟨#[97, 98]⟩ : ByteArray)] 40 (0, 0)) (by (with_reducible repeat (first | refine blk_drewN ?_ _ | refine blk_drew ?_ | refine blk_alloc ?_ _)); exact BK132.out) hb); have n1_ := Aside0.mk (blk_below (g := gb140) (o := .cells #[.int .i64 (258 : Int), .int .i64 (3 : Int), .int .i64 (2 : Int), .string (⟨#[97, 98]⟩ : ByteArray)] 40 (0, 0)) (by (with_reducible repeat (first | refine blk_drewN ?_ _ | refine blk_drew ?_ | refine blk_alloc ?_ _)); exact BK140.out) hb); have n2_ := Aside0.mk (below_step (by repeat (first | (with_reducible first | exact HB.out | apply below_alloc | apply pw_below_drewN | apply below_drew1 | refine below_set ?_ GE132.out | refine below_set ?_ GE140.out) | exact HB.out)) hb); clear BK132; clear BK140; clear HB; have BK132 := n0_; have BK140 := n1_; have HB := n2_; clear n0_ n1_ n2_; (try clear hb); (try clear hb2); (try clear hk); (try clear hi)) | ((with_reducible refine gate_dst (N := 8) rfl ?_); refine box_event ?hg (N := 8) ?hd (cs := #[.int .i64 0, .int .i64 0, .int .i64 0, .string (⟨#[]⟩ : ByteArray)]) (t := 40) ?hr ?_; (case hd => rfl); (case hg => rfl); (case hr => first | (go_simp; done) | (go_simp; rfl)); intro gb148 hg w29 hbox hb; have n0_ := Aside0.mk (blk_below (g := gb132) (o := .cells #[.int .i64 258, .int .i64 3, .int .i64 2, .string (⟨#[97, 98]⟩ : ByteArray)] 40 (0, 0)) (by (with_reducible repeat (first | refine blk_drewN ?_ _ | refine blk_drew ?_ | refine blk_alloc ?_ _)); exact BK132.out) hb); have n1_ := Aside0.mk (blk_below (g := gb140) (o := .cells #[.int .i64 (258 : Int), .int .i64 (3 : Int), .int .i64 (2 : Int), .string (⟨#[97, 98]⟩ : ByteArray)] 40 (0, 0)) (by (with_reducible repeat (first | refine blk_drewN ?_ _ | refine blk_drew ?_ | refine blk_alloc ?_ _)); exact BK140.out) hb); have n2_ := Aside0.mk (below_step (by repeat (first | (with_reducible first | exact HB.out | apply below_alloc | apply pw_below_drewN | apply below_drew1 | refine below_set ?_ GE132.out | refine below_set ?_ GE140.out) | exact HB.out)) hb); have n3_ := Aside0.mk (hbox); have n4_ := Aside0.mk ((by rw [hg]; exact (below_size (by repeat (first | (with_reducible first | exact HB.out | apply below_alloc | apply pw_below_drewN | apply below_drew1 | refine below_set ?_ GE132.out | refine below_set ?_ GE140.out) | exact HB.out))) : w.heap.size ≤ gb148)); have n5_ := Aside0.mk ((by rw [hg]; exact (below_size (by repeat (first | (with_reducible first | exact HB.out | apply below_alloc | apply pw_below_drewN | apply below_drew1 | refine below_set ?_ GE132.out | refine below_set ?_ GE140.out) | exact HB.out))) : w.heap.size ≤ gb148)); have n6_ := Aside0.mk ((by rw [hg]; exact Nat.ne_of_lt (blk_lt (g := gb132) (o := .cells #[.int .i64 258, .int .i64 3, .int .i64 2, .string (⟨#[97, 98]⟩ : ByteArray)] 40 (0, 0)) (by (with_reducible repeat (first | refine blk_drewN ?_ _ | refine blk_drew ?_ | refine blk_alloc ?_ _)); exact BK132.out)) : gb132 ≠ gb148)); have n7_ := Aside0.mk ((by rw [hg]; exact Nat.ne_of_gt (blk_lt (g := gb132) (o := .cells #[.int .i64 258, .int .i64 3, .int .i64 2, .string (⟨#[97, 98]⟩ : ByteArray)] 40 (0, 0)) (by (with_reducible repeat (first | refine blk_drewN ?_ _ | refine blk_drew ?_ | refine blk_alloc ?_ _)); exact BK132.out)) : gb148 ≠ gb132)); have n8_ := Aside0.mk ((by rw [hg]; exact Nat.ne_of_lt (blk_lt (g := gb140) (o := .cells #[.int .i64 (258 : Int), .int .i64 (3 : Int), .int .i64 (2 : Int), .string (⟨#[97, 98]⟩ : ByteArray)] 40 (0, 0)) (by (with_reducible repeat (first | refine blk_drewN ?_ _ | refine blk_drew ?_ | refine blk_alloc ?_ _)); exact BK140.out)) : gb140 ≠ gb148)); have n9_ := Aside0.mk ((by rw [hg]; exact Nat.ne_of_gt (blk_lt (g := gb140) (o := .cells #[.int .i64 (258 : Int), .int .i64 (3 : Int), .int .i64 (2 : Int), .string (⟨#[97, 98]⟩ : ByteArray)] 40 (0, 0)) (by (with_reducible repeat (first | refine blk_drewN ?_ _ | refine blk_drew ?_ | refine blk_alloc ?_ _)); exact BK140.out)) : gb148 ≠ gb140)); clear BK132; clear BK140; clear HB; have BK132 := n0_; have BK140 := n1_; have HB := n2_; have BK148 := n3_; have GW148 := n4_; have GE148 := n5_; have NB132_148 := n6_; have NB148_132 := n7_; have NB140_148 := n8_; have NB148_140 := n9_; clear n0_ n1_ n2_ n3_ n4_ n5_ n6_ n7_ n8_ n9_; clear hb hbox hg; have hnb30 := NB148_132.out; have hnc30 := NB132_148.out; have hnb31 := NB148_140.out; have hnc31 := NB140_148.out; have hcz32_0 : w29.cell? ⟨gb148, 0, none⟩ = some (.int .i64 0) := (blk_cell BK148.out 0).trans rfl; have hcz32_1 : w29.cell? ⟨gb148, 1, none⟩ = some (.int .i64 0) := (blk_cell BK148.out 1).trans rfl; have hcz32_2 : w29.cell? ⟨gb148, 2, none⟩ = some (.int .i64 0) := (blk_cell BK148.out 2).trans rfl; have hcz32_3 : w29.cell? ⟨gb148, 3, none⟩ = some (.string (⟨#[]⟩ : ByteArray)) := (blk_cell BK148.out 3).trans rfl; have hfz32_0 := blk_frozen BK148.out 0; have hfz32_1 := blk_frozen BK148.out 1; have hfz32_2 := blk_frozen BK148.out 2; have hfz32_3 := blk_frozen BK148.out 3) | (go_at_call 22; (with_reducible refine (cryostatlaw0_Num.calls t134 t149 _ A10.out).mono ?_); rintro e w' ⟨rfl, ⟨nd, rfl⟩⟩; have hcz33_0 : w29.cell? ⟨gb140, 0, none⟩ = some (.int .i64 (258 : Int)) := (blk_cell BK140.out 0).trans rfl; have hcz33_1 : w29.cell? ⟨gb140, 1, none⟩ = some (.int .i64 (3 : Int)) := (blk_cell BK140.out 1).trans rfl; have hcz33_2 : w29.cell? ⟨gb140, 2, none⟩ = some (.int .i64 (2 : Int)) := (blk_cell BK140.out 2).trans rfl; have hcz33_3 : w29.cell? ⟨gb140, 3, none⟩ = some (.string (⟨#[97, 98]⟩ : ByteArray)) := (blk_cell BK140.out 3).trans rfl; have hfz33_0 := blk_frozen BK140.out 0; have hfz33_1 := blk_frozen BK140.out 1; have hfz33_2 := blk_frozen BK140.out 2; have hfz33_3 := blk_frozen BK140.out 3; have hcz34_0 : w29.cell? ⟨gb132, 0, none⟩ = some (.int .i64 258) := (blk_cell BK132.out 0).trans rfl; have hcz34_1 : w29.cell? ⟨gb132, 1, none⟩ = some (.int .i64 3) := (blk_cell BK132.out 1).trans rfl; have hcz34_2 : w29.cell? ⟨gb132, 2, none⟩ = some (.int .i64 2) := (blk_cell BK132.out 2).trans rfl; have hcz34_3 : w29.cell? ⟨gb132, 3, none⟩ = some (.string (⟨#[97, 98]⟩ : ByteArray)) := (blk_cell BK132.out 3).trans rfl; have hfz34_0 := blk_frozen BK132.out 0; have hfz34_1 := blk_frozen BK132.out 1; have hfz34_2 := blk_frozen BK132.out 2; have hfz34_3 := blk_frozen BK132.out 3) | (go_at_call 22; (with_reducible refine (cryostatlaw0_Num.calls t139 t150 _ A13.out).mono ?_); rintro e w' ⟨rfl, ⟨nd, rfl⟩⟩) | (go_at_call 22; (with_reducible refine (cryostatlaw0_Num.calls t142 t151 _ A15.out).mono ?_); rintro e w' ⟨rfl, ⟨nd, rfl⟩⟩) | (go_at_call 22; (with_reducible refine (cryostatlaw0_Num.calls t147 t152 _ A17.out).mono ?_); rintro e w' ⟨rfl, ⟨nd, rfl⟩⟩) | (go_at_call 30; (with_reducible refine (record_May.calls 258 3 2 (⟨#[97, 98]⟩ : ByteArray) t153 _ A19.out).mono ?_); rintro e w35 ⟨rfl, hb⟩; have n0_ := Aside0.mk (blk_below (g := gb132) (o := .cells #[.int .i64 258, .int .i64 3, .int .i64 2, .string (⟨#[97, 98]⟩ : ByteArray)] 40 (0, 0)) (by (with_reducible repeat (first | refine blk_drewN ?_ _ | refine blk_drew ?_ | refine blk_alloc ?_ _)); refine blk_far ?_ NB132_148.out _; (with_reducible repeat (first | refine blk_drewN ?_ _ | refine blk_drew ?_ | refine blk_alloc ?_ _)); refine blk_far ?_ NB132_148.out _; (with_reducible repeat (first | refine blk_drewN ?_ _ | refine blk_drew ?_ | refine blk_alloc ?_ _)); refine blk_far ?_ NB132_148.out _; (with_reducible repeat (first | refine blk_drewN ?_ _ | refine blk_drew ?_ | refine blk_alloc ?_ _)); refine blk_far ?_ NB132_148.out _; (with_reducible repeat (first | refine blk_drewN ?_ _ | refine blk_drew ?_ | refine blk_alloc ?_ _)); exact BK132.out) hb); have n1_ := Aside0.mk (blk_below (g := gb140) (o := .cells #[.int .i64 (258 : Int), .int .i64 (3 : Int), .int .i64 (2 : Int), .string (⟨#[97, 98]⟩ : ByteArray)] 40 (0, 0)) (by (with_reducible repeat (first | refine blk_drewN ?_ _ | refine blk_drew ?_ | refine blk_alloc ?_ _)); refine blk_far ?_ NB140_148.out _; (with_reducible repeat (first | refine blk_drewN ?_ _ | refine blk_drew ?_ | refine blk_alloc ?_ _)); refine blk_far ?_ NB140_148.out _; (with_reducible repeat (first | refine blk_drewN ?_ _ | refine blk_drew ?_ | refine blk_alloc ?_ _)); refine blk_far ?_ NB140_148.out _; (with_reducible repeat (first | refine blk_drewN ?_ _ | refine blk_drew ?_ | refine blk_alloc ?_ _)); refine blk_far ?_ NB140_148.out _; (with_reducible repeat (first | refine blk_drewN ?_ _ | refine blk_drew ?_ | refine blk_alloc ?_ _)); exact BK140.out) hb); have n2_ := Aside0.mk (blk_below (g := gb148) (o := .cells #[.int .i64 t143, .int .i64 t144, .int .i64 t145, .string t146] 40 (0, 0)) (by (with_reducible repeat (first | refine blk_drewN ?_ _ | refine blk_drew ?_ | refine blk_alloc ?_ _)); refine blk_put (cs := #[.int .i64 t143, .int .i64 t144, .int .i64 t145, .string (⟨#[]⟩ : ByteArray)]) ?_ 3 _ rfl; (with_reducible repeat (first | refine blk_drewN ?_ _ | refine blk_drew ?_ | refine blk_alloc ?_ _)); refine blk_put (cs := #[.int .i64 t143, .int .i64 t144, .int .i64 0, .string (⟨#[]⟩ : ByteArray)]) ?_ 2 _ rfl; (with_reducible repeat (first | refine blk_drewN ?_ _ | refine blk_drew ?_ | refine blk_alloc ?_ _)); refine blk_put (cs := #[.int .i64 t143, .int .i64 0, .int .i64 0, .string (⟨#[]⟩ : ByteArray)]) ?_ 1 _ rfl; (with_reducible repeat (first | refine blk_drewN ?_ _ | refine blk_drew ?_ | refine blk_alloc ?_ _)); refine blk_put (cs := #[.int .i64 0, .int .i64 0, .int .i64 0, .string (⟨#[]⟩ : ByteArray)]) ?_ 0 _ rfl; (with_reducible repeat (first | refine blk_drewN ?_ _ | refine blk_drew ?_ | refine blk_alloc ?_ _)); exact BK148.out) hb); have n3_ := Aside0.mk (below_step (by repeat (first | (with_reducible first | exact HB.out | apply below_alloc | apply pw_below_drewN | apply below_drew1 | refine below_set ?_ GE132.out | refine below_set ?_ GE140.out | refine below_set ?_ GE148.out) | exact HB.out)) hb); clear BK132; clear BK140; clear BK148; clear HB; have BK132 := n0_; have BK140 := n1_; have BK148 := n2_; have HB := n3_; clear n0_ n1_ n2_ n3_; (try clear hb); (try clear hb2); (try clear hk); (try clear hi)))
                      go_ret
                      exact ⟨by first | rfl | (simp [errW_none, errW_some] <;> rfl) | (simp [*, errW_none, errW_some] <;> rfl), by repeat (first | (with_reducible first | exact HB.out | apply below_alloc | apply pw_below_drewN | apply below_drew1 | refine below_set ?_ GE132.out | refine below_set ?_ GE140.out | refine below_set ?_ GE148.out) | exact HB.out)⟩
                    · rw [if_neg c18] at H
                      have c18b0 : (t152 == 300) = false := beq_eq_false_iff_ne.mpr c18
                      have c18b1 : (t152 != 300) = true := bne_iff_ne.mpr c18
                      exact Bool.noConfusion ((Option.some.inj H).trans hr.out)
                  · rw [if_neg c16] at H
                    have c16b0 : (t151 == 300) = false := beq_eq_false_iff_ne.mpr c16
                    have c16b1 : (t151 != 300) = true := bne_iff_ne.mpr c16
                    exact Bool.noConfusion ((Option.some.inj H).trans hr.out)
                · rw [if_neg c14] at H
                  have c14b0 : (t150 == 0) = false := beq_eq_false_iff_ne.mpr c14
                  have c14b1 : (t150 != 0) = true := bne_iff_ne.mpr c14
                  exact Bool.noConfusion ((Option.some.inj H).trans hr.out)
              · rw [if_neg c12] at H
                have c12b0 : (t135 == 258 && (t136 == 3 && (t137 == 2 && (t138.toList == ([97, 98] : List UInt8))))) = false := by simpa using c12
                (try (have c12b1 : decide (t135 = 258 && (t136 == 3 && (t137 == 2 && (t138.toList == ([97, 98] : List UInt8))))) = false := by simpa using c12))
                (try (have c12b2 : (t135 == 258 && (t136 == 3 && (t137 == 2 && (t138.toList == ([97, 98] : List UInt8))))) = false := by simpa using c12))
                (try (have c12b3 : ¬ (t135 = 258 && (t136 == 3 && (t137 == 2 && (t138.toList == ([97, 98] : List UInt8))))) := by simpa using c12))
                clear c12
                exact Bool.noConfusion ((Option.some.inj H).trans hr.out)
            · rw [if_neg c11] at H
              have c11b0 : (t149 == 0) = false := beq_eq_false_iff_ne.mpr c11
              have c11b1 : (t149 != 0) = true := bne_iff_ne.mpr c11
              exact Bool.noConfusion ((Option.some.inj H).trans hr.out)
          · rw [if_neg c9] at H
            have c9b0 : ((t133.extract 0 10).toList == ([0, 0, 1, 2, 3, 2, 2, 0, 97, 98] : List UInt8)) = false := beq_eq_false_iff_ne.mpr c9
            have c9b1 : ((t133.extract 0 10).toList != ([0, 0, 1, 2, 3, 2, 2, 0, 97, 98] : List UInt8)) = true := bne_iff_ne.mpr c9
            exact Bool.noConfusion ((Option.some.inj H).trans hr.out)
        · rw [if_neg c8] at H
          exact absurd H (by simp)
      · rw [if_neg c7] at H
        exact absurd H (by simp)
    · rw [if_neg c6] at H
      have c6b0 : ((t133.size : Int) == 32) = false := beq_eq_false_iff_ne.mpr c6
      have c6b1 : ((t133.size : Int) != 32) = true := bne_iff_ne.mpr c6
      exact Bool.noConfusion ((Option.some.inj H).trans hr.out)
  · rw [if_neg c4] at H
    exact absurd H (by simp)

/-! ### cryostatlaw3_RecordBack: function 8 -/
def cryostatlaw3_RecordBack.j0 : Nat → ByteArray → Int → ByteArray → Int → Bool → Int → Int → Int → ByteArray → Int → Int → Int → ByteArray → Option (Bool)
  | 0, _, _, _, _, _, _, _, _, _, _, _, _, _ => none
  | k + 1, x5, x6, x7, x8, x30, x155000, x155001, x155002, x155003, x156000, x156001, x156002, x156003 => if x30 = true then ((cryostatlaw0_Num.f x6).bind fun t163 => (if t163 = 0 then ((cryostatlaw0_Num.f x8).bind fun t164 => (if t164 = 0 then (some true) else (some (x7.toList == ([] : List UInt8))))) else (if x5.toList = ([] : List UInt8) then ((cryostatlaw0_Num.f x8).bind fun t165 => (if t165 = 0 then (some true) else (some (x7.toList == ([] : List UInt8))))) else (some false)))) else ((record_Get.f k x5).bind fun bt166 => ((cryostatlaw0_Num.f bt166.2.2.2.2).bind fun t172 => (if t172 = 0 then (if (bt166.1 == x155000 && (bt166.2.1 == x155001 && (bt166.2.2.1 == x155002 && (bt166.2.2.2.1.toList == x155003.toList)))) = true then (if ((x5.toList == x7.toList) == (x155000 == x156000 && (x155001 == x156001 && (x155002 == x156002 && (x155003.toList == x156003.toList))))) = true then (some ((x5.size : Int) == 32)) else (some false)) else (some false)) else (some false))))
def cryostatlaw3_RecordBack.f (k : Nat) (a0_0 : Int) (a0_1 : Int) (a0_2 : Int) (a0_3 : ByteArray) (a1_0 : Int) (a1_1 : Int) (a1_2 : Int) (a1_3 : ByteArray) : Option (Bool) := (cryostatlaw3_awake.f k).bind fun t156 => (if t156 = true then ((record_Put.f a0_0 a0_1 a0_2 a0_3).bind fun bt157 => ((record_Put.f a1_0 a1_1 a1_2 a1_3).bind fun bt159 => ((cryostatlaw0_Num.f bt157.2).bind fun t161 => (if t161 = 0 then ((cryostatlaw0_Num.f bt159.2).bind fun t162 => (cryostatlaw3_RecordBack.j0 k bt157.1 bt157.2 bt159.1 bt159.2 (t162 != 0) a0_0 a0_1 a0_2 a0_3 a1_0 a1_1 a1_2 a1_3)) else (cryostatlaw3_RecordBack.j0 k bt157.1 bt157.2 bt159.1 bt159.2 true a0_0 a0_1 a0_2 a0_3 a1_0 a1_1 a1_2 a1_3))))) else (some false))
theorem cryostatlaw3_RecordBack.mono_l : ∀ k, (∀ y0 y1 y2 y3 y4 y5 y6 y7 y8 y9 y10 y11 y12, LeO (cryostatlaw3_RecordBack.j0 k y0 y1 y2 y3 y4 y5 y6 y7 y8 y9 y10 y11 y12) (cryostatlaw3_RecordBack.j0 (k + 1) y0 y1 y2 y3 y4 y5 y6 y7 y8 y9 y10 y11 y12))
  | 0 => fun _ _ _ _ _ _ _ _ _ _ _ _ _ r h => by simp [cryostatlaw3_RecordBack.j0] at h
  | k + 1 => by
    have ih0 := cryostatlaw3_RecordBack.mono_l k
    · intro y0 y1 y2 y3 y4 y5 y6 y7 y8 y9 y10 y11 y12
      unfold cryostatlaw3_RecordBack.j0
      repeat' first
      | (with_reducible exact ih0 _ _ _ _ _ _ _ _ _ _ _ _ _)
      | (with_reducible exact cryostatlaw3_awake.mono _)
      | (with_reducible exact record_Get.mono _ _)
      | (with_reducible exact LeO.refl _)
      | (with_reducible exact LeO.none _)
      | (with_reducible refine LeO.ite ?_ ?_)
      | (with_reducible refine LeO.bind ?_ (fun _ => ?_))
      | exact ih0 _ _ _ _ _ _ _ _ _ _ _ _ _
      | exact cryostatlaw3_awake.mono _
      | exact record_Get.mono _ _
      | exact LeO.none _
      | refine LeO.ite ?_ ?_
      | refine LeO.bind ?_ (fun _ => ?_)
theorem cryostatlaw3_RecordBack.mono : ∀ a0 a1 a2 a3 a4 a5 a6 a7 k, LeO (cryostatlaw3_RecordBack.f k a0 a1 a2 a3 a4 a5 a6 a7) (cryostatlaw3_RecordBack.f (k + 1) a0 a1 a2 a3 a4 a5 a6 a7) := by
  intro a0 a1 a2 a3 a4 a5 a6 a7 k
  have ih0 := cryostatlaw3_RecordBack.mono_l k
  unfold cryostatlaw3_RecordBack.f
  repeat' first
      | (with_reducible exact ih0 _ _ _ _ _ _ _ _ _ _ _ _ _)
      | (with_reducible exact cryostatlaw3_awake.mono _)
      | (with_reducible exact record_Get.mono _ _)
      | (with_reducible exact LeO.refl _)
      | (with_reducible exact LeO.none _)
      | (with_reducible refine LeO.ite ?_ ?_)
      | (with_reducible refine LeO.bind ?_ (fun _ => ?_))
      | exact ih0 _ _ _ _ _ _ _ _ _ _ _ _ _
      | exact cryostatlaw3_awake.mono _
      | exact record_Get.mono _ _
      | exact LeO.none _
      | refine LeO.ite ?_ ?_
      | refine LeO.bind ?_ (fun _ => ?_)
set_option maxHeartbeats 8000000 in
set_option maxRecDepth 100000 in
theorem cryostatlaw3_RecordBack.calls (k : Nat) (a0_0 : Int) (a0_1 : Int) (a0_2 : Int) (a0_3 : ByteArray) (a1_0 : Int) (a1_1 : Int) (a1_2 : Int) (a1_3 : ByteArray) (r : Bool) (w : World) (hr : Aside0 (r = true)) (h : cryostatlaw3_RecordBack.f k a0_0 a0_1 a0_2 a0_3 a1_0 a1_1 a1_2 a1_3 = some r) :
    Calls Try.prog 8 #[.agg #[.int .i64 a0_0, .int .i64 a0_1, .int .i64 a0_2, .string a0_3], .agg #[.int .i64 a1_0, .int .i64 a1_1, .int .i64 a1_2, .string a1_3]] w fun e w' => e = .returned (.bool r) ∧ Below w.heap.size w w' := by
  have hu40 := Try.underlying40
  have HB := Aside0.mk (Below.refl w.heap.size w)
  have H : ((cryostatlaw3_awake.f k).bind fun t156 => (if t156 = true then ((record_Put.f a0_0 a0_1 a0_2 a0_3).bind fun bt157 => ((record_Put.f a1_0 a1_1 a1_2 a1_3).bind fun bt159 => ((cryostatlaw0_Num.f bt157.2).bind fun t161 => (if t161 = 0 then ((cryostatlaw0_Num.f bt159.2).bind fun t162 => (cryostatlaw3_RecordBack.j0 k bt157.1 bt157.2 bt159.1 bt159.2 (t162 != 0) a0_0 a0_1 a0_2 a0_3 a1_0 a1_1 a1_2 a1_3)) else (cryostatlaw3_RecordBack.j0 k bt157.1 bt157.2 bt159.1 bt159.2 true a0_0 a0_1 a0_2 a0_3 a1_0 a1_1 a1_2 a1_3))))) else (some false))) = some r := h
  clear h
  replace H := Option.bind_eq_some_iff.mp H
  obtain ⟨t156, A30, H⟩ := H
  replace H : (if t156 = true then ((record_Put.f a0_0 a0_1 a0_2 a0_3).bind fun bt157 => ((record_Put.f a1_0 a1_1 a1_2 a1_3).bind fun bt159 => ((cryostatlaw0_Num.f bt157.2).bind fun t161 => (if t161 = 0 then ((cryostatlaw0_Num.f bt159.2).bind fun t162 => (cryostatlaw3_RecordBack.j0 k bt157.1 bt157.2 bt159.1 bt159.2 (t162 != 0) a0_0 a0_1 a0_2 a0_3 a1_0 a1_1 a1_2 a1_3)) else (cryostatlaw3_RecordBack.j0 k bt157.1 bt157.2 bt159.1 bt159.2 true a0_0 a0_1 a0_2 a0_3 a1_0 a1_1 a1_2 a1_3))))) else (some false)) = some r := H
  have A3 := Aside0.mk A30
  clear A30
  by_cases c4 : t156 = true
  · subst c4
    have H1 : ((record_Put.f a0_0 a0_1 a0_2 a0_3).bind fun bt157 => ((record_Put.f a1_0 a1_1 a1_2 a1_3).bind fun bt159 => ((cryostatlaw0_Num.f bt157.2).bind fun t161 => (if t161 = 0 then ((cryostatlaw0_Num.f bt159.2).bind fun t162 => (cryostatlaw3_RecordBack.j0 k bt157.1 bt157.2 bt159.1 bt159.2 (t162 != 0) a0_0 a0_1 a0_2 a0_3 a1_0 a1_1 a1_2 a1_3)) else (cryostatlaw3_RecordBack.j0 k bt157.1 bt157.2 bt159.1 bt159.2 true a0_0 a0_1 a0_2 a0_3 a1_0 a1_1 a1_2 a1_3))))) = some r := by rw [if_pos rfl] at H; exact H
    clear H
    have H := H1
    clear H1
    replace H := Option.bind_eq_some_iff.mp H
    obtain ⟨⟨t157, t158⟩, A50, H⟩ := H
    replace H : ((record_Put.f a1_0 a1_1 a1_2 a1_3).bind fun bt159 => ((cryostatlaw0_Num.f t158).bind fun t161 => (if t161 = 0 then ((cryostatlaw0_Num.f bt159.2).bind fun t162 => (cryostatlaw3_RecordBack.j0 k t157 t158 bt159.1 bt159.2 (t162 != 0) a0_0 a0_1 a0_2 a0_3 a1_0 a1_1 a1_2 a1_3)) else (cryostatlaw3_RecordBack.j0 k t157 t158 bt159.1 bt159.2 true a0_0 a0_1 a0_2 a0_3 a1_0 a1_1 a1_2 a1_3)))) = some r := H
    have A5 := Aside0.mk A50
    clear A50
    replace H := Option.bind_eq_some_iff.mp H
    obtain ⟨⟨t159, t160⟩, A60, H⟩ := H
    replace H : ((cryostatlaw0_Num.f t158).bind fun t161 => (if t161 = 0 then ((cryostatlaw0_Num.f t160).bind fun t162 => (cryostatlaw3_RecordBack.j0 k t157 t158 t159 t160 (t162 != 0) a0_0 a0_1 a0_2 a0_3 a1_0 a1_1 a1_2 a1_3)) else (cryostatlaw3_RecordBack.j0 k t157 t158 t159 t160 true a0_0 a0_1 a0_2 a0_3 a1_0 a1_1 a1_2 a1_3))) = some r := H
    have A6 := Aside0.mk A60
    clear A60
    have HC7 := Aside0.mk H
    clear H
    go_enter Try.func8, Try.ntmps8
    go_upto_region 5 with (first | ((with_reducible refine gate_dst (N := 2) rfl ?_); (try (refine gate_guard (by rfl) ?_; dsimp only)); refine box_event ?hg (N := 2) ?hd (cs := #[.int .i64 a0_0, .int .i64 a0_1, .int .i64 a0_2, .string a0_3]) (t := 40) ?hr ?_; (case hd => rfl); (case hg => rfl); (case hr => first | (go_simp; done) | (go_simp; rfl)); intro gb154 hg w8 hbox hb; have n0_ := Aside0.mk (below_step (by repeat (first | (with_reducible first | exact HB.out | apply below_alloc | apply pw_below_drewN | apply below_drew1) | exact HB.out)) hb); have n1_ := Aside0.mk (hbox); have n2_ := Aside0.mk ((by rw [hg]; exact (below_size (by repeat (first | (with_reducible first | exact HB.out | apply below_alloc | apply pw_below_drewN | apply below_drew1) | exact HB.out))) : w.heap.size ≤ gb154)); have n3_ := Aside0.mk ((by rw [hg]; exact (below_size (by repeat (first | (with_reducible first | exact HB.out | apply below_alloc | apply pw_below_drewN | apply below_drew1) | exact HB.out))) : w.heap.size ≤ gb154)); clear HB; have HB := n0_; have BK154 := n1_; have GW154 := n2_; have GE154 := n3_; clear n0_ n1_ n2_ n3_; clear hb hbox hg) | ((with_reducible refine gate_dst (N := 3) rfl ?_); (try (refine gate_guard (by rfl) ?_; dsimp only)); refine box_event ?hg (N := 3) ?hd (cs := #[.int .i64 a1_0, .int .i64 a1_1, .int .i64 a1_2, .string a1_3]) (t := 40) ?hr ?_; (case hd => rfl); (case hg => rfl); (case hr => first | (go_simp; done) | (go_simp; rfl)); intro gb155 hg w9 hbox hb; have n0_ := Aside0.mk (blk_below (g := gb154) (o := .cells #[.int .i64 a0_0, .int .i64 a0_1, .int .i64 a0_2, .string a0_3] 40 (0, 0)) (by (with_reducible repeat (first | refine blk_drewN ?_ _ | refine blk_drew ?_ | refine blk_alloc ?_ _)); exact BK154.out) hb); have n1_ := Aside0.mk (below_step (by repeat (first | (with_reducible first | exact HB.out | apply below_alloc | apply pw_below_drewN | apply below_drew1 | refine below_set ?_ GE154.out) | exact HB.out)) hb); have n2_ := Aside0.mk (hbox); have n3_ := Aside0.mk ((by rw [hg]; exact (below_size (by repeat (first | (with_reducible first | exact HB.out | apply below_alloc | apply pw_below_drewN | apply below_drew1 | refine below_set ?_ GE154.out) | exact HB.out))) : w.heap.size ≤ gb155)); have n4_ := Aside0.mk ((by rw [hg]; exact (below_size (by repeat (first | (with_reducible first | exact HB.out | apply below_alloc | apply pw_below_drewN | apply below_drew1 | refine below_set ?_ GE154.out) | exact HB.out))) : w.heap.size ≤ gb155)); have n5_ := Aside0.mk ((by rw [hg]; exact Nat.ne_of_lt (blk_lt (g := gb154) (o := .cells #[.int .i64 a0_0, .int .i64 a0_1, .int .i64 a0_2, .string a0_3] 40 (0, 0)) (by (with_reducible repeat (first | refine blk_drewN ?_ _ | refine blk_drew ?_ | refine blk_alloc ?_ _)); exact BK154.out)) : gb154 ≠ gb155)); have n6_ := Aside0.mk ((by rw [hg]; exact Nat.ne_of_gt (blk_lt (g := gb154) (o := .cells #[.int .i64 a0_0, .int .i64 a0_1, .int .i64 a0_2, .string a0_3] 40 (0, 0)) (by (with_reducible repeat (first | refine blk_drewN ?_ _ | refine blk_drew ?_ | refine blk_alloc ?_ _)); exact BK154.out)) : gb155 ≠ gb154)); clear BK154; clear HB; have BK154 := n0_; have HB := n1_; have BK155 := n2_; have GW155 := n3_; have GE155 := n4_; have NB154_155 := n5_; have NB155_154 := n6_; clear n0_ n1_ n2_ n3_ n4_ n5_ n6_; clear hb hbox hg) | ((with_reducible refine gate_callee (f := 32) rfl ?_); refine goesL_ (some 11) rfl rfl Try.func32 (by kernel_rfl) rfl #[] rfl (by (try simp only [List.map_toArray, List.map_cons, List.map_nil]); first | done | rfl | (simp only [List.length_drop, List.length_take]; rfl)) ?_; (with_reducible refine (cryostatlaw3_awake.calls k  true _ ⟨rfl⟩ A3.out).mono ?_); rintro e w10 ⟨rfl, hb⟩; refine ⟨_, rfl, ?_⟩; have n0_ := Aside0.mk (blk_below (g := gb154) (o := .cells #[.int .i64 a0_0, .int .i64 a0_1, .int .i64 a0_2, .string a0_3] 40 (0, 0)) (by (with_reducible repeat (first | refine blk_drewN ?_ _ | refine blk_drew ?_ | refine blk_alloc ?_ _)); exact BK154.out) hb); have n1_ := Aside0.mk (blk_below (g := gb155) (o := .cells #[.int .i64 a1_0, .int .i64 a1_1, .int .i64 a1_2, .string a1_3] 40 (0, 0)) (by (with_reducible repeat (first | refine blk_drewN ?_ _ | refine blk_drew ?_ | refine blk_alloc ?_ _)); exact BK155.out) hb); have n2_ := Aside0.mk (below_step (by repeat (first | (with_reducible first | exact HB.out | apply below_alloc | apply pw_below_drewN | apply below_drew1 | refine below_set ?_ GE154.out | refine below_set ?_ GE155.out) | exact HB.out)) hb); clear BK154; clear BK155; clear HB; have BK154 := n0_; have BK155 := n1_; have HB := n2_; clear n0_ n1_ n2_; (try clear hb); (try clear hb2); (try clear hk); (try clear hi); have hnb11 := NB154_155.out; have hnc11 := NB155_154.out; have hcz12_0 : w10.cell? ⟨gb154, 0, none⟩ = some (.int .i64 a0_0) := (blk_cell BK154.out 0).trans rfl; have hcz12_1 : w10.cell? ⟨gb154, 1, none⟩ = some (.int .i64 a0_1) := (blk_cell BK154.out 1).trans rfl; have hcz12_2 : w10.cell? ⟨gb154, 2, none⟩ = some (.int .i64 a0_2) := (blk_cell BK154.out 2).trans rfl; have hcz12_3 : w10.cell? ⟨gb154, 3, none⟩ = some (.string a0_3) := (blk_cell BK154.out 3).trans rfl; have hfz12_0 := blk_frozen BK154.out 0; have hfz12_1 := blk_frozen BK154.out 1; have hfz12_2 := blk_frozen BK154.out 2; have hfz12_3 := blk_frozen BK154.out 3) | ((with_reducible refine gate_callee (f := 26) rfl ?_); refine goesL_ (some 15) rfl rfl Try.func26 (by kernel_rfl) rfl #[.agg #[.int .i64 a0_0, .int .i64 a0_1, .int .i64 a0_2, .string a0_3]] rfl (by (try simp only [List.map_toArray, List.map_cons, List.map_nil]); first | done | rfl | (simp only [List.length_drop, List.length_take]; rfl)) ?_; (with_reducible refine (record_Put.calls a0_0 a0_1 a0_2 a0_3 t157 t158 _ A5.out).mono ?_); rintro e w13 ⟨rfl, hb⟩; refine ⟨_, rfl, ?_⟩; have n0_ := Aside0.mk (blk_below (g := gb154) (o := .cells #[.int .i64 a0_0, .int .i64 a0_1, .int .i64 a0_2, .string a0_3] 40 (0, 0)) (by (with_reducible repeat (first | refine blk_drewN ?_ _ | refine blk_drew ?_ | refine blk_alloc ?_ _)); exact BK154.out) hb); have n1_ := Aside0.mk (blk_below (g := gb155) (o := .cells #[.int .i64 a1_0, .int .i64 a1_1, .int .i64 a1_2, .string a1_3] 40 (0, 0)) (by (with_reducible repeat (first | refine blk_drewN ?_ _ | refine blk_drew ?_ | refine blk_alloc ?_ _)); exact BK155.out) hb); have n2_ := Aside0.mk (below_step (by repeat (first | (with_reducible first | exact HB.out | apply below_alloc | apply pw_below_drewN | apply below_drew1 | refine below_set ?_ GE154.out | refine below_set ?_ GE155.out) | exact HB.out)) hb); clear BK154; clear BK155; clear HB; have BK154 := n0_; have BK155 := n1_; have HB := n2_; clear n0_ n1_ n2_; (try clear hb); (try clear hb2); (try clear hk); (try clear hi); have hcz14_0 : w13.cell? ⟨gb155, 0, none⟩ = some (.int .i64 a1_0) := (blk_cell BK155.out 0).trans rfl; have hcz14_1 : w13.cell? ⟨gb155, 1, none⟩ = some (.int .i64 a1_1) := (blk_cell BK155.out 1).trans rfl; have hcz14_2 : w13.cell? ⟨gb155, 2, none⟩ = some (.int .i64 a1_2) := (blk_cell BK155.out 2).trans rfl; have hcz14_3 : w13.cell? ⟨gb155, 3, none⟩ = some (.string a1_3) := (blk_cell BK155.out 3).trans rfl; have hfz14_0 := blk_frozen BK155.out 0; have hfz14_1 := blk_frozen BK155.out 1; have hfz14_2 := blk_frozen BK155.out 2; have hfz14_3 := blk_frozen BK155.out 3) | ((with_reducible refine gate_callee (f := 26) rfl ?_); refine goesL_ (some 20) rfl rfl Try.func26 (by kernel_rfl) rfl #[.agg #[.int .i64 a1_0, .int .i64 a1_1, .int .i64 a1_2, .string a1_3]] rfl (by (try simp only [List.map_toArray, List.map_cons, List.map_nil]); first | done | rfl | (simp only [List.length_drop, List.length_take]; rfl)) ?_; (with_reducible refine (record_Put.calls a1_0 a1_1 a1_2 a1_3 t159 t160 _ A6.out).mono ?_); rintro e w15 ⟨rfl, hb⟩; refine ⟨_, rfl, ?_⟩; have n0_ := Aside0.mk (blk_below (g := gb154) (o := .cells #[.int .i64 a0_0, .int .i64 a0_1, .int .i64 a0_2, .string a0_3] 40 (0, 0)) (by (with_reducible repeat (first | refine blk_drewN ?_ _ | refine blk_drew ?_ | refine blk_alloc ?_ _)); exact BK154.out) hb); have n1_ := Aside0.mk (blk_below (g := gb155) (o := .cells #[.int .i64 a1_0, .int .i64 a1_1, .int .i64 a1_2, .string a1_3] 40 (0, 0)) (by (with_reducible repeat (first | refine blk_drewN ?_ _ | refine blk_drew ?_ | refine blk_alloc ?_ _)); exact BK155.out) hb); have n2_ := Aside0.mk (below_step (by repeat (first | (with_reducible first | exact HB.out | apply below_alloc | apply pw_below_drewN | apply below_drew1 | refine below_set ?_ GE154.out | refine below_set ?_ GE155.out) | exact HB.out)) hb); clear BK154; clear BK155; clear HB; have BK154 := n0_; have BK155 := n1_; have HB := n2_; clear n0_ n1_ n2_; (try clear hb); (try clear hb2); (try clear hk); (try clear hi)))
    (try simp only [Act.put, List.setIfInBounds_toArray, List.set_cons_zero, List.set_cons_succ])
    go_cut [30] (fun v30 wc => ∃ (kq : Nat) (x30_6 : Bool), v30 = .bool x30_6 ∧ Aside0 (cryostatlaw3_RecordBack.j0 kq t157 t158 t159 t160 x30_6 a0_0 a0_1 a0_2 a0_3 a1_0 a1_1 a1_2 a1_3 = some r) ∧ Aside0 (kq ≤ k) ∧ Aside0 (wc.heap[gb154]? = some (.cells #[.int .i64 a0_0, .int .i64 a0_1, .int .i64 a0_2, .string a0_3] 40 (0, 0))) ∧ Aside0 (wc.heap[gb155]? = some (.cells #[.int .i64 a1_0, .int .i64 a1_1, .int .i64 a1_2, .string a1_3] 40 (0, 0))) ∧ Aside0 (Below w.heap.size w wc))
    case first =>
      have H := HC7.out
      clear HC7
      replace H := Option.bind_eq_some_iff.mp H
      obtain ⟨t161, A160, H⟩ := H
      replace H : (if t161 = 0 then ((cryostatlaw0_Num.f t160).bind fun t162 => (cryostatlaw3_RecordBack.j0 k t157 t158 t159 t160 (t162 != 0) a0_0 a0_1 a0_2 a0_3 a1_0 a1_1 a1_2 a1_3)) else (cryostatlaw3_RecordBack.j0 k t157 t158 t159 t160 true a0_0 a0_1 a0_2 a0_3 a1_0 a1_1 a1_2 a1_3)) = some r := H
      have A16 := Aside0.mk A160
      clear A160
      by_cases c17 : t161 = 0
      · rw [if_pos c17] at H
        have c17b0 : (t161 == 0) = true := beq_iff_eq.mpr c17
        have c17b1 : (t161 != 0) = false := bne_eq_false_iff_eq.mpr c17
        clear c17
        (first | rw [c17b0] | (simp only [i64_w, i32_w]; rw [c17b0]) | skip)
        replace H := Option.bind_eq_some_iff.mp H
        obtain ⟨t162, A180, H⟩ := H
        replace H : (cryostatlaw3_RecordBack.j0 k t157 t158 t159 t160 (t162 != 0) a0_0 a0_1 a0_2 a0_3 a1_0 a1_1 a1_2 a1_3) = some r := H
        have A18 := Aside0.mk A180
        clear A180
        have H' := Aside0.mk H
        clear H
        go_wp2_with (first | ((with_reducible refine gate_callee (f := 22) rfl ?_); refine goesL_ (some 24) rfl rfl Try.func22 (by kernel_rfl) rfl #[.int .i64 t158] rfl (by (try simp only [List.map_toArray, List.map_cons, List.map_nil]); first | done | rfl | (simp only [List.length_drop, List.length_take]; rfl)) ?_; (with_reducible refine (cryostatlaw0_Num.calls t158 t161 _ A16.out).mono ?_); rintro e w' ⟨rfl, ⟨nd, rfl⟩⟩; refine ⟨_, rfl, ?_⟩) | (go_at_call 22; (with_reducible refine (cryostatlaw0_Num.calls t160 t162 _ A18.out).mono ?_); rintro e w' ⟨rfl, ⟨nd, rfl⟩⟩))
        go_meet
        case rel => exact ⟨_, ((t162 != 0)), (by first | rfl | (simp; done) | (simp [*]; done)), H', ⟨by first | omega | exact Nat.le_refl _⟩, ⟨by (with_reducible repeat (first | refine blk_drewN ?_ _ | refine blk_drew ?_ | refine blk_alloc ?_ _)); exact BK154.out⟩, ⟨by (with_reducible repeat (first | refine blk_drewN ?_ _ | refine blk_drew ?_ | refine blk_alloc ?_ _)); exact BK155.out⟩, ⟨by repeat (first | (with_reducible first | exact HB.out | apply below_alloc | apply pw_below_drewN | apply below_drew1 | refine below_set ?_ GE154.out | refine below_set ?_ GE155.out) | exact HB.out)⟩⟩
      · rw [if_neg c17] at H
        have c17b0 : (t161 == 0) = false := beq_eq_false_iff_ne.mpr c17
        have c17b1 : (t161 != 0) = true := bne_iff_ne.mpr c17
        (first | rw [c17b0] | (simp only [i64_w, i32_w]; rw [c17b0]) | skip)
        have H' := Aside0.mk H
        clear H
        go_wp2_with (first | ((with_reducible refine gate_callee (f := 22) rfl ?_); refine goesL_ (some 24) rfl rfl Try.func22 (by kernel_rfl) rfl #[.int .i64 t158] rfl (by (try simp only [List.map_toArray, List.map_cons, List.map_nil]); first | done | rfl | (simp only [List.length_drop, List.length_take]; rfl)) ?_; (with_reducible refine (cryostatlaw0_Num.calls t158 t161 _ A16.out).mono ?_); rintro e w' ⟨rfl, ⟨nd, rfl⟩⟩; refine ⟨_, rfl, ?_⟩))
        go_meet
        case rel => exact ⟨_, (true), (by first | rfl | (simp; done) | (simp [*]; done)), H', ⟨by first | omega | exact Nat.le_refl _⟩, ⟨by (with_reducible repeat (first | refine blk_drewN ?_ _ | refine blk_drew ?_ | refine blk_alloc ?_ _)); exact BK154.out⟩, ⟨by (with_reducible repeat (first | refine blk_drewN ?_ _ | refine blk_drew ?_ | refine blk_alloc ?_ _)); exact BK155.out⟩, ⟨by repeat (first | (with_reducible first | exact HB.out | apply below_alloc | apply pw_below_drewN | apply below_drew1 | refine below_set ?_ GE154.out | refine below_set ?_ GE155.out) | exact HB.out)⟩⟩
    case rest =>
      clear HC7
      try clear c1
      try clear c2
      try clear p2
      try clear c3
      try clear c4
      try clear c8
      try clear c11
      try clear c17
      try clear c17b0
      try clear c17b1
      try clear hcz12_0
      try clear hcz12_1
      try clear hcz12_2
      try clear hcz12_3
      try clear hcz14_0
      try clear hcz14_1
      try clear hcz14_2
      try clear hcz14_3
      try clear hfz12_0
      try clear hfz12_1
      try clear hfz12_2
      try clear hfz12_3
      try clear hfz14_0
      try clear hfz14_1
      try clear hfz14_2
      try clear hfz14_3
      obtain ⟨kq, x30_6, rfl, HA, HJ6, BK154, BK155, HB⟩ := hcut
      cases kq with
      | zero => exact absurd HA.out (by simp [cryostatlaw3_RecordBack.j0])
      | succ kj6 =>
        have H := HA.out
        clear HA
        simp only [cryostatlaw3_RecordBack.j0] at H
        by_cases c19 : x30_6 = true
        · subst c19
          have H1 : ((cryostatlaw0_Num.f t158).bind fun t163 => (if t163 = 0 then ((cryostatlaw0_Num.f t160).bind fun t164 => (if t164 = 0 then (some true) else (some (t159.toList == ([] : List UInt8))))) else (if t157.toList = ([] : List UInt8) then ((cryostatlaw0_Num.f t160).bind fun t165 => (if t165 = 0 then (some true) else (some (t159.toList == ([] : List UInt8))))) else (some false)))) = some r := by rw [if_pos rfl] at H; exact H
          clear H
          have H := H1
          clear H1
          replace H := Option.bind_eq_some_iff.mp H
          obtain ⟨t163, A200, H⟩ := H
          replace H : (if t163 = 0 then ((cryostatlaw0_Num.f t160).bind fun t164 => (if t164 = 0 then (some true) else (some (t159.toList == ([] : List UInt8))))) else (if t157.toList = ([] : List UInt8) then ((cryostatlaw0_Num.f t160).bind fun t165 => (if t165 = 0 then (some true) else (some (t159.toList == ([] : List UInt8))))) else (some false))) = some r := H
          have A20 := Aside0.mk A200
          clear A200
          by_cases c21 : t163 = 0
          · rw [if_pos c21] at H
            have c21b0 : (t163 == 0) = true := beq_iff_eq.mpr c21
            have c21b1 : (t163 != 0) = false := bne_eq_false_iff_eq.mpr c21
            clear c21
            replace H := Option.bind_eq_some_iff.mp H
            obtain ⟨t164, A220, H⟩ := H
            replace H : (if t164 = 0 then (some true) else (some (t159.toList == ([] : List UInt8)))) = some r := H
            have A22 := Aside0.mk A220
            clear A220
            by_cases c23 : t164 = 0
            · rw [if_pos c23] at H
              have c23b0 : (t164 == 0) = true := beq_iff_eq.mpr c23
              have c23b1 : (t164 != 0) = false := bne_eq_false_iff_eq.mpr c23
              clear c23
              obtain rfl := Option.some.inj H
              go_wp2_with (first | ((with_reducible refine gate_callee (f := 22) rfl ?_); refine goesL_ (some 32) rfl rfl Try.func22 (by kernel_rfl) rfl #[.int .i64 t158] rfl (by (try simp only [List.map_toArray, List.map_cons, List.map_nil]); first | done | rfl | (simp only [List.length_drop, List.length_take]; rfl)) ?_; (with_reducible refine (cryostatlaw0_Num.calls t158 t163 _ A20.out).mono ?_); rintro e w' ⟨rfl, ⟨nd, rfl⟩⟩; refine ⟨_, rfl, ?_⟩) | (go_at_call 22; (with_reducible refine (cryostatlaw0_Num.calls t160 t164 _ A22.out).mono ?_); rintro e w' ⟨rfl, ⟨nd, rfl⟩⟩))
              go_ret
              exact ⟨by first | rfl | (simp [errW_none, errW_some] <;> rfl) | (simp [*, errW_none, errW_some] <;> rfl), by repeat (first | (with_reducible first | exact HB.out | apply below_alloc | apply pw_below_drewN | apply below_drew1 | refine below_set ?_ GE154.out | refine below_set ?_ GE155.out) | exact HB.out)⟩
            · rw [if_neg c23] at H
              have c23b0 : (t164 == 0) = false := beq_eq_false_iff_ne.mpr c23
              have c23b1 : (t164 != 0) = true := bne_iff_ne.mpr c23
              obtain rfl := Option.some.inj H
              go_wp2_with (first | ((with_reducible refine gate_callee (f := 22) rfl ?_); refine goesL_ (some 32) rfl rfl Try.func22 (by kernel_rfl) rfl #[.int .i64 t158] rfl (by (try simp only [List.map_toArray, List.map_cons, List.map_nil]); first | done | rfl | (simp only [List.length_drop, List.length_take]; rfl)) ?_; (with_reducible refine (cryostatlaw0_Num.calls t158 t163 _ A20.out).mono ?_); rintro e w' ⟨rfl, ⟨nd, rfl⟩⟩; refine ⟨_, rfl, ?_⟩) | (go_at_call 22; (with_reducible refine (cryostatlaw0_Num.calls t160 t164 _ A22.out).mono ?_); rintro e w' ⟨rfl, ⟨nd, rfl⟩⟩))
              go_ret
              exact ⟨by first | rfl | (simp [errW_none, errW_some] <;> rfl) | (simp [*, errW_none, errW_some] <;> rfl), by repeat (first | (with_reducible first | exact HB.out | apply below_alloc | apply pw_below_drewN | apply below_drew1 | refine below_set ?_ GE154.out | refine below_set ?_ GE155.out) | exact HB.out)⟩
          · rw [if_neg c21] at H
            have c21b0 : (t163 == 0) = false := beq_eq_false_iff_ne.mpr c21
            have c21b1 : (t163 != 0) = true := bne_iff_ne.mpr c21
            by_cases c24 : t157.toList = ([] : List UInt8)
            · rw [if_pos c24] at H
              have c24b0 : (t157.toList == ([] : List UInt8)) = true := beq_iff_eq.mpr c24
              have c24b1 : (t157.toList != ([] : List UInt8)) = false := bne_eq_false_iff_eq.mpr c24
              clear c24
              replace H := Option.bind_eq_some_iff.mp H
              obtain ⟨t165, A250, H⟩ := H
              replace H : (if t165 = 0 then (some true) else (some (t159.toList == ([] : List UInt8)))) = some r := H
              have A25 := Aside0.mk A250
              clear A250
              by_cases c26 : t165 = 0
              · rw [if_pos c26] at H
                have c26b0 : (t165 == 0) = true := beq_iff_eq.mpr c26
                have c26b1 : (t165 != 0) = false := bne_eq_false_iff_eq.mpr c26
                clear c26
                obtain rfl := Option.some.inj H
                go_wp2_with (first | ((with_reducible refine gate_callee (f := 22) rfl ?_); refine goesL_ (some 32) rfl rfl Try.func22 (by kernel_rfl) rfl #[.int .i64 t158] rfl (by (try simp only [List.map_toArray, List.map_cons, List.map_nil]); first | done | rfl | (simp only [List.length_drop, List.length_take]; rfl)) ?_; (with_reducible refine (cryostatlaw0_Num.calls t158 t163 _ A20.out).mono ?_); rintro e w' ⟨rfl, ⟨nd, rfl⟩⟩; refine ⟨_, rfl, ?_⟩) | (go_at_call 22; (with_reducible refine (cryostatlaw0_Num.calls t160 t165 _ A25.out).mono ?_); rintro e w' ⟨rfl, ⟨nd, rfl⟩⟩))
                go_ret
                exact ⟨by first | rfl | (simp [errW_none, errW_some] <;> rfl) | (simp [*, errW_none, errW_some] <;> rfl), by repeat (first | (with_reducible first | exact HB.out | apply below_alloc | apply pw_below_drewN | apply below_drew1 | refine below_set ?_ GE154.out | refine below_set ?_ GE155.out) | exact HB.out)⟩
              · rw [if_neg c26] at H
                have c26b0 : (t165 == 0) = false := beq_eq_false_iff_ne.mpr c26
                have c26b1 : (t165 != 0) = true := bne_iff_ne.mpr c26
                obtain rfl := Option.some.inj H
                go_wp2_with (first | ((with_reducible refine gate_callee (f := 22) rfl ?_); refine goesL_ (some 32) rfl rfl Try.func22 (by kernel_rfl) rfl #[.int .i64 t158] rfl (by (try simp only [List.map_toArray, List.map_cons, List.map_nil]); first | done | rfl | (simp only [List.length_drop, List.length_take]; rfl)) ?_; (with_reducible refine (cryostatlaw0_Num.calls t158 t163 _ A20.out).mono ?_); rintro e w' ⟨rfl, ⟨nd, rfl⟩⟩; refine ⟨_, rfl, ?_⟩) | (go_at_call 22; (with_reducible refine (cryostatlaw0_Num.calls t160 t165 _ A25.out).mono ?_); rintro e w' ⟨rfl, ⟨nd, rfl⟩⟩))
                go_ret
                exact ⟨by first | rfl | (simp [errW_none, errW_some] <;> rfl) | (simp [*, errW_none, errW_some] <;> rfl), by repeat (first | (with_reducible first | exact HB.out | apply below_alloc | apply pw_below_drewN | apply below_drew1 | refine below_set ?_ GE154.out | refine below_set ?_ GE155.out) | exact HB.out)⟩
            · rw [if_neg c24] at H
              have c24b0 : (t157.toList == ([] : List UInt8)) = false := beq_eq_false_iff_ne.mpr c24
              have c24b1 : (t157.toList != ([] : List UInt8)) = true := bne_iff_ne.mpr c24
              exact Bool.noConfusion ((Option.some.inj H).trans hr.out)
        · replace c19 := Bool.eq_false_iff.mpr c19
          subst c19
          have H1 : ((record_Get.f kj6 t157).bind fun bt166 => ((cryostatlaw0_Num.f bt166.2.2.2.2).bind fun t172 => (if t172 = 0 then (if (bt166.1 == a0_0 && (bt166.2.1 == a0_1 && (bt166.2.2.1 == a0_2 && (bt166.2.2.2.1.toList == a0_3.toList)))) = true then (if ((t157.toList == t159.toList) == (a0_0 == a1_0 && (a0_1 == a1_1 && (a0_2 == a1_2 && (a0_3.toList == a1_3.toList))))) = true then (some ((t157.size : Int) == 32)) else (some false)) else (some false)) else (some false)))) = some r := by rw [if_neg (show ¬ (false = true) by decide)] at H; exact H
          clear H
          have H := H1
          clear H1
          replace H := Option.bind_eq_some_iff.mp H
          obtain ⟨⟨t166, t167, t168, t169, t170⟩, A270, H⟩ := H
          replace H : ((cryostatlaw0_Num.f t170).bind fun t172 => (if t172 = 0 then (if (t166 == a0_0 && (t167 == a0_1 && (t168 == a0_2 && (t169.toList == a0_3.toList)))) = true then (if ((t157.toList == t159.toList) == (a0_0 == a1_0 && (a0_1 == a1_1 && (a0_2 == a1_2 && (a0_3.toList == a1_3.toList))))) = true then (some ((t157.size : Int) == 32)) else (some false)) else (some false)) else (some false))) = some r := H
          have A27 := Aside0.mk A270
          clear A270
          replace H := Option.bind_eq_some_iff.mp H
          obtain ⟨t172, A280, H⟩ := H
          replace H : (if t172 = 0 then (if (t166 == a0_0 && (t167 == a0_1 && (t168 == a0_2 && (t169.toList == a0_3.toList)))) = true then (if ((t157.toList == t159.toList) == (a0_0 == a1_0 && (a0_1 == a1_1 && (a0_2 == a1_2 && (a0_3.toList == a1_3.toList))))) = true then (some ((t157.size : Int) == 32)) else (some false)) else (some false)) else (some false)) = some r := H
          have A28 := Aside0.mk A280
          clear A280
          by_cases c29 : t172 = 0
          · rw [if_pos c29] at H
            have c29b0 : (t172 == 0) = true := beq_iff_eq.mpr c29
            have c29b1 : (t172 != 0) = false := bne_eq_false_iff_eq.mpr c29
            clear c29
            by_cases c30 : (t166 == a0_0 && (t167 == a0_1 && (t168 == a0_2 && (t169.toList == a0_3.toList)))) = true
            · rw [if_pos c30] at H
              have c30b0 : (t166 == a0_0 && (t167 == a0_1 && (t168 == a0_2 && (t169.toList == a0_3.toList)))) = true := c30
              (try (have c30b1 : decide (t166 = a0_0 && (t167 == a0_1 && (t168 == a0_2 && (t169.toList == a0_3.toList)))) = true := by simpa using c30))
              (try (have c30b2 : (t166 == a0_0 && (t167 == a0_1 && (t168 == a0_2 && (t169.toList == a0_3.toList)))) = true := by simpa using c30))
              clear c30
              by_cases c31 : ((t157.toList == t159.toList) == (a0_0 == a1_0 && (a0_1 == a1_1 && (a0_2 == a1_2 && (a0_3.toList == a1_3.toList))))) = true
              · rw [if_pos c31] at H
                have c31b0 : ((t157.toList == t159.toList) == (a0_0 == a1_0 && (a0_1 == a1_1 && (a0_2 == a1_2 && (a0_3.toList == a1_3.toList))))) = true := c31
                (try (have c31b1 : decide ((t157.toList == t159.toList) = (a0_0 == a1_0 && (a0_1 == a1_1 && (a0_2 == a1_2 && (a0_3.toList == a1_3.toList))))) = true := by simpa using c31))
                (try (have c31b2 : ((t157.toList == t159.toList) == (a0_0 == a1_0 && (a0_1 == a1_1 && (a0_2 == a1_2 && (a0_3.toList == a1_3.toList))))) = true := by simpa using c31))
                clear c31
                obtain rfl := Option.some.inj H
                go_wp2_with (first | ((with_reducible refine gate_callee (f := 28) rfl ?_); refine goesL_ (some 49) rfl rfl Try.func28 (by kernel_rfl) rfl #[.string t157] rfl (by (try simp only [List.map_toArray, List.map_cons, List.map_nil]); first | done | rfl | (simp only [List.length_drop, List.length_take]; rfl)) ?_; (with_reducible refine (record_Get.calls kj6 t157 t166 t167 t168 t169 t170 _ A27.out).mono ?_); rintro e w32 ⟨rfl, hb⟩; refine ⟨_, rfl, ?_⟩; have n0_ := Aside0.mk (blk_below (g := gb154) (o := .cells #[.int .i64 a0_0, .int .i64 a0_1, .int .i64 a0_2, .string a0_3] 40 (0, 0)) (by (with_reducible repeat (first | refine blk_drewN ?_ _ | refine blk_drew ?_ | refine blk_alloc ?_ _)); exact BK154.out) hb); have n1_ := Aside0.mk (blk_below (g := gb155) (o := .cells #[.int .i64 a1_0, .int .i64 a1_1, .int .i64 a1_2, .string a1_3] 40 (0, 0)) (by (with_reducible repeat (first | refine blk_drewN ?_ _ | refine blk_drew ?_ | refine blk_alloc ?_ _)); exact BK155.out) hb); have n2_ := Aside0.mk (below_step (by repeat (first | (with_reducible first | exact HB.out | apply below_alloc | apply pw_below_drewN | apply below_drew1 | refine below_set ?_ GE154.out | refine below_set ?_ GE155.out) | exact HB.out)) hb); clear BK154; clear BK155; clear HB; have BK154 := n0_; have BK155 := n1_; have HB := n2_; clear n0_ n1_ n2_; (try clear hb); (try clear hb2); (try clear hk); (try clear hi)) | ((with_reducible refine gate_dst (N := 9) rfl ?_); (try (refine gate_guard (by rfl) ?_; dsimp only)); refine box_event ?hg (N := 9) ?hd (cs := #[.int .i64 0, .int .i64 0, .int .i64 0, .string (⟨#[]⟩ : ByteArray)]) (t := 40) ?hr ?_; (case hd => rfl); (case hg => rfl); (case hr => first | (go_simp; done) | (go_simp; rfl)); intro gb171 hg w33 hbox hb; have n0_ := Aside0.mk (blk_below (g := gb154) (o := .cells #[.int .i64 a0_0, .int .i64 a0_1, .int .i64 a0_2, .string a0_3] 40 (0, 0)) (by (with_reducible repeat (first | refine blk_drewN ?_ _ | refine blk_drew ?_ | refine blk_alloc ?_ _)); exact BK154.out) hb); have n1_ := Aside0.mk (blk_below (g := gb155) (o := .cells #[.int .i64 a1_0, .int .i64 a1_1, .int .i64 a1_2, .string a1_3] 40 (0, 0)) (by (with_reducible repeat (first | refine blk_drewN ?_ _ | refine blk_drew ?_ | refine blk_alloc ?_ _)); exact BK155.out) hb); have n2_ := Aside0.mk (below_step (by repeat (first | (with_reducible first | exact HB.out | apply below_alloc | apply pw_below_drewN | apply below_drew1 | refine below_set ?_ GE154.out | refine below_set ?_ GE155.out) | exact HB.out)) hb); have n3_ := Aside0.mk (hbox); have n4_ := Aside0.mk ((by rw [hg]; exact (below_size (by repeat (first | (with_reducible first | exact HB.out | apply below_alloc | apply pw_below_drewN | apply below_drew1 | refine below_set ?_ GE154.out | refine below_set ?_ GE155.out) | exact HB.out))) : w.heap.size ≤ gb171)); have n5_ := Aside0.mk ((by rw [hg]; exact (below_size (by repeat (first | (with_reducible first | exact HB.out | apply below_alloc | apply pw_below_drewN | apply below_drew1 | refine below_set ?_ GE154.out | refine below_set ?_ GE155.out) | exact HB.out))) : w.heap.size ≤ gb171)); have n6_ := Aside0.mk ((by rw [hg]; exact Nat.ne_of_lt (blk_lt (g := gb154) (o := .cells #[.int .i64 a0_0, .int .i64 a0_1, .int .i64 a0_2, .string a0_3] 40 (0, 0)) (by (with_reducible repeat (first | refine blk_drewN ?_ _ | refine blk_drew ?_ | refine blk_alloc ?_ _)); exact BK154.out)) : gb154 ≠ gb171)); have n7_ := Aside0.mk ((by rw [hg]; exact Nat.ne_of_gt (blk_lt (g := gb154) (o := .cells #[.int .i64 a0_0, .int .i64 a0_1, .int .i64 a0_2, .string a0_3] 40 (0, 0)) (by (with_reducible repeat (first | refine blk_drewN ?_ _ | refine blk_drew ?_ | refine blk_alloc ?_ _)); exact BK154.out)) : gb171 ≠ gb154)); have n8_ := Aside0.mk ((by rw [hg]; exact Nat.ne_of_lt (blk_lt (g := gb155) (o := .cells #[.int .i64 a1_0, .int .i64 a1_1, .int .i64 a1_2, .string a1_3] 40 (0, 0)) (by (with_reducible repeat (first | refine blk_drewN ?_ _ | refine blk_drew ?_ | refine blk_alloc ?_ _)); exact BK155.out)) : gb155 ≠ gb171)); have n9_ := Aside0.mk ((by rw [hg]; exact Nat.ne_of_gt (blk_lt (g := gb155) (o := .cells #[.int .i64 a1_0, .int .i64 a1_1, .int .i64 a1_2, .string a1_3] 40 (0, 0)) (by (with_reducible repeat (first | refine blk_drewN ?_ _ | refine blk_drew ?_ | refine blk_alloc ?_ _)); exact BK155.out)) : gb171 ≠ gb155)); clear BK154; clear BK155; clear HB; have BK154 := n0_; have BK155 := n1_; have HB := n2_; have BK171 := n3_; have GW171 := n4_; have GE171 := n5_; have NB154_171 := n6_; have NB171_154 := n7_; have NB155_171 := n8_; have NB171_155 := n9_; clear n0_ n1_ n2_ n3_ n4_ n5_ n6_ n7_ n8_ n9_; clear hb hbox hg; have hnb34 := NB171_154.out; have hnc34 := NB154_171.out; have hnb35 := NB171_155.out; have hnc35 := NB155_171.out; have hcz36_0 : w33.cell? ⟨gb171, 0, none⟩ = some (.int .i64 0) := (blk_cell BK171.out 0).trans rfl; have hcz36_1 : w33.cell? ⟨gb171, 1, none⟩ = some (.int .i64 0) := (blk_cell BK171.out 1).trans rfl; have hcz36_2 : w33.cell? ⟨gb171, 2, none⟩ = some (.int .i64 0) := (blk_cell BK171.out 2).trans rfl; have hcz36_3 : w33.cell? ⟨gb171, 3, none⟩ = some (.string (⟨#[]⟩ : ByteArray)) := (blk_cell BK171.out 3).trans rfl; have hfz36_0 := blk_frozen BK171.out 0; have hfz36_1 := blk_frozen BK171.out 1; have hfz36_2 := blk_frozen BK171.out 2; have hfz36_3 := blk_frozen BK171.out 3) | ((with_reducible refine gate_callee (f := 22) rfl ?_); refine goesL_ (some 53) rfl rfl Try.func22 (by kernel_rfl) rfl #[.int .i64 t170] rfl (by (try simp only [List.map_toArray, List.map_cons, List.map_nil]); first | done | rfl | (simp only [List.length_drop, List.length_take]; rfl)) ?_; (with_reducible refine (cryostatlaw0_Num.calls t170 t172 _ A28.out).mono ?_); rintro e w' ⟨rfl, ⟨nd, rfl⟩⟩; refine ⟨_, rfl, ?_⟩; have hnb37 := NB154_155.out; have hnc37 := NB155_154.out; have hcz38_0 : w33.cell? ⟨gb154, 0, none⟩ = some (.int .i64 a0_0) := (blk_cell BK154.out 0).trans rfl; have hcz38_1 : w33.cell? ⟨gb154, 1, none⟩ = some (.int .i64 a0_1) := (blk_cell BK154.out 1).trans rfl; have hcz38_2 : w33.cell? ⟨gb154, 2, none⟩ = some (.int .i64 a0_2) := (blk_cell BK154.out 2).trans rfl; have hcz38_3 : w33.cell? ⟨gb154, 3, none⟩ = some (.string a0_3) := (blk_cell BK154.out 3).trans rfl; have hfz38_0 := blk_frozen BK154.out 0; have hfz38_1 := blk_frozen BK154.out 1; have hfz38_2 := blk_frozen BK154.out 2; have hfz38_3 := blk_frozen BK154.out 3; have hcz39_0 : w33.cell? ⟨gb155, 0, none⟩ = some (.int .i64 a1_0) := (blk_cell BK155.out 0).trans rfl; have hcz39_1 : w33.cell? ⟨gb155, 1, none⟩ = some (.int .i64 a1_1) := (blk_cell BK155.out 1).trans rfl; have hcz39_2 : w33.cell? ⟨gb155, 2, none⟩ = some (.int .i64 a1_2) := (blk_cell BK155.out 2).trans rfl; have hcz39_3 : w33.cell? ⟨gb155, 3, none⟩ = some (.string a1_3) := (blk_cell BK155.out 3).trans rfl; have hfz39_0 := blk_frozen BK155.out 0; have hfz39_1 := blk_frozen BK155.out 1; have hfz39_2 := blk_frozen BK155.out 2; have hfz39_3 := blk_frozen BK155.out 3))
                go_ret
                exact ⟨by first | rfl | (simp [errW_none, errW_some] <;> rfl) | (simp [*, errW_none, errW_some] <;> rfl), by repeat (first | (with_reducible first | exact HB.out | apply below_alloc | apply pw_below_drewN | apply below_drew1 | refine below_set ?_ GE154.out | refine below_set ?_ GE155.out | refine below_set ?_ GE171.out) | exact HB.out)⟩
              · rw [if_neg c31] at H
                have c31b0 : ((t157.toList == t159.toList) == (a0_0 == a1_0 && (a0_1 == a1_1 && (a0_2 == a1_2 && (a0_3.toList == a1_3.toList))))) = false := by simpa using c31
                (try (have c31b1 : decide ((t157.toList == t159.toList) = (a0_0 == a1_0 && (a0_1 == a1_1 && (a0_2 == a1_2 && (a0_3.toList == a1_3.toList))))) = false := by simpa using c31))
                (try (have c31b2 : ((t157.toList == t159.toList) == (a0_0 == a1_0 && (a0_1 == a1_1 && (a0_2 == a1_2 && (a0_3.toList == a1_3.toList))))) = false := by simpa using c31))
                (try (have c31b3 : ¬ ((t157.toList == t159.toList) = (a0_0 == a1_0 && (a0_1 == a1_1 && (a0_2 == a1_2 && (a0_3.toList == a1_3.toList))))) := by simpa using c31))
                clear c31
                exact Bool.noConfusion ((Option.some.inj H).trans hr.out)
            · rw [if_neg c30] at H
              have c30b0 : (t166 == a0_0 && (t167 == a0_1 && (t168 == a0_2 && (t169.toList == a0_3.toList)))) = false := by simpa using c30
              (try (have c30b1 : decide (t166 = a0_0 && (t167 == a0_1 && (t168 == a0_2 && (t169.toList == a0_3.toList)))) = false := by simpa using c30))
              (try (have c30b2 : (t166 == a0_0 && (t167 == a0_1 && (t168 == a0_2 && (t169.toList == a0_3.toList)))) = false := by simpa using c30))
              (try (have c30b3 : ¬ (t166 = a0_0 && (t167 == a0_1 && (t168 == a0_2 && (t169.toList == a0_3.toList)))) := by simpa using c30))
              clear c30
              exact Bool.noConfusion ((Option.some.inj H).trans hr.out)
          · rw [if_neg c29] at H
            have c29b0 : (t172 == 0) = false := beq_eq_false_iff_ne.mpr c29
            have c29b1 : (t172 != 0) = true := bne_iff_ne.mpr c29
            exact Bool.noConfusion ((Option.some.inj H).trans hr.out)
  · replace c4 := Bool.eq_false_iff.mpr c4
    subst c4
    have H1 : (some false) = some r := by rw [if_neg (show ¬ (false = true) by decide)] at H; exact H
    clear H
    have H := H1
    clear H1
    exact Bool.noConfusion ((Option.some.inj H).trans hr.out)
end Go.Proofs.Ytpadejamelppfaa.PRecordBack
