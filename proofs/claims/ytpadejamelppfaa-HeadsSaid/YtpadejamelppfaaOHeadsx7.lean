/- Contracts of the functions that the law cryostatlaw5.Heads reaches (printed for this claim by a tool of the kit, and pruned): each Go function's call comes to its Lean function's answer; those of the law package for the answer true alone. -/
-- printed by a program out of the translation, with contracts of this session's own for what the kit's print refuses
import Derived.Test.YtpadejamelppfaaPHeadsx0
import Derived.Test.YtpadejamelppfaaPHeadsx1
import Derived.Test.YtpadejamelppfaaPHeadsx2
import Derived.Test.YtpadejamelppfaaPHeadsx3
import Derived.Test.YtpadejamelppfaaPHeadsx6
namespace Go.Proofs.Ytpadejamelppfaa.PHeads
open Go.RowKit Go.Proofs.YtpadejamelppfaaW.PrintWords Go.Proofs.YtpadejamelppfaaW.PrintLast Go.Proofs.YtpadejamelppfaaW.PrintMore
attribute [local go_sem] max2_int min2_int max_two min_two max_three min_three max_four min_four   -- for this text's walks alone
set_option linter.unusedVariables false
set_option linter.unusedSimpArgs false

attribute [local go_sem high] eqA54
/-! ### cryostatlaw5_awake: function 41 -/
def cryostatlaw5_awake.f (k : Nat)  : Option (Bool) := (head_Put.f 1 258).bind fun bt172 => ((head_Get.f bt172.1).bind fun bt174 => ((cryostatref1_PutPair.f bt172.1).bind fun bt178 => ((head_Best.f k (⟨#[]⟩ : ByteArray) bt178.1).bind fun bt180 => ((head_Best.f k (⟨#[]⟩ : ByteArray) (⟨#[]⟩ : ByteArray)).bind fun bt184 => ((head_Put.f 0 0).bind fun bt188 => (if (bt172.1.size : Int) = 32 then (if 0 ≤ 12 then (if 12 ≤ (bt172.1.size : Int) then (if (bt172.1.extract 0 12).toList = ([99, 114, 121, 111, 0, 0, 0, 1, 0, 0, 1, 2] : List UInt8) then ((cryostatlaw0_Num.f bt172.2).bind fun t190 => (if t190 = 0 then (if (bt174.1 == 1 && (bt174.2.1 == 258)) = true then ((cryostatlaw0_Num.f bt174.2.2).bind fun t191 => (if t191 = 0 then (if (bt180.1 == bt174.1 && (bt180.2.1 == bt174.2.1)) = true then ((cryostatlaw0_Num.f bt180.2.2).bind fun t192 => (if t192 = 0 then ((cryostatlaw0_Num.f bt184.2.2).bind fun t193 => (if t193 = 501 then ((cryostatlaw0_Num.f bt188.2).bind fun t194 => (if t194 = 500 then ((head_May.f bt174.1 bt174.2.1).bind fun t195 => (some t195)) else (some false))) else (some false))) else (some false))) else (some false)) else (some false))) else (some false)) else (some false))) else (some false)) else (none)) else (none)) else (some false)))))))
theorem cryostatlaw5_awake.mono : ∀ k, LeO (cryostatlaw5_awake.f k ) (cryostatlaw5_awake.f (k + 1) ) := by
  intro  k
  unfold cryostatlaw5_awake.f
  repeat' first
      | (with_reducible exact head_Best.mono _ _ _)
      | (with_reducible exact LeO.refl _)
      | (with_reducible exact LeO.none _)
      | (with_reducible refine LeO.ite ?_ ?_)
      | (with_reducible refine LeO.bind ?_ (fun _ => ?_))
      | exact head_Best.mono _ _ _
      | exact LeO.none _
      | refine LeO.ite ?_ ?_
      | refine LeO.bind ?_ (fun _ => ?_)
set_option maxHeartbeats 8000000 in
set_option maxRecDepth 100000 in
theorem cryostatlaw5_awake.calls (k : Nat)  (r : Bool) (w : World) (hr : Aside0 (r = true)) (h : cryostatlaw5_awake.f k  = some r) :
    Calls Try.prog 41 #[] w fun e w' => e = .returned (.bool r) ∧ Below w.heap.size w w' := by
  have hu54 := Try.underlying54
  have HB := Aside0.mk (Below.refl w.heap.size w)
  have H : ((head_Put.f 1 258).bind fun bt172 => ((head_Get.f bt172.1).bind fun bt174 => ((cryostatref1_PutPair.f bt172.1).bind fun bt178 => ((head_Best.f k (⟨#[]⟩ : ByteArray) bt178.1).bind fun bt180 => ((head_Best.f k (⟨#[]⟩ : ByteArray) (⟨#[]⟩ : ByteArray)).bind fun bt184 => ((head_Put.f 0 0).bind fun bt188 => (if (bt172.1.size : Int) = 32 then (if 0 ≤ 12 then (if 12 ≤ (bt172.1.size : Int) then (if (bt172.1.extract 0 12).toList = ([99, 114, 121, 111, 0, 0, 0, 1, 0, 0, 1, 2] : List UInt8) then ((cryostatlaw0_Num.f bt172.2).bind fun t190 => (if t190 = 0 then (if (bt174.1 == 1 && (bt174.2.1 == 258)) = true then ((cryostatlaw0_Num.f bt174.2.2).bind fun t191 => (if t191 = 0 then (if (bt180.1 == bt174.1 && (bt180.2.1 == bt174.2.1)) = true then ((cryostatlaw0_Num.f bt180.2.2).bind fun t192 => (if t192 = 0 then ((cryostatlaw0_Num.f bt184.2.2).bind fun t193 => (if t193 = 501 then ((cryostatlaw0_Num.f bt188.2).bind fun t194 => (if t194 = 500 then ((head_May.f bt174.1 bt174.2.1).bind fun t195 => (some t195)) else (some false))) else (some false))) else (some false))) else (some false)) else (some false))) else (some false)) else (some false))) else (some false)) else (none)) else (none)) else (some false)))))))) = some r := h
  clear h
  replace H := Option.bind_eq_some_iff.mp H
  obtain ⟨⟨t172, t173⟩, A10, H⟩ := H
  replace H : ((head_Get.f t172).bind fun bt174 => ((cryostatref1_PutPair.f t172).bind fun bt178 => ((head_Best.f k (⟨#[]⟩ : ByteArray) bt178.1).bind fun bt180 => ((head_Best.f k (⟨#[]⟩ : ByteArray) (⟨#[]⟩ : ByteArray)).bind fun bt184 => ((head_Put.f 0 0).bind fun bt188 => (if (t172.size : Int) = 32 then (if 0 ≤ 12 then (if 12 ≤ (t172.size : Int) then (if (t172.extract 0 12).toList = ([99, 114, 121, 111, 0, 0, 0, 1, 0, 0, 1, 2] : List UInt8) then ((cryostatlaw0_Num.f t173).bind fun t190 => (if t190 = 0 then (if (bt174.1 == 1 && (bt174.2.1 == 258)) = true then ((cryostatlaw0_Num.f bt174.2.2).bind fun t191 => (if t191 = 0 then (if (bt180.1 == bt174.1 && (bt180.2.1 == bt174.2.1)) = true then ((cryostatlaw0_Num.f bt180.2.2).bind fun t192 => (if t192 = 0 then ((cryostatlaw0_Num.f bt184.2.2).bind fun t193 => (if t193 = 501 then ((cryostatlaw0_Num.f bt188.2).bind fun t194 => (if t194 = 500 then ((head_May.f bt174.1 bt174.2.1).bind fun t195 => (some t195)) else (some false))) else (some false))) else (some false))) else (some false)) else (some false))) else (some false)) else (some false))) else (some false)) else (none)) else (none)) else (some false))))))) = some r := H
  have A1 := Aside0.mk A10
  clear A10
  replace H := Option.bind_eq_some_iff.mp H
  obtain ⟨⟨t174, t175, t176⟩, A20, H⟩ := H
  replace H : ((cryostatref1_PutPair.f t172).bind fun bt178 => ((head_Best.f k (⟨#[]⟩ : ByteArray) bt178.1).bind fun bt180 => ((head_Best.f k (⟨#[]⟩ : ByteArray) (⟨#[]⟩ : ByteArray)).bind fun bt184 => ((head_Put.f 0 0).bind fun bt188 => (if (t172.size : Int) = 32 then (if 0 ≤ 12 then (if 12 ≤ (t172.size : Int) then (if (t172.extract 0 12).toList = ([99, 114, 121, 111, 0, 0, 0, 1, 0, 0, 1, 2] : List UInt8) then ((cryostatlaw0_Num.f t173).bind fun t190 => (if t190 = 0 then (if (t174 == 1 && (t175 == 258)) = true then ((cryostatlaw0_Num.f t176).bind fun t191 => (if t191 = 0 then (if (bt180.1 == t174 && (bt180.2.1 == t175)) = true then ((cryostatlaw0_Num.f bt180.2.2).bind fun t192 => (if t192 = 0 then ((cryostatlaw0_Num.f bt184.2.2).bind fun t193 => (if t193 = 501 then ((cryostatlaw0_Num.f bt188.2).bind fun t194 => (if t194 = 500 then ((head_May.f t174 t175).bind fun t195 => (some t195)) else (some false))) else (some false))) else (some false))) else (some false)) else (some false))) else (some false)) else (some false))) else (some false)) else (none)) else (none)) else (some false)))))) = some r := H
  have A2 := Aside0.mk A20
  clear A20
  replace H := Option.bind_eq_some_iff.mp H
  obtain ⟨⟨t178, t179⟩, A30, H⟩ := H
  replace H : ((head_Best.f k (⟨#[]⟩ : ByteArray) t178).bind fun bt180 => ((head_Best.f k (⟨#[]⟩ : ByteArray) (⟨#[]⟩ : ByteArray)).bind fun bt184 => ((head_Put.f 0 0).bind fun bt188 => (if (t172.size : Int) = 32 then (if 0 ≤ 12 then (if 12 ≤ (t172.size : Int) then (if (t172.extract 0 12).toList = ([99, 114, 121, 111, 0, 0, 0, 1, 0, 0, 1, 2] : List UInt8) then ((cryostatlaw0_Num.f t173).bind fun t190 => (if t190 = 0 then (if (t174 == 1 && (t175 == 258)) = true then ((cryostatlaw0_Num.f t176).bind fun t191 => (if t191 = 0 then (if (bt180.1 == t174 && (bt180.2.1 == t175)) = true then ((cryostatlaw0_Num.f bt180.2.2).bind fun t192 => (if t192 = 0 then ((cryostatlaw0_Num.f bt184.2.2).bind fun t193 => (if t193 = 501 then ((cryostatlaw0_Num.f bt188.2).bind fun t194 => (if t194 = 500 then ((head_May.f t174 t175).bind fun t195 => (some t195)) else (some false))) else (some false))) else (some false))) else (some false)) else (some false))) else (some false)) else (some false))) else (some false)) else (none)) else (none)) else (some false))))) = some r := H
  have A3 := Aside0.mk A30
  clear A30
  replace H := Option.bind_eq_some_iff.mp H
  obtain ⟨⟨t180, t181, t182⟩, A40, H⟩ := H
  replace H : ((head_Best.f k (⟨#[]⟩ : ByteArray) (⟨#[]⟩ : ByteArray)).bind fun bt184 => ((head_Put.f 0 0).bind fun bt188 => (if (t172.size : Int) = 32 then (if 0 ≤ 12 then (if 12 ≤ (t172.size : Int) then (if (t172.extract 0 12).toList = ([99, 114, 121, 111, 0, 0, 0, 1, 0, 0, 1, 2] : List UInt8) then ((cryostatlaw0_Num.f t173).bind fun t190 => (if t190 = 0 then (if (t174 == 1 && (t175 == 258)) = true then ((cryostatlaw0_Num.f t176).bind fun t191 => (if t191 = 0 then (if (t180 == t174 && (t181 == t175)) = true then ((cryostatlaw0_Num.f t182).bind fun t192 => (if t192 = 0 then ((cryostatlaw0_Num.f bt184.2.2).bind fun t193 => (if t193 = 501 then ((cryostatlaw0_Num.f bt188.2).bind fun t194 => (if t194 = 500 then ((head_May.f t174 t175).bind fun t195 => (some t195)) else (some false))) else (some false))) else (some false))) else (some false)) else (some false))) else (some false)) else (some false))) else (some false)) else (none)) else (none)) else (some false)))) = some r := H
  have A4 := Aside0.mk A40
  clear A40
  replace H := Option.bind_eq_some_iff.mp H
  obtain ⟨⟨t184, t185, t186⟩, A50, H⟩ := H
  replace H : ((head_Put.f 0 0).bind fun bt188 => (if (t172.size : Int) = 32 then (if 0 ≤ 12 then (if 12 ≤ (t172.size : Int) then (if (t172.extract 0 12).toList = ([99, 114, 121, 111, 0, 0, 0, 1, 0, 0, 1, 2] : List UInt8) then ((cryostatlaw0_Num.f t173).bind fun t190 => (if t190 = 0 then (if (t174 == 1 && (t175 == 258)) = true then ((cryostatlaw0_Num.f t176).bind fun t191 => (if t191 = 0 then (if (t180 == t174 && (t181 == t175)) = true then ((cryostatlaw0_Num.f t182).bind fun t192 => (if t192 = 0 then ((cryostatlaw0_Num.f t186).bind fun t193 => (if t193 = 501 then ((cryostatlaw0_Num.f bt188.2).bind fun t194 => (if t194 = 500 then ((head_May.f t174 t175).bind fun t195 => (some t195)) else (some false))) else (some false))) else (some false))) else (some false)) else (some false))) else (some false)) else (some false))) else (some false)) else (none)) else (none)) else (some false))) = some r := H
  have A5 := Aside0.mk A50
  clear A50
  replace H := Option.bind_eq_some_iff.mp H
  obtain ⟨⟨t188, t189⟩, A60, H⟩ := H
  replace H : (if (t172.size : Int) = 32 then (if 0 ≤ 12 then (if 12 ≤ (t172.size : Int) then (if (t172.extract 0 12).toList = ([99, 114, 121, 111, 0, 0, 0, 1, 0, 0, 1, 2] : List UInt8) then ((cryostatlaw0_Num.f t173).bind fun t190 => (if t190 = 0 then (if (t174 == 1 && (t175 == 258)) = true then ((cryostatlaw0_Num.f t176).bind fun t191 => (if t191 = 0 then (if (t180 == t174 && (t181 == t175)) = true then ((cryostatlaw0_Num.f t182).bind fun t192 => (if t192 = 0 then ((cryostatlaw0_Num.f t186).bind fun t193 => (if t193 = 501 then ((cryostatlaw0_Num.f t189).bind fun t194 => (if t194 = 500 then ((head_May.f t174 t175).bind fun t195 => (some t195)) else (some false))) else (some false))) else (some false))) else (some false)) else (some false))) else (some false)) else (some false))) else (some false)) else (none)) else (none)) else (some false)) = some r := H
  have A6 := Aside0.mk A60
  clear A60
  by_cases c7 : (t172.size : Int) = 32
  · rw [if_pos c7] at H
    have c7b0 : ((t172.size : Int) == 32) = true := beq_iff_eq.mpr c7
    have c7b1 : ((t172.size : Int) != 32) = false := bne_eq_false_iff_eq.mpr c7
    clear c7
    by_cases c8 : 0 ≤ 12
    · rw [if_pos c8] at H
      have c8b0 := eq_true c8
      have c8b1 : decide (0 ≤ 12) = true := decide_eq_true c8
      clear c8
      by_cases c9 : 12 ≤ (t172.size : Int)
      · rw [if_pos c9] at H
        have c9b0 := eq_true c9
        have c9b1 : decide (12 ≤ (t172.size : Int)) = true := decide_eq_true c9
        clear c9
        by_cases c10 : (t172.extract 0 12).toList = ([99, 114, 121, 111, 0, 0, 0, 1, 0, 0, 1, 2] : List UInt8)
        · rw [if_pos c10] at H
          have c10b0 : ((t172.extract 0 12).toList == ([99, 114, 121, 111, 0, 0, 0, 1, 0, 0, 1, 2] : List UInt8)) = true := beq_iff_eq.mpr c10
          have c10b1 : ((t172.extract 0 12).toList != ([99, 114, 121, 111, 0, 0, 0, 1, 0, 0, 1, 2] : List UInt8)) = false := bne_eq_false_iff_eq.mpr c10
          clear c10
          replace H := Option.bind_eq_some_iff.mp H
          obtain ⟨t190, A110, H⟩ := H
          replace H : (if t190 = 0 then (if (t174 == 1 && (t175 == 258)) = true then ((cryostatlaw0_Num.f t176).bind fun t191 => (if t191 = 0 then (if (t180 == t174 && (t181 == t175)) = true then ((cryostatlaw0_Num.f t182).bind fun t192 => (if t192 = 0 then ((cryostatlaw0_Num.f t186).bind fun t193 => (if t193 = 501 then ((cryostatlaw0_Num.f t189).bind fun t194 => (if t194 = 500 then ((head_May.f t174 t175).bind fun t195 => (some t195)) else (some false))) else (some false))) else (some false))) else (some false)) else (some false))) else (some false)) else (some false)) = some r := H
          have A11 := Aside0.mk A110
          clear A110
          by_cases c12 : t190 = 0
          · rw [if_pos c12] at H
            have c12b0 : (t190 == 0) = true := beq_iff_eq.mpr c12
            have c12b1 : (t190 != 0) = false := bne_eq_false_iff_eq.mpr c12
            clear c12
            by_cases c13 : (t174 == 1 && (t175 == 258)) = true
            · rw [if_pos c13] at H
              have c13b0 : (t174 == 1 && (t175 == 258)) = true := c13
              (try (have c13b1 : decide (t174 = 1 && (t175 == 258)) = true := by simpa using c13))
              (try (have c13b2 : (t174 == 1 && (t175 == 258)) = true := by simpa using c13))
              clear c13
              have qq := c13b0
              simp only [Bool.and_eq_true, beq_iff_eq] at qq
              obtain ⟨q0, q1⟩ := qq
              replace q0 : t174 = (1 : Int) := q0
              replace q1 : t175 = (258 : Int) := q1
              subst q0 q1
              clear c13b0; (try clear c13b1); (try clear c13b2)
              replace H := Option.bind_eq_some_iff.mp H
              obtain ⟨t191, A140, H⟩ := H
              replace H : (if t191 = 0 then (if (t180 == (1 : Int) && (t181 == (258 : Int))) = true then ((cryostatlaw0_Num.f t182).bind fun t192 => (if t192 = 0 then ((cryostatlaw0_Num.f t186).bind fun t193 => (if t193 = 501 then ((cryostatlaw0_Num.f t189).bind fun t194 => (if t194 = 500 then ((head_May.f (1 : Int) (258 : Int)).bind fun t195 => (some t195)) else (some false))) else (some false))) else (some false))) else (some false)) else (some false)) = some r := H
              have A14 := Aside0.mk A140
              clear A140
              by_cases c15 : t191 = 0
              · rw [if_pos c15] at H
                have c15b0 : (t191 == 0) = true := beq_iff_eq.mpr c15
                have c15b1 : (t191 != 0) = false := bne_eq_false_iff_eq.mpr c15
                clear c15
                by_cases c16 : (t180 == (1 : Int) && (t181 == (258 : Int))) = true
                · rw [if_pos c16] at H
                  have c16b0 : (t180 == (1 : Int) && (t181 == (258 : Int))) = true := c16
                  (try (have c16b1 : decide (t180 = (1 : Int) && (t181 == (258 : Int))) = true := by simpa using c16))
                  (try (have c16b2 : (t180 == (1 : Int) && (t181 == (258 : Int))) = true := by simpa using c16))
                  clear c16
                  replace H := Option.bind_eq_some_iff.mp H
                  obtain ⟨t192, A170, H⟩ := H
                  replace H : (if t192 = 0 then ((cryostatlaw0_Num.f t186).bind fun t193 => (if t193 = 501 then ((cryostatlaw0_Num.f t189).bind fun t194 => (if t194 = 500 then ((head_May.f (1 : Int) (258 : Int)).bind fun t195 => (some t195)) else (some false))) else (some false))) else (some false)) = some r := H
                  have A17 := Aside0.mk A170
                  clear A170
                  by_cases c18 : t192 = 0
                  · rw [if_pos c18] at H
                    have c18b0 : (t192 == 0) = true := beq_iff_eq.mpr c18
                    have c18b1 : (t192 != 0) = false := bne_eq_false_iff_eq.mpr c18
                    clear c18
                    replace H := Option.bind_eq_some_iff.mp H
                    obtain ⟨t193, A190, H⟩ := H
                    replace H : (if t193 = 501 then ((cryostatlaw0_Num.f t189).bind fun t194 => (if t194 = 500 then ((head_May.f (1 : Int) (258 : Int)).bind fun t195 => (some t195)) else (some false))) else (some false)) = some r := H
                    have A19 := Aside0.mk A190
                    clear A190
                    by_cases c20 : t193 = 501
                    · rw [if_pos c20] at H
                      have c20b0 : (t193 == 501) = true := beq_iff_eq.mpr c20
                      have c20b1 : (t193 != 501) = false := bne_eq_false_iff_eq.mpr c20
                      clear c20
                      replace H := Option.bind_eq_some_iff.mp H
                      obtain ⟨t194, A210, H⟩ := H
                      replace H : (if t194 = 500 then ((head_May.f (1 : Int) (258 : Int)).bind fun t195 => (some t195)) else (some false)) = some r := H
                      have A21 := Aside0.mk A210
                      clear A210
                      by_cases c22 : t194 = 500
                      · rw [if_pos c22] at H
                        have c22b0 : (t194 == 500) = true := beq_iff_eq.mpr c22
                        have c22b1 : (t194 != 500) = false := bne_eq_false_iff_eq.mpr c22
                        clear c22
                        replace H := Option.bind_eq_some_iff.mp H
                        obtain ⟨t195, A230, H⟩ := H
                        replace H : (some t195) = some r := H
                        have A23 := Aside0.mk A230
                        clear A230
                        obtain rfl := Option.some.inj H
                        go_enter Try.func41, Try.ntmps41
                        go_wp2_with (first | ((with_reducible refine gate_callee (f := 33) rfl ?_); refine goesL_ (some 15) rfl rfl Try.func33 (by kernel_rfl) rfl #[.agg #[.int .i64 1, .int .i64 258]] rfl (by (try simp only [List.map_toArray, List.map_cons, List.map_nil]); first | done | rfl | (simp only [List.length_drop, List.length_take]; rfl)) ?_; (with_reducible refine (head_Put.calls 1 258 t172 t173 _ A1.out).mono ?_); rintro e w24 ⟨rfl, hb⟩; refine ⟨_, rfl, ?_⟩; have n0_ := Aside0.mk (below_step (by repeat (first | (with_reducible first | exact HB.out | apply below_alloc | apply pw_below_drewN | apply below_drew1) | exact HB.out)) hb); clear HB; have HB := n0_; clear n0_; (try clear hb); (try clear hb2); (try clear hk); (try clear hi)) | ((with_reducible refine gate_callee (f := 35) rfl ?_); refine goesL_ (some 20) rfl rfl Try.func35 (by kernel_rfl) rfl #[.string t172] rfl (by (try simp only [List.map_toArray, List.map_cons, List.map_nil]); first | done | rfl | (simp only [List.length_drop, List.length_take]; rfl)) ?_; (with_reducible refine (head_Get.calls t172 (1 : Int) (258 : Int) t176 _ A2.out).mono ?_); rintro e w25 ⟨rfl, hb⟩; refine ⟨_, rfl, ?_⟩; have n0_ := Aside0.mk (below_step (by repeat (first | (with_reducible first | exact HB.out | apply below_alloc | apply pw_below_drewN | apply below_drew1) | exact HB.out)) hb); clear HB; have HB := n0_; clear n0_; (try clear hb); (try clear hb2); (try clear hk); (try clear hi)) | ((with_reducible refine gate_dst (N := 3) rfl ?_); refine box_event ?hg (N := 3) ?hd (cs := #[.int .i64 0, .int .i64 0]) (t := 54) ?hr ?_; (case hd => rfl); (case hg => rfl); (case hr => first | (go_simp; done) | (go_simp; rfl)); intro gb177 hg w26 hbox hb; have n0_ := Aside0.mk (below_step (by repeat (first | (with_reducible first | exact HB.out | apply below_alloc | apply pw_below_drewN | apply below_drew1) | exact HB.out)) hb); have n1_ := Aside0.mk (hbox); have n2_ := Aside0.mk ((by rw [hg]; exact (below_size (by repeat (first | (with_reducible first | exact HB.out | apply below_alloc | apply pw_below_drewN | apply below_drew1) | exact HB.out))) : w.heap.size ≤ gb177)); have n3_ := Aside0.mk ((by rw [hg]; exact (below_size (by repeat (first | (with_reducible first | exact HB.out | apply below_alloc | apply pw_below_drewN | apply below_drew1) | exact HB.out))) : w.heap.size ≤ gb177)); clear HB; have HB := n0_; have BK177 := n1_; have GW177 := n2_; have GE177 := n3_; clear n0_ n1_ n2_ n3_; clear hb hbox hg; have hcz27_0 : w26.cell? ⟨gb177, 0, none⟩ = some (.int .i64 0) := (blk_cell BK177.out 0).trans rfl; have hcz27_1 : w26.cell? ⟨gb177, 1, none⟩ = some (.int .i64 0) := (blk_cell BK177.out 1).trans rfl; have hfz27_0 := blk_frozen BK177.out 0; have hfz27_1 := blk_frozen BK177.out 1) | ((with_reducible refine gate_callee (f := 17) rfl ?_); refine goesL_ (some 25) rfl rfl Try.func17 (by kernel_rfl) rfl #[.string t172] rfl (by (try simp only [List.map_toArray, List.map_cons, List.map_nil]); first | done | rfl | (simp only [List.length_drop, List.length_take]; rfl)) ?_; (with_reducible refine (cryostatref1_PutPair.calls t172 t178 t179 _ A3.out).mono ?_); rintro e w28 ⟨rfl, hb⟩; refine ⟨_, rfl, ?_⟩; have n0_ := Aside0.mk (blk_below (g := gb177) (o := .cells #[.int .i64 (1 : Int), .int .i64 (258 : Int)] 54 (0, 0)) (by (with_reducible repeat (first | refine blk_drewN ?_ _ | refine blk_drew ?_ | refine blk_alloc ?_ _)); refine blk_put (cs := #[.int .i64 (1 : Int), .int .i64 0]) ?_ 1 _ rfl; (with_reducible repeat (first | refine blk_drewN ?_ _ | refine blk_drew ?_ | refine blk_alloc ?_ _)); refine blk_put (cs := #[.int .i64 0, .int .i64 0]) ?_ 0 _ rfl; (with_reducible repeat (first | refine blk_drewN ?_ _ | refine blk_drew ?_ | refine blk_alloc ?_ _)); exact BK177.out) hb); have n1_ := Aside0.mk (below_step (by repeat (first | (with_reducible first | exact HB.out | apply below_alloc | apply pw_below_drewN | apply below_drew1 | refine below_set ?_ GE177.out) | exact HB.out)) hb); clear BK177; clear HB; have BK177 := n0_; have HB := n1_; clear n0_ n1_; (try clear hb); (try clear hb2); (try clear hk); (try clear hi)) | ((with_reducible refine gate_callee (f := 37) rfl ?_); refine goesL_ (some 30) rfl rfl Try.func37 (by kernel_rfl) rfl #[.string (⟨#[]⟩ : ByteArray), .string t178] rfl (by (try simp only [List.map_toArray, List.map_cons, List.map_nil]); first | done | rfl | (simp only [List.length_drop, List.length_take]; rfl)) ?_; (with_reducible refine (head_Best.calls k (⟨#[]⟩ : ByteArray) t178 t180 t181 t182 _ A4.out).mono ?_); rintro e w29 ⟨rfl, hb⟩; refine ⟨_, rfl, ?_⟩; have n0_ := Aside0.mk (blk_below (g := gb177) (o := .cells #[.int .i64 (1 : Int), .int .i64 (258 : Int)] 54 (0, 0)) (by (with_reducible repeat (first | refine blk_drewN ?_ _ | refine blk_drew ?_ | refine blk_alloc ?_ _)); exact BK177.out) hb); have n1_ := Aside0.mk (below_step (by repeat (first | (with_reducible first | exact HB.out | apply below_alloc | apply pw_below_drewN | apply below_drew1 | refine below_set ?_ GE177.out) | exact HB.out)) hb); clear BK177; clear HB; have BK177 := n0_; have HB := n1_; clear n0_ n1_; (try clear hb); (try clear hb2); (try clear hk); (try clear hi)) | ((with_reducible refine gate_dst (N := 7) rfl ?_); refine box_event ?hg (N := 7) ?hd (cs := #[.int .i64 0, .int .i64 0]) (t := 54) ?hr ?_; (case hd => rfl); (case hg => rfl); (case hr => first | (go_simp; done) | (go_simp; rfl)); intro gb183 hg w30 hbox hb; have n0_ := Aside0.mk (blk_below (g := gb177) (o := .cells #[.int .i64 (1 : Int), .int .i64 (258 : Int)] 54 (0, 0)) (by (with_reducible repeat (first | refine blk_drewN ?_ _ | refine blk_drew ?_ | refine blk_alloc ?_ _)); exact BK177.out) hb); have n1_ := Aside0.mk (below_step (by repeat (first | (with_reducible first | exact HB.out | apply below_alloc | apply pw_below_drewN | apply below_drew1 | refine below_set ?_ GE177.out) | exact HB.out)) hb); have n2_ := Aside0.mk (hbox); have n3_ := Aside0.mk ((by rw [hg]; exact (below_size (by repeat (first | (with_reducible first | exact HB.out | apply below_alloc | apply pw_below_drewN | apply below_drew1 | refine below_set ?_ GE177.out) | exact HB.out))) : w.heap.size ≤ gb183)); have n4_ := Aside0.mk ((by rw [hg]; exact (below_size (by repeat (first | (with_reducible first | exact HB.out | apply below_alloc | apply pw_below_drewN | apply below_drew1 | refine below_set ?_ GE177.out) | exact HB.out))) : w.heap.size ≤ gb183)); have n5_ := Aside0.mk ((by rw [hg]; exact Nat.ne_of_lt (blk_lt (g := gb177) (o := .cells #[.int .i64 (1 : Int), .int .i64 (258 : Int)] 54 (0, 0)) (by (with_reducible repeat (first | refine blk_drewN ?_ _ | refine blk_drew ?_ | refine blk_alloc ?_ _)); exact BK177.out)) : gb177 ≠ gb183)); have n6_ := Aside0.mk ((by rw [hg]; exact Nat.ne_of_gt (blk_lt (g := gb177) (o := .cells #[.int .i64 (1 : Int), .int .i64 (258 : Int)] 54 (0, 0)) (by (with_reducible repeat (first | refine blk_drewN ?_ _ | refine blk_drew ?_ | refine blk_alloc ?_ _)); exact BK177.out)) : gb183 ≠ gb177)); clear BK177; clear HB; have BK177 := n0_; have HB := n1_; have BK183 := n2_; have GW183 := n3_; have GE183 := n4_; have NB177_183 := n5_; have NB183_177 := n6_; clear n0_ n1_ n2_ n3_ n4_ n5_ n6_; clear hb hbox hg; have hnb31 := NB183_177.out; have hnc31 := NB177_183.out; have hcz32_0 : w30.cell? ⟨gb183, 0, none⟩ = some (.int .i64 0) := (blk_cell BK183.out 0).trans rfl; have hcz32_1 : w30.cell? ⟨gb183, 1, none⟩ = some (.int .i64 0) := (blk_cell BK183.out 1).trans rfl; have hfz32_0 := blk_frozen BK183.out 0; have hfz32_1 := blk_frozen BK183.out 1) | ((with_reducible refine gate_callee (f := 37) rfl ?_); refine goesL_ (some 34) rfl rfl Try.func37 (by kernel_rfl) rfl #[.string (⟨#[]⟩ : ByteArray), .string (⟨#[]⟩ : ByteArray)] rfl (by (try simp only [List.map_toArray, List.map_cons, List.map_nil]); first | done | rfl | (simp only [List.length_drop, List.length_take]; rfl)) ?_; (with_reducible refine (head_Best.calls k (⟨#[]⟩ : ByteArray) (⟨#[]⟩ : ByteArray) t184 t185 t186 _ A5.out).mono ?_); rintro e w33 ⟨rfl, hb⟩; refine ⟨_, rfl, ?_⟩; have n0_ := Aside0.mk (blk_below (g := gb177) (o := .cells #[.int .i64 (1 : Int), .int .i64 (258 : Int)] 54 (0, 0)) (by (with_reducible repeat (first | refine blk_drewN ?_ _ | refine blk_drew ?_ | refine blk_alloc ?_ _)); refine blk_far ?_ NB177_183.out _; (with_reducible repeat (first | refine blk_drewN ?_ _ | refine blk_drew ?_ | refine blk_alloc ?_ _)); refine blk_far ?_ NB177_183.out _; (with_reducible repeat (first | refine blk_drewN ?_ _ | refine blk_drew ?_ | refine blk_alloc ?_ _)); exact BK177.out) hb); have n1_ := Aside0.mk (blk_below (g := gb183) (o := .cells #[.int .i64 t180, .int .i64 t181] 54 (0, 0)) (by (with_reducible repeat (first | refine blk_drewN ?_ _ | refine blk_drew ?_ | refine blk_alloc ?_ _)); refine blk_put (cs := #[.int .i64 t180, .int .i64 0]) ?_ 1 _ rfl; (with_reducible repeat (first | refine blk_drewN ?_ _ | refine blk_drew ?_ | refine blk_alloc ?_ _)); refine blk_put (cs := #[.int .i64 0, .int .i64 0]) ?_ 0 _ rfl; (with_reducible repeat (first | refine blk_drewN ?_ _ | refine blk_drew ?_ | refine blk_alloc ?_ _)); exact BK183.out) hb); have n2_ := Aside0.mk (below_step (by repeat (first | (with_reducible first | exact HB.out | apply below_alloc | apply pw_below_drewN | apply below_drew1 | refine below_set ?_ GE177.out | refine below_set ?_ GE183.out) | exact HB.out)) hb); clear BK177; clear BK183; clear HB; have BK177 := n0_; have BK183 := n1_; have HB := n2_; clear n0_ n1_ n2_; (try clear hb); (try clear hb2); (try clear hk); (try clear hi)) | ((with_reducible refine gate_dst (N := 9) rfl ?_); refine box_event ?hg (N := 9) ?hd (cs := #[.int .i64 0, .int .i64 0]) (t := 54) ?hr ?_; (case hd => rfl); (case hg => rfl); (case hr => first | (go_simp; done) | (go_simp; rfl)); intro gb187 hg w34 hbox hb; have n0_ := Aside0.mk (blk_below (g := gb177) (o := .cells #[.int .i64 (1 : Int), .int .i64 (258 : Int)] 54 (0, 0)) (by (with_reducible repeat (first | refine blk_drewN ?_ _ | refine blk_drew ?_ | refine blk_alloc ?_ _)); exact BK177.out) hb); have n1_ := Aside0.mk (blk_below (g := gb183) (o := .cells #[.int .i64 t180, .int .i64 t181] 54 (0, 0)) (by (with_reducible repeat (first | refine blk_drewN ?_ _ | refine blk_drew ?_ | refine blk_alloc ?_ _)); exact BK183.out) hb); have n2_ := Aside0.mk (below_step (by repeat (first | (with_reducible first | exact HB.out | apply below_alloc | apply pw_below_drewN | apply below_drew1 | refine below_set ?_ GE177.out | refine below_set ?_ GE183.out) | exact HB.out)) hb); have n3_ := Aside0.mk (hbox); have n4_ := Aside0.mk ((by rw [hg]; exact (below_size (by repeat (first | (with_reducible first | exact HB.out | apply below_alloc | apply pw_below_drewN | apply below_drew1 | refine below_set ?_ GE177.out | refine below_set ?_ GE183.out) | exact HB.out))) : w.heap.size ≤ gb187)); have n5_ := Aside0.mk ((by rw [hg]; exact (below_size (by repeat (first | (with_reducible first | exact HB.out | apply below_alloc | apply pw_below_drewN | apply below_drew1 | refine below_set ?_ GE177.out | refine below_set ?_ GE183.out) | exact HB.out))) : w.heap.size ≤ gb187)); have n6_ := Aside0.mk ((by rw [hg]; exact Nat.ne_of_lt (blk_lt (g := gb177) (o := .cells #[.int .i64 (1 : Int), .int .i64 (258 : Int)] 54 (0, 0)) (by (with_reducible repeat (first | refine blk_drewN ?_ _ | refine blk_drew ?_ | refine blk_alloc ?_ _)); exact BK177.out)) : gb177 ≠ gb187)); have n7_ := Aside0.mk ((by rw [hg]; exact Nat.ne_of_gt (blk_lt (g := gb177) (o := .cells #[.int .i64 (1 : Int), .int .i64 (258 : Int)] 54 (0, 0)) (by (with_reducible repeat (first | refine blk_drewN ?_ _ | refine blk_drew ?_ | refine blk_alloc ?_ _)); exact BK177.out)) : gb187 ≠ gb177)); have n8_ := Aside0.mk ((by rw [hg]; exact Nat.ne_of_lt (blk_lt (g := gb183) (o := .cells #[.int .i64 t180, .int .i64 t181] 54 (0, 0)) (by (with_reducible repeat (first | refine blk_drewN ?_ _ | refine blk_drew ?_ | refine blk_alloc ?_ _)); exact BK183.out)) : gb183 ≠ gb187)); have n9_ := Aside0.mk ((by rw [hg]; exact Nat.ne_of_gt (blk_lt (g := gb183) (o := .cells #[.int .i64 t180, .int .i64 t181] 54 (0, 0)) (by (with_reducible repeat (first | refine blk_drewN ?_ _ | refine blk_drew ?_ | refine blk_alloc ?_ _)); exact BK183.out)) : gb187 ≠ gb183)); clear BK177; clear BK183; clear HB; have BK177 := n0_; have BK183 := n1_; have HB := n2_; have BK187 := n3_; have GW187 := n4_; have GE187 := n5_; have NB177_187 := n6_; have NB187_177 := n7_; have NB183_187 := n8_; have NB187_183 := n9_; clear n0_ n1_ n2_ n3_ n4_ n5_ n6_ n7_ n8_ n9_; clear hb hbox hg; have hnb35 := NB187_177.out; have hnc35 := NB177_187.out; have hnb36 := NB187_183.out; have hnc36 := NB183_187.out; have hcz37_0 : w34.cell? ⟨gb187, 0, none⟩ = some (.int .i64 0) := (blk_cell BK187.out 0).trans rfl; have hcz37_1 : w34.cell? ⟨gb187, 1, none⟩ = some (.int .i64 0) := (blk_cell BK187.out 1).trans rfl; have hfz37_0 := blk_frozen BK187.out 0; have hfz37_1 := blk_frozen BK187.out 1) | ((with_reducible refine gate_callee (f := 33) rfl ?_); refine goesL_ (some 39) rfl rfl Try.func33 (by kernel_rfl) rfl #[.agg #[.int .i64 0, .int .i64 0]] rfl (by (try simp only [List.map_toArray, List.map_cons, List.map_nil]); first | done | rfl | (simp only [List.length_drop, List.length_take]; rfl)) ?_; (with_reducible refine (head_Put.calls 0 0 t188 t189 _ A6.out).mono ?_); rintro e w38 ⟨rfl, hb⟩; refine ⟨_, rfl, ?_⟩; have n0_ := Aside0.mk (blk_below (g := gb177) (o := .cells #[.int .i64 (1 : Int), .int .i64 (258 : Int)] 54 (0, 0)) (by (with_reducible repeat (first | refine blk_drewN ?_ _ | refine blk_drew ?_ | refine blk_alloc ?_ _)); refine blk_far ?_ NB177_187.out _; (with_reducible repeat (first | refine blk_drewN ?_ _ | refine blk_drew ?_ | refine blk_alloc ?_ _)); refine blk_far ?_ NB177_187.out _; (with_reducible repeat (first | refine blk_drewN ?_ _ | refine blk_drew ?_ | refine blk_alloc ?_ _)); exact BK177.out) hb); have n1_ := Aside0.mk (blk_below (g := gb183) (o := .cells #[.int .i64 t180, .int .i64 t181] 54 (0, 0)) (by (with_reducible repeat (first | refine blk_drewN ?_ _ | refine blk_drew ?_ | refine blk_alloc ?_ _)); refine blk_far ?_ NB183_187.out _; (with_reducible repeat (first | refine blk_drewN ?_ _ | refine blk_drew ?_ | refine blk_alloc ?_ _)); refine blk_far ?_ NB183_187.out _; (with_reducible repeat (first | refine blk_drewN ?_ _ | refine blk_drew ?_ | refine blk_alloc ?_ _)); exact BK183.out) hb); have n2_ := Aside0.mk (blk_below (g := gb187) (o := .cells #[.int .i64 t184, .int .i64 t185] 54 (0, 0)) (by (with_reducible repeat (first | refine blk_drewN ?_ _ | refine blk_drew ?_ | refine blk_alloc ?_ _)); refine blk_put (cs := #[.int .i64 t184, .int .i64 0]) ?_ 1 _ rfl; (with_reducible repeat (first | refine blk_drewN ?_ _ | refine blk_drew ?_ | refine blk_alloc ?_ _)); refine blk_put (cs := #[.int .i64 0, .int .i64 0]) ?_ 0 _ rfl; (with_reducible repeat (first | refine blk_drewN ?_ _ | refine blk_drew ?_ | refine blk_alloc ?_ _)); exact BK187.out) hb); have n3_ := Aside0.mk (below_step (by repeat (first | (with_reducible first | exact HB.out | apply below_alloc | apply pw_below_drewN | apply below_drew1 | refine below_set ?_ GE177.out | refine below_set ?_ GE183.out | refine below_set ?_ GE187.out) | exact HB.out)) hb); clear BK177; clear BK183; clear BK187; clear HB; have BK177 := n0_; have BK183 := n1_; have BK187 := n2_; have HB := n3_; clear n0_ n1_ n2_ n3_; (try clear hb); (try clear hb2); (try clear hk); (try clear hi)) | (go_at_call 22; (with_reducible refine (cryostatlaw0_Num.calls t173 t190 _ A11.out).mono ?_); rintro e w' ⟨rfl, ⟨nd, rfl⟩⟩; have hcz39_0 : w38.cell? ⟨gb177, 0, none⟩ = some (.int .i64 (1 : Int)) := (blk_cell BK177.out 0).trans rfl; have hcz39_1 : w38.cell? ⟨gb177, 1, none⟩ = some (.int .i64 (258 : Int)) := (blk_cell BK177.out 1).trans rfl; have hfz39_0 := blk_frozen BK177.out 0; have hfz39_1 := blk_frozen BK177.out 1) | (go_at_call 22; (with_reducible refine (cryostatlaw0_Num.calls t176 t191 _ A14.out).mono ?_); rintro e w' ⟨rfl, ⟨nd, rfl⟩⟩; have hcz40_0 : w38.cell? ⟨gb183, 0, none⟩ = some (.int .i64 t180) := (blk_cell BK183.out 0).trans rfl; have hcz40_1 : w38.cell? ⟨gb183, 1, none⟩ = some (.int .i64 t181) := (blk_cell BK183.out 1).trans rfl; have hfz40_0 := blk_frozen BK183.out 0; have hfz40_1 := blk_frozen BK183.out 1) | (go_at_call 22; (with_reducible refine (cryostatlaw0_Num.calls t182 t192 _ A17.out).mono ?_); rintro e w' ⟨rfl, ⟨nd, rfl⟩⟩) | (go_at_call 22; (with_reducible refine (cryostatlaw0_Num.calls t186 t193 _ A19.out).mono ?_); rintro e w' ⟨rfl, ⟨nd, rfl⟩⟩) | (go_at_call 22; (with_reducible refine (cryostatlaw0_Num.calls t189 t194 _ A21.out).mono ?_); rintro e w' ⟨rfl, ⟨nd, rfl⟩⟩) | (go_at_call 39; (with_reducible refine (head_May.calls (1 : Int) (258 : Int) t195 _ A23.out).mono ?_); rintro e w41 ⟨rfl, hb⟩; have n0_ := Aside0.mk (blk_below (g := gb177) (o := .cells #[.int .i64 (1 : Int), .int .i64 (258 : Int)] 54 (0, 0)) (by (with_reducible repeat (first | refine blk_drewN ?_ _ | refine blk_drew ?_ | refine blk_alloc ?_ _)); exact BK177.out) hb); have n1_ := Aside0.mk (blk_below (g := gb183) (o := .cells #[.int .i64 t180, .int .i64 t181] 54 (0, 0)) (by (with_reducible repeat (first | refine blk_drewN ?_ _ | refine blk_drew ?_ | refine blk_alloc ?_ _)); exact BK183.out) hb); have n2_ := Aside0.mk (blk_below (g := gb187) (o := .cells #[.int .i64 t184, .int .i64 t185] 54 (0, 0)) (by (with_reducible repeat (first | refine blk_drewN ?_ _ | refine blk_drew ?_ | refine blk_alloc ?_ _)); exact BK187.out) hb); have n3_ := Aside0.mk (below_step (by repeat (first | (with_reducible first | exact HB.out | apply below_alloc | apply pw_below_drewN | apply below_drew1 | refine below_set ?_ GE177.out | refine below_set ?_ GE183.out | refine below_set ?_ GE187.out) | exact HB.out)) hb); clear BK177; clear BK183; clear BK187; clear HB; have BK177 := n0_; have BK183 := n1_; have BK187 := n2_; have HB := n3_; clear n0_ n1_ n2_ n3_; (try clear hb); (try clear hb2); (try clear hk); (try clear hi)))
                        go_ret
                        exact ⟨by first | rfl | (simp [errW_none, errW_some] <;> rfl) | (simp [*, errW_none, errW_some] <;> rfl), by repeat (first | (with_reducible first | exact HB.out | apply below_alloc | apply pw_below_drewN | apply below_drew1 | refine below_set ?_ GE177.out | refine below_set ?_ GE183.out | refine below_set ?_ GE187.out) | exact HB.out)⟩
                      · rw [if_neg c22] at H
                        have c22b0 : (t194 == 500) = false := beq_eq_false_iff_ne.mpr c22
                        have c22b1 : (t194 != 500) = true := bne_iff_ne.mpr c22
                        exact Bool.noConfusion ((Option.some.inj H).trans hr.out)
                    · rw [if_neg c20] at H
                      have c20b0 : (t193 == 501) = false := beq_eq_false_iff_ne.mpr c20
                      have c20b1 : (t193 != 501) = true := bne_iff_ne.mpr c20
                      exact Bool.noConfusion ((Option.some.inj H).trans hr.out)
                  · rw [if_neg c18] at H
                    have c18b0 : (t192 == 0) = false := beq_eq_false_iff_ne.mpr c18
                    have c18b1 : (t192 != 0) = true := bne_iff_ne.mpr c18
                    exact Bool.noConfusion ((Option.some.inj H).trans hr.out)
                · rw [if_neg c16] at H
                  have c16b0 : (t180 == (1 : Int) && (t181 == (258 : Int))) = false := by simpa using c16
                  (try (have c16b1 : decide (t180 = (1 : Int) && (t181 == (258 : Int))) = false := by simpa using c16))
                  (try (have c16b2 : (t180 == (1 : Int) && (t181 == (258 : Int))) = false := by simpa using c16))
                  (try (have c16b3 : ¬ (t180 = (1 : Int) && (t181 == (258 : Int))) := by simpa using c16))
                  clear c16
                  exact Bool.noConfusion ((Option.some.inj H).trans hr.out)
              · rw [if_neg c15] at H
                have c15b0 : (t191 == 0) = false := beq_eq_false_iff_ne.mpr c15
                have c15b1 : (t191 != 0) = true := bne_iff_ne.mpr c15
                exact Bool.noConfusion ((Option.some.inj H).trans hr.out)
            · rw [if_neg c13] at H
              have c13b0 : (t174 == 1 && (t175 == 258)) = false := by simpa using c13
              (try (have c13b1 : decide (t174 = 1 && (t175 == 258)) = false := by simpa using c13))
              (try (have c13b2 : (t174 == 1 && (t175 == 258)) = false := by simpa using c13))
              (try (have c13b3 : ¬ (t174 = 1 && (t175 == 258)) := by simpa using c13))
              clear c13
              exact Bool.noConfusion ((Option.some.inj H).trans hr.out)
          · rw [if_neg c12] at H
            have c12b0 : (t190 == 0) = false := beq_eq_false_iff_ne.mpr c12
            have c12b1 : (t190 != 0) = true := bne_iff_ne.mpr c12
            exact Bool.noConfusion ((Option.some.inj H).trans hr.out)
        · rw [if_neg c10] at H
          have c10b0 : ((t172.extract 0 12).toList == ([99, 114, 121, 111, 0, 0, 0, 1, 0, 0, 1, 2] : List UInt8)) = false := beq_eq_false_iff_ne.mpr c10
          have c10b1 : ((t172.extract 0 12).toList != ([99, 114, 121, 111, 0, 0, 0, 1, 0, 0, 1, 2] : List UInt8)) = true := bne_iff_ne.mpr c10
          exact Bool.noConfusion ((Option.some.inj H).trans hr.out)
      · rw [if_neg c9] at H
        exact absurd H (by simp)
    · rw [if_neg c8] at H
      exact absurd H (by simp)
  · rw [if_neg c7] at H
    have c7b0 : ((t172.size : Int) == 32) = false := beq_eq_false_iff_ne.mpr c7
    have c7b1 : ((t172.size : Int) != 32) = true := bne_iff_ne.mpr c7
    exact Bool.noConfusion ((Option.some.inj H).trans hr.out)
end Go.Proofs.Ytpadejamelppfaa.PHeads
