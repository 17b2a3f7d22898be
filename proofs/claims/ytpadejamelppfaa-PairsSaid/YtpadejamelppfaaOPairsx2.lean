/- Contracts of the functions that the law cryostatlaw1.Pairs reaches (printed for this claim by a tool of the kit, and pruned): each Go function's call comes to its Lean function's answer; those of the law package for the answer true alone. -/
-- printed by a program out of the translation, with contracts of this session's own for what the kit's print refuses
import Derived.Test.YtpadejamelppfaaPPairsx0
import Derived.Test.YtpadejamelppfaaOPairsx1
namespace Go.Proofs.Ytpadejamelppfaa.PPairs
open Go.RowKit Go.Proofs.YtpadejamelppfaaW.PrintWords Go.Proofs.YtpadejamelppfaaW.PrintLast Go.Proofs.YtpadejamelppfaaW.PrintMore
attribute [local go_sem] max2_int min2_int max_two min_two max_three min_three max_four min_four   -- for this text's walks alone
set_option linter.unusedVariables false
set_option linter.unusedSimpArgs false

/-! ### cryostatlaw1_Pairs: function 3 -/
def cryostatlaw1_Pairs.f (k : Nat) (a0 : ByteArray) (a1 : ByteArray) (a2 : Int) : Option (Bool) := (pair_Put.f a0).bind fun bt130 => ((cryostatref1_PutPair.f a0).bind fun bt132 => ((pair_Get.f a1).bind fun bt134 => ((cryostatref1_GetPair.f a1).bind fun bt136 => ((pair_Torn.f a0 a1 a2).bind fun bt138 => ((cryostatref1_Torn.f a0 a1 a2).bind fun bt140 => (if bt130.1.toList = bt132.1.toList then ((cryostatlaw0_Num.f bt130.2).bind fun t142 => (if t142 = bt132.2 then (if bt134.1.toList = bt136.1.toList then ((cryostatlaw0_Num.f bt134.2).bind fun t143 => (if t143 = bt136.2 then (if bt138.1.toList = bt140.1.toList then ((cryostatlaw0_Num.f bt138.2).bind fun t144 => (if t144 = bt140.2 then ((cryostatlaw1_awake.f k).bind fun t145 => (some t145)) else (some false))) else (some false)) else (some false))) else (some false)) else (some false))) else (some false)))))))
theorem cryostatlaw1_Pairs.mono : ∀ a0 a1 a2 k, LeO (cryostatlaw1_Pairs.f k a0 a1 a2) (cryostatlaw1_Pairs.f (k + 1) a0 a1 a2) := by
  intro a0 a1 a2 k
  unfold cryostatlaw1_Pairs.f
  repeat' first
      | (with_reducible exact cryostatlaw1_awake.mono _)
      | (with_reducible exact LeO.refl _)
      | (with_reducible exact LeO.none _)
      | (with_reducible refine LeO.ite ?_ ?_)
      | (with_reducible refine LeO.bind ?_ (fun _ => ?_))
      | exact cryostatlaw1_awake.mono _
      | exact LeO.none _
      | refine LeO.ite ?_ ?_
      | refine LeO.bind ?_ (fun _ => ?_)
set_option maxHeartbeats 8000000 in
set_option maxRecDepth 100000 in
theorem cryostatlaw1_Pairs.calls (k : Nat) (a0 : ByteArray) (a1 : ByteArray) (a2 : Int) (r : Bool) (w : World) (hr : Aside0 (r = true)) (h : cryostatlaw1_Pairs.f k a0 a1 a2 = some r) :
    Calls Try.prog 3 #[.string a0, .string a1, .int .i64 a2] w fun e w' => e = .returned (.bool r) ∧ Below w.heap.size w w' := by
  have HB := Aside0.mk (Below.refl w.heap.size w)
  have H : ((pair_Put.f a0).bind fun bt130 => ((cryostatref1_PutPair.f a0).bind fun bt132 => ((pair_Get.f a1).bind fun bt134 => ((cryostatref1_GetPair.f a1).bind fun bt136 => ((pair_Torn.f a0 a1 a2).bind fun bt138 => ((cryostatref1_Torn.f a0 a1 a2).bind fun bt140 => (if bt130.1.toList = bt132.1.toList then ((cryostatlaw0_Num.f bt130.2).bind fun t142 => (if t142 = bt132.2 then (if bt134.1.toList = bt136.1.toList then ((cryostatlaw0_Num.f bt134.2).bind fun t143 => (if t143 = bt136.2 then (if bt138.1.toList = bt140.1.toList then ((cryostatlaw0_Num.f bt138.2).bind fun t144 => (if t144 = bt140.2 then ((cryostatlaw1_awake.f k).bind fun t145 => (some t145)) else (some false))) else (some false)) else (some false))) else (some false)) else (some false))) else (some false)))))))) = some r := h
  clear h
  replace H := Option.bind_eq_some_iff.mp H
  obtain ⟨⟨t130, t131⟩, A40, H⟩ := H
  replace H : ((cryostatref1_PutPair.f a0).bind fun bt132 => ((pair_Get.f a1).bind fun bt134 => ((cryostatref1_GetPair.f a1).bind fun bt136 => ((pair_Torn.f a0 a1 a2).bind fun bt138 => ((cryostatref1_Torn.f a0 a1 a2).bind fun bt140 => (if t130.toList = bt132.1.toList then ((cryostatlaw0_Num.f t131).bind fun t142 => (if t142 = bt132.2 then (if bt134.1.toList = bt136.1.toList then ((cryostatlaw0_Num.f bt134.2).bind fun t143 => (if t143 = bt136.2 then (if bt138.1.toList = bt140.1.toList then ((cryostatlaw0_Num.f bt138.2).bind fun t144 => (if t144 = bt140.2 then ((cryostatlaw1_awake.f k).bind fun t145 => (some t145)) else (some false))) else (some false)) else (some false))) else (some false)) else (some false))) else (some false))))))) = some r := H
  have A4 := Aside0.mk A40
  clear A40
  replace H := Option.bind_eq_some_iff.mp H
  obtain ⟨⟨t132, t133⟩, A50, H⟩ := H
  replace H : ((pair_Get.f a1).bind fun bt134 => ((cryostatref1_GetPair.f a1).bind fun bt136 => ((pair_Torn.f a0 a1 a2).bind fun bt138 => ((cryostatref1_Torn.f a0 a1 a2).bind fun bt140 => (if t130.toList = t132.toList then ((cryostatlaw0_Num.f t131).bind fun t142 => (if t142 = t133 then (if bt134.1.toList = bt136.1.toList then ((cryostatlaw0_Num.f bt134.2).bind fun t143 => (if t143 = bt136.2 then (if bt138.1.toList = bt140.1.toList then ((cryostatlaw0_Num.f bt138.2).bind fun t144 => (if t144 = bt140.2 then ((cryostatlaw1_awake.f k).bind fun t145 => (some t145)) else (some false))) else (some false)) else (some false))) else (some false)) else (some false))) else (some false)))))) = some r := H
  have A5 := Aside0.mk A50
  clear A50
  replace H := Option.bind_eq_some_iff.mp H
  obtain ⟨⟨t134, t135⟩, A60, H⟩ := H
  replace H : ((cryostatref1_GetPair.f a1).bind fun bt136 => ((pair_Torn.f a0 a1 a2).bind fun bt138 => ((cryostatref1_Torn.f a0 a1 a2).bind fun bt140 => (if t130.toList = t132.toList then ((cryostatlaw0_Num.f t131).bind fun t142 => (if t142 = t133 then (if t134.toList = bt136.1.toList then ((cryostatlaw0_Num.f t135).bind fun t143 => (if t143 = bt136.2 then (if bt138.1.toList = bt140.1.toList then ((cryostatlaw0_Num.f bt138.2).bind fun t144 => (if t144 = bt140.2 then ((cryostatlaw1_awake.f k).bind fun t145 => (some t145)) else (some false))) else (some false)) else (some false))) else (some false)) else (some false))) else (some false))))) = some r := H
  have A6 := Aside0.mk A60
  clear A60
  replace H := Option.bind_eq_some_iff.mp H
  obtain ⟨⟨t136, t137⟩, A70, H⟩ := H
  replace H : ((pair_Torn.f a0 a1 a2).bind fun bt138 => ((cryostatref1_Torn.f a0 a1 a2).bind fun bt140 => (if t130.toList = t132.toList then ((cryostatlaw0_Num.f t131).bind fun t142 => (if t142 = t133 then (if t134.toList = t136.toList then ((cryostatlaw0_Num.f t135).bind fun t143 => (if t143 = t137 then (if bt138.1.toList = bt140.1.toList then ((cryostatlaw0_Num.f bt138.2).bind fun t144 => (if t144 = bt140.2 then ((cryostatlaw1_awake.f k).bind fun t145 => (some t145)) else (some false))) else (some false)) else (some false))) else (some false)) else (some false))) else (some false)))) = some r := H
  have A7 := Aside0.mk A70
  clear A70
  replace H := Option.bind_eq_some_iff.mp H
  obtain ⟨⟨t138, t139⟩, A80, H⟩ := H
  replace H : ((cryostatref1_Torn.f a0 a1 a2).bind fun bt140 => (if t130.toList = t132.toList then ((cryostatlaw0_Num.f t131).bind fun t142 => (if t142 = t133 then (if t134.toList = t136.toList then ((cryostatlaw0_Num.f t135).bind fun t143 => (if t143 = t137 then (if t138.toList = bt140.1.toList then ((cryostatlaw0_Num.f t139).bind fun t144 => (if t144 = bt140.2 then ((cryostatlaw1_awake.f k).bind fun t145 => (some t145)) else (some false))) else (some false)) else (some false))) else (some false)) else (some false))) else (some false))) = some r := H
  have A8 := Aside0.mk A80
  clear A80
  replace H := Option.bind_eq_some_iff.mp H
  obtain ⟨⟨t140, t141⟩, A90, H⟩ := H
  replace H : (if t130.toList = t132.toList then ((cryostatlaw0_Num.f t131).bind fun t142 => (if t142 = t133 then (if t134.toList = t136.toList then ((cryostatlaw0_Num.f t135).bind fun t143 => (if t143 = t137 then (if t138.toList = t140.toList then ((cryostatlaw0_Num.f t139).bind fun t144 => (if t144 = t141 then ((cryostatlaw1_awake.f k).bind fun t145 => (some t145)) else (some false))) else (some false)) else (some false))) else (some false)) else (some false))) else (some false)) = some r := H
  have A9 := Aside0.mk A90
  clear A90
  by_cases c10 : t130.toList = t132.toList
  · rw [if_pos c10] at H
    have c10b0 : (t130.toList == t132.toList) = true := beq_iff_eq.mpr c10
    have c10b1 : (t130.toList != t132.toList) = false := bne_eq_false_iff_eq.mpr c10
    clear c10
    replace H := Option.bind_eq_some_iff.mp H
    obtain ⟨t142, A110, H⟩ := H
    replace H : (if t142 = t133 then (if t134.toList = t136.toList then ((cryostatlaw0_Num.f t135).bind fun t143 => (if t143 = t137 then (if t138.toList = t140.toList then ((cryostatlaw0_Num.f t139).bind fun t144 => (if t144 = t141 then ((cryostatlaw1_awake.f k).bind fun t145 => (some t145)) else (some false))) else (some false)) else (some false))) else (some false)) else (some false)) = some r := H
    have A11 := Aside0.mk A110
    clear A110
    by_cases c12 : t142 = t133
    · rw [if_pos c12] at H
      have c12b0 : (t142 == t133) = true := beq_iff_eq.mpr c12
      have c12b1 : (t142 != t133) = false := bne_eq_false_iff_eq.mpr c12
      clear c12
      by_cases c13 : t134.toList = t136.toList
      · rw [if_pos c13] at H
        have c13b0 : (t134.toList == t136.toList) = true := beq_iff_eq.mpr c13
        have c13b1 : (t134.toList != t136.toList) = false := bne_eq_false_iff_eq.mpr c13
        clear c13
        replace H := Option.bind_eq_some_iff.mp H
        obtain ⟨t143, A140, H⟩ := H
        replace H : (if t143 = t137 then (if t138.toList = t140.toList then ((cryostatlaw0_Num.f t139).bind fun t144 => (if t144 = t141 then ((cryostatlaw1_awake.f k).bind fun t145 => (some t145)) else (some false))) else (some false)) else (some false)) = some r := H
        have A14 := Aside0.mk A140
        clear A140
        by_cases c15 : t143 = t137
        · rw [if_pos c15] at H
          have c15b0 : (t143 == t137) = true := beq_iff_eq.mpr c15
          have c15b1 : (t143 != t137) = false := bne_eq_false_iff_eq.mpr c15
          clear c15
          by_cases c16 : t138.toList = t140.toList
          · rw [if_pos c16] at H
            have c16b0 : (t138.toList == t140.toList) = true := beq_iff_eq.mpr c16
            have c16b1 : (t138.toList != t140.toList) = false := bne_eq_false_iff_eq.mpr c16
            clear c16
            replace H := Option.bind_eq_some_iff.mp H
            obtain ⟨t144, A170, H⟩ := H
            replace H : (if t144 = t141 then ((cryostatlaw1_awake.f k).bind fun t145 => (some t145)) else (some false)) = some r := H
            have A17 := Aside0.mk A170
            clear A170
            by_cases c18 : t144 = t141
            · rw [if_pos c18] at H
              have c18b0 : (t144 == t141) = true := beq_iff_eq.mpr c18
              have c18b1 : (t144 != t141) = false := bne_eq_false_iff_eq.mpr c18
              clear c18
              replace H := Option.bind_eq_some_iff.mp H
              obtain ⟨t145, A190, H⟩ := H
              replace H : (some t145) = some r := H
              have A19 := Aside0.mk A190
              clear A190
              obtain rfl := Option.some.inj H
              go_enter Try.func3, Try.ntmps3
              go_wp2_with (first | ((with_reducible refine gate_callee (f := 16) rfl ?_); refine goesL_ (some 21) rfl rfl Try.func16 (by kernel_rfl) rfl #[.string a0] rfl (by (try simp only [List.map_toArray, List.map_cons, List.map_nil]); first | done | rfl | (simp only [List.length_drop, List.length_take]; rfl)) ?_; (with_reducible refine (pair_Put.calls a0 t130 t131 _ A4.out).mono ?_); rintro e w20 ⟨rfl, hb⟩; refine ⟨_, rfl, ?_⟩; have n0_ := Aside0.mk (below_step (by repeat (first | (with_reducible first | exact HB.out | apply below_alloc | apply pw_below_drewN | apply below_drew1) | exact HB.out)) hb); clear HB; have HB := n0_; clear n0_; (try clear hb); (try clear hb2); (try clear hk); (try clear hi)) | ((with_reducible refine gate_callee (f := 17) rfl ?_); refine goesL_ (some 26) rfl rfl Try.func17 (by kernel_rfl) rfl #[.string a0] rfl (by (try simp only [List.map_toArray, List.map_cons, List.map_nil]); first | done | rfl | (simp only [List.length_drop, List.length_take]; rfl)) ?_; (with_reducible refine (cryostatref1_PutPair.calls a0 t132 t133 _ A5.out).mono ?_); rintro e w21 ⟨rfl, hb⟩; refine ⟨_, rfl, ?_⟩; have n0_ := Aside0.mk (below_step (by repeat (first | (with_reducible first | exact HB.out | apply below_alloc | apply pw_below_drewN | apply below_drew1) | exact HB.out)) hb); clear HB; have HB := n0_; clear n0_; (try clear hb); (try clear hb2); (try clear hk); (try clear hi)) | ((with_reducible refine gate_callee (f := 18) rfl ?_); refine goesL_ (some 31) rfl rfl Try.func18 (by kernel_rfl) rfl #[.string a1] rfl (by (try simp only [List.map_toArray, List.map_cons, List.map_nil]); first | done | rfl | (simp only [List.length_drop, List.length_take]; rfl)) ?_; (with_reducible refine (pair_Get.calls a1 t134 t135 _ A6.out).mono ?_); rintro e w22 ⟨rfl, hb⟩; refine ⟨_, rfl, ?_⟩; have n0_ := Aside0.mk (below_step (by repeat (first | (with_reducible first | exact HB.out | apply below_alloc | apply pw_below_drewN | apply below_drew1) | exact HB.out)) hb); clear HB; have HB := n0_; clear n0_; (try clear hb); (try clear hb2); (try clear hk); (try clear hi)) | ((with_reducible refine gate_callee (f := 19) rfl ?_); refine goesL_ (some 36) rfl rfl Try.func19 (by kernel_rfl) rfl #[.string a1] rfl (by (try simp only [List.map_toArray, List.map_cons, List.map_nil]); first | done | rfl | (simp only [List.length_drop, List.length_take]; rfl)) ?_; (with_reducible refine (cryostatref1_GetPair.calls a1 t136 t137 _ A7.out).mono ?_); rintro e w23 ⟨rfl, hb⟩; refine ⟨_, rfl, ?_⟩; have n0_ := Aside0.mk (below_step (by repeat (first | (with_reducible first | exact HB.out | apply below_alloc | apply pw_below_drewN | apply below_drew1) | exact HB.out)) hb); clear HB; have HB := n0_; clear n0_; (try clear hb); (try clear hb2); (try clear hk); (try clear hi)) | ((with_reducible refine gate_callee (f := 20) rfl ?_); refine goesL_ (some 43) rfl rfl Try.func20 (by kernel_rfl) rfl #[.string a0, .string a1, .int .i64 a2] rfl (by (try simp only [List.map_toArray, List.map_cons, List.map_nil]); first | done | rfl | (simp only [List.length_drop, List.length_take]; rfl)) ?_; (with_reducible refine (pair_Torn.calls a0 a1 a2 t138 t139 _ A8.out).mono ?_); rintro e w' ⟨rfl, ⟨nd, rfl⟩⟩; refine ⟨_, rfl, ?_⟩) | ((with_reducible refine gate_callee (f := 21) rfl ?_); refine goesL_ (some 50) rfl rfl Try.func21 (by kernel_rfl) rfl #[.string a0, .string a1, .int .i64 a2] rfl (by (try simp only [List.map_toArray, List.map_cons, List.map_nil]); first | done | rfl | (simp only [List.length_drop, List.length_take]; rfl)) ?_; (with_reducible refine (cryostatref1_Torn.calls a0 a1 a2 t140 t141 _ A9.out).mono ?_); rintro e w' ⟨rfl, ⟨nd, rfl⟩⟩; refine ⟨_, rfl, ?_⟩) | (go_at_call 22; (with_reducible refine (cryostatlaw0_Num.calls t131 t142 _ A11.out).mono ?_); rintro e w' ⟨rfl, ⟨nd, rfl⟩⟩) | (go_at_call 22; (with_reducible refine (cryostatlaw0_Num.calls t135 t143 _ A14.out).mono ?_); rintro e w' ⟨rfl, ⟨nd, rfl⟩⟩) | (go_at_call 22; (with_reducible refine (cryostatlaw0_Num.calls t139 t144 _ A17.out).mono ?_); rintro e w' ⟨rfl, ⟨nd, rfl⟩⟩) | (go_at_call 23; (with_reducible refine (cryostatlaw1_awake.calls k  t145 _ hr A19.out).mono ?_); rintro e w24 ⟨rfl, hb⟩; have n0_ := Aside0.mk (below_step (by repeat (first | (with_reducible first | exact HB.out | apply below_alloc | apply pw_below_drewN | apply below_drew1) | exact HB.out)) hb); clear HB; have HB := n0_; clear n0_; (try clear hb); (try clear hb2); (try clear hk); (try clear hi)))
              go_ret
              exact ⟨by first | rfl | (simp [errW_none, errW_some] <;> rfl) | (simp [*, errW_none, errW_some] <;> rfl), by repeat (first | (with_reducible first | exact HB.out | apply below_alloc | apply pw_below_drewN | apply below_drew1) | exact HB.out)⟩
            · rw [if_neg c18] at H
              have c18b0 : (t144 == t141) = false := beq_eq_false_iff_ne.mpr c18
              have c18b1 : (t144 != t141) = true := bne_iff_ne.mpr c18
              exact Bool.noConfusion ((Option.some.inj H).trans hr.out)
          · rw [if_neg c16] at H
            have c16b0 : (t138.toList == t140.toList) = false := beq_eq_false_iff_ne.mpr c16
            have c16b1 : (t138.toList != t140.toList) = true := bne_iff_ne.mpr c16
            exact Bool.noConfusion ((Option.some.inj H).trans hr.out)
        · rw [if_neg c15] at H
          have c15b0 : (t143 == t137) = false := beq_eq_false_iff_ne.mpr c15
          have c15b1 : (t143 != t137) = true := bne_iff_ne.mpr c15
          exact Bool.noConfusion ((Option.some.inj H).trans hr.out)
      · rw [if_neg c13] at H
        have c13b0 : (t134.toList == t136.toList) = false := beq_eq_false_iff_ne.mpr c13
        have c13b1 : (t134.toList != t136.toList) = true := bne_iff_ne.mpr c13
        exact Bool.noConfusion ((Option.some.inj H).trans hr.out)
    · rw [if_neg c12] at H
      have c12b0 : (t142 == t133) = false := beq_eq_false_iff_ne.mpr c12
      have c12b1 : (t142 != t133) = true := bne_iff_ne.mpr c12
      exact Bool.noConfusion ((Option.some.inj H).trans hr.out)
  · rw [if_neg c10] at H
    have c10b0 : (t130.toList == t132.toList) = false := beq_eq_false_iff_ne.mpr c10
    have c10b1 : (t130.toList != t132.toList) = true := bne_iff_ne.mpr c10
    exact Bool.noConfusion ((Option.some.inj H).trans hr.out)
/-- THE ONE PURE STATEMENT of cryostatlaw1_Pairs: yours. -/
def cryostatlaw1_Pairs.Pure : Prop := ∀ (a0 : ByteArray) (a1 : ByteArray) (a2 : Int), a0.size ≤ 140737488351232 → a1.size ≤ 140737488351232 → (Lit.int .i64 a2).wf = true → ∃ k, cryostatlaw1_Pairs.f k a0 a1 a2 = some true
theorem cryostatlaw1_Pairs.walk (P : cryostatlaw1_Pairs.Pure) (a0 : ByteArray) (a1 : ByteArray) (a2 : Int) (w : World) (w0 : a0.size ≤ 140737488351232) (w1 : a1.size ≤ 140737488351232) (w2 : (Lit.int .i64 a2).wf = true) :
    Calls Try.prog 3 #[.string a0, .string a1, .int .i64 a2] w fun e w' => e = .returned (.bool true) ∧ Below w.heap.size w w' := by
  obtain ⟨k, h⟩ := P a0 a1 a2 w0 w1 w2
  refine (cryostatlaw1_Pairs.calls k a0 a1 a2 true w ⟨rfl⟩ h).mono ?_
  rintro e w' ⟨rfl, hd⟩
  exact ⟨rfl, hd⟩

end Go.Proofs.Ytpadejamelppfaa.PPairs
