/- Contracts of the functions that the law cryostatlaw1.PairTorn reaches (printed for this claim by a tool of the kit, and pruned): each Go function's call comes to its Lean function's answer; those of the law package for the answer true alone. -/
-- printed by a program out of the translation, with contracts of this session's own for what the kit's print refuses
import Derived.Test.YtpadejamelppfaaPPairTornx0
import Derived.Test.YtpadejamelppfaaOPairTornx1
namespace Go.Proofs.Ytpadejamelppfaa.PPairTorn
open Go.RowKit Go.Proofs.YtpadejamelppfaaW.PrintWords Go.Proofs.YtpadejamelppfaaW.PrintLast Go.Proofs.YtpadejamelppfaaW.PrintMore
attribute [local go_sem] max2_int min2_int max_two min_two max_three min_three max_four min_four   -- for this text's walks alone
set_option linter.unusedVariables false
set_option linter.unusedSimpArgs false

/-! ### cryostatlaw1_PairTorn: function 4 -/
def cryostatlaw1_PairTorn.j0 : Nat → ByteArray → ByteArray → ByteArray → Bool → Option (Bool)
  | 0, _, _, _, _ => none
  | k + 1, x7, x9, x11, x51 => if x51 = true then (some false) else ((pair_Get.f x11).bind fun bt141 => (if x11.toList = x7.toList then (some true) else (if x11.toList = x9.toList then (some true) else (if bt141.1.toList = ([] : List UInt8) then ((cryostatlaw0_Num.f bt141.2).bind fun t143 => (some (t143 == 100))) else (some false)))))
def cryostatlaw1_PairTorn.f (k : Nat) (a0 : ByteArray) (a1 : ByteArray) (a2 : Int) : Option (Bool) := (cryostatlaw1_awake.f k).bind fun t129 => (if t129 = true then ((cryostatlaw1_half.f a0).bind fun t130 => ((pair_Put.f t130).bind fun bt131 => ((cryostatlaw1_half.f a1).bind fun t133 => ((pair_Put.f t133).bind fun bt134 => ((pair_Torn.f bt131.1 bt134.1 (wrap64 (Int.tmod (IntKind.u64.wrap (a2)) 65))).bind fun bt136 => ((cryostatlaw0_Num.f bt131.2).bind fun t138 => (if t138 = 0 then ((cryostatlaw0_Num.f bt134.2).bind fun t139 => (if t139 = 0 then ((cryostatlaw0_Num.f bt136.2).bind fun t140 => (cryostatlaw1_PairTorn.j0 k bt131.1 bt134.1 bt136.1 (t140 != 0))) else (cryostatlaw1_PairTorn.j0 k bt131.1 bt134.1 bt136.1 true))) else (cryostatlaw1_PairTorn.j0 k bt131.1 bt134.1 bt136.1 true)))))))) else (some false))
theorem cryostatlaw1_PairTorn.mono_l : ∀ k, (∀ y0 y1 y2 y3, LeO (cryostatlaw1_PairTorn.j0 k y0 y1 y2 y3) (cryostatlaw1_PairTorn.j0 (k + 1) y0 y1 y2 y3))
  | 0 => fun _ _ _ _ r h => by simp [cryostatlaw1_PairTorn.j0] at h
  | k + 1 => by
    have ih0 := cryostatlaw1_PairTorn.mono_l k
    · intro y0 y1 y2 y3
      unfold cryostatlaw1_PairTorn.j0
      repeat' first
      | (with_reducible exact ih0 _ _ _ _)
      | (with_reducible exact cryostatlaw1_awake.mono _)
      | (with_reducible exact LeO.refl _)
      | (with_reducible exact LeO.none _)
      | (with_reducible refine LeO.ite ?_ ?_)
      | (with_reducible refine LeO.bind ?_ (fun _ => ?_))
      | exact ih0 _ _ _ _
      | exact cryostatlaw1_awake.mono _
      | exact LeO.none _
      | refine LeO.ite ?_ ?_
      | refine LeO.bind ?_ (fun _ => ?_)
theorem cryostatlaw1_PairTorn.mono : ∀ a0 a1 a2 k, LeO (cryostatlaw1_PairTorn.f k a0 a1 a2) (cryostatlaw1_PairTorn.f (k + 1) a0 a1 a2) := by
  intro a0 a1 a2 k
  have ih0 := cryostatlaw1_PairTorn.mono_l k
  unfold cryostatlaw1_PairTorn.f
  repeat' first
      | (with_reducible exact ih0 _ _ _ _)
      | (with_reducible exact cryostatlaw1_awake.mono _)
      | (with_reducible exact LeO.refl _)
      | (with_reducible exact LeO.none _)
      | (with_reducible refine LeO.ite ?_ ?_)
      | (with_reducible refine LeO.bind ?_ (fun _ => ?_))
      | exact ih0 _ _ _ _
      | exact cryostatlaw1_awake.mono _
      | exact LeO.none _
      | refine LeO.ite ?_ ?_
      | refine LeO.bind ?_ (fun _ => ?_)
set_option maxHeartbeats 8000000 in
set_option maxRecDepth 100000 in
theorem cryostatlaw1_PairTorn.calls (k : Nat) (a0 : ByteArray) (a1 : ByteArray) (a2 : Int) (r : Bool) (w : World) (hr : Aside0 (r = true)) (h : cryostatlaw1_PairTorn.f k a0 a1 a2 = some r) :
    Calls Try.prog 4 #[.string a0, .string a1, .int .i64 a2] w fun e w' => e = .returned (.bool r) ∧ Below w.heap.size w w' := by
  have HB := Aside0.mk (Below.refl w.heap.size w)
  have H : ((cryostatlaw1_awake.f k).bind fun t129 => (if t129 = true then ((cryostatlaw1_half.f a0).bind fun t130 => ((pair_Put.f t130).bind fun bt131 => ((cryostatlaw1_half.f a1).bind fun t133 => ((pair_Put.f t133).bind fun bt134 => ((pair_Torn.f bt131.1 bt134.1 (wrap64 (Int.tmod (IntKind.u64.wrap (a2)) 65))).bind fun bt136 => ((cryostatlaw0_Num.f bt131.2).bind fun t138 => (if t138 = 0 then ((cryostatlaw0_Num.f bt134.2).bind fun t139 => (if t139 = 0 then ((cryostatlaw0_Num.f bt136.2).bind fun t140 => (cryostatlaw1_PairTorn.j0 k bt131.1 bt134.1 bt136.1 (t140 != 0))) else (cryostatlaw1_PairTorn.j0 k bt131.1 bt134.1 bt136.1 true))) else (cryostatlaw1_PairTorn.j0 k bt131.1 bt134.1 bt136.1 true)))))))) else (some false))) = some r := h
  clear h
  replace H := Option.bind_eq_some_iff.mp H
  obtain ⟨t129, A40, H⟩ := H
  replace H : (if t129 = true then ((cryostatlaw1_half.f a0).bind fun t130 => ((pair_Put.f t130).bind fun bt131 => ((cryostatlaw1_half.f a1).bind fun t133 => ((pair_Put.f t133).bind fun bt134 => ((pair_Torn.f bt131.1 bt134.1 (wrap64 (Int.tmod (IntKind.u64.wrap (a2)) 65))).bind fun bt136 => ((cryostatlaw0_Num.f bt131.2).bind fun t138 => (if t138 = 0 then ((cryostatlaw0_Num.f bt134.2).bind fun t139 => (if t139 = 0 then ((cryostatlaw0_Num.f bt136.2).bind fun t140 => (cryostatlaw1_PairTorn.j0 k bt131.1 bt134.1 bt136.1 (t140 != 0))) else (cryostatlaw1_PairTorn.j0 k bt131.1 bt134.1 bt136.1 true))) else (cryostatlaw1_PairTorn.j0 k bt131.1 bt134.1 bt136.1 true)))))))) else (some false)) = some r := H
  have A4 := Aside0.mk A40
  clear A40
  by_cases c5 : t129 = true
  · subst c5
    have H1 : ((cryostatlaw1_half.f a0).bind fun t130 => ((pair_Put.f t130).bind fun bt131 => ((cryostatlaw1_half.f a1).bind fun t133 => ((pair_Put.f t133).bind fun bt134 => ((pair_Torn.f bt131.1 bt134.1 (wrap64 (Int.tmod (IntKind.u64.wrap (a2)) 65))).bind fun bt136 => ((cryostatlaw0_Num.f bt131.2).bind fun t138 => (if t138 = 0 then ((cryostatlaw0_Num.f bt134.2).bind fun t139 => (if t139 = 0 then ((cryostatlaw0_Num.f bt136.2).bind fun t140 => (cryostatlaw1_PairTorn.j0 k bt131.1 bt134.1 bt136.1 (t140 != 0))) else (cryostatlaw1_PairTorn.j0 k bt131.1 bt134.1 bt136.1 true))) else (cryostatlaw1_PairTorn.j0 k bt131.1 bt134.1 bt136.1 true)))))))) = some r := by rw [if_pos rfl] at H; exact H
    clear H
    have H := H1
    clear H1
    replace H := Option.bind_eq_some_iff.mp H
    obtain ⟨t130, A60, H⟩ := H
    replace H : ((pair_Put.f t130).bind fun bt131 => ((cryostatlaw1_half.f a1).bind fun t133 => ((pair_Put.f t133).bind fun bt134 => ((pair_Torn.f bt131.1 bt134.1 (wrap64 (Int.tmod (IntKind.u64.wrap (a2)) 65))).bind fun bt136 => ((cryostatlaw0_Num.f bt131.2).bind fun t138 => (if t138 = 0 then ((cryostatlaw0_Num.f bt134.2).bind fun t139 => (if t139 = 0 then ((cryostatlaw0_Num.f bt136.2).bind fun t140 => (cryostatlaw1_PairTorn.j0 k bt131.1 bt134.1 bt136.1 (t140 != 0))) else (cryostatlaw1_PairTorn.j0 k bt131.1 bt134.1 bt136.1 true))) else (cryostatlaw1_PairTorn.j0 k bt131.1 bt134.1 bt136.1 true))))))) = some r := H
    have A6 := Aside0.mk A60
    clear A60
    replace H := Option.bind_eq_some_iff.mp H
    obtain ⟨⟨t131, t132⟩, A70, H⟩ := H
    replace H : ((cryostatlaw1_half.f a1).bind fun t133 => ((pair_Put.f t133).bind fun bt134 => ((pair_Torn.f t131 bt134.1 (wrap64 (Int.tmod (IntKind.u64.wrap (a2)) 65))).bind fun bt136 => ((cryostatlaw0_Num.f t132).bind fun t138 => (if t138 = 0 then ((cryostatlaw0_Num.f bt134.2).bind fun t139 => (if t139 = 0 then ((cryostatlaw0_Num.f bt136.2).bind fun t140 => (cryostatlaw1_PairTorn.j0 k t131 bt134.1 bt136.1 (t140 != 0))) else (cryostatlaw1_PairTorn.j0 k t131 bt134.1 bt136.1 true))) else (cryostatlaw1_PairTorn.j0 k t131 bt134.1 bt136.1 true)))))) = some r := H
    have A7 := Aside0.mk A70
    clear A70
    replace H := Option.bind_eq_some_iff.mp H
    obtain ⟨t133, A80, H⟩ := H
    replace H : ((pair_Put.f t133).bind fun bt134 => ((pair_Torn.f t131 bt134.1 (wrap64 (Int.tmod (IntKind.u64.wrap (a2)) 65))).bind fun bt136 => ((cryostatlaw0_Num.f t132).bind fun t138 => (if t138 = 0 then ((cryostatlaw0_Num.f bt134.2).bind fun t139 => (if t139 = 0 then ((cryostatlaw0_Num.f bt136.2).bind fun t140 => (cryostatlaw1_PairTorn.j0 k t131 bt134.1 bt136.1 (t140 != 0))) else (cryostatlaw1_PairTorn.j0 k t131 bt134.1 bt136.1 true))) else (cryostatlaw1_PairTorn.j0 k t131 bt134.1 bt136.1 true))))) = some r := H
    have A8 := Aside0.mk A80
    clear A80
    replace H := Option.bind_eq_some_iff.mp H
    obtain ⟨⟨t134, t135⟩, A90, H⟩ := H
    replace H : ((pair_Torn.f t131 t134 (wrap64 (Int.tmod (IntKind.u64.wrap (a2)) 65))).bind fun bt136 => ((cryostatlaw0_Num.f t132).bind fun t138 => (if t138 = 0 then ((cryostatlaw0_Num.f t135).bind fun t139 => (if t139 = 0 then ((cryostatlaw0_Num.f bt136.2).bind fun t140 => (cryostatlaw1_PairTorn.j0 k t131 t134 bt136.1 (t140 != 0))) else (cryostatlaw1_PairTorn.j0 k t131 t134 bt136.1 true))) else (cryostatlaw1_PairTorn.j0 k t131 t134 bt136.1 true)))) = some r := H
    have A9 := Aside0.mk A90
    clear A90
    replace H := Option.bind_eq_some_iff.mp H
    obtain ⟨⟨t136, t137⟩, A100, H⟩ := H
    replace H : ((cryostatlaw0_Num.f t132).bind fun t138 => (if t138 = 0 then ((cryostatlaw0_Num.f t135).bind fun t139 => (if t139 = 0 then ((cryostatlaw0_Num.f t137).bind fun t140 => (cryostatlaw1_PairTorn.j0 k t131 t134 t136 (t140 != 0))) else (cryostatlaw1_PairTorn.j0 k t131 t134 t136 true))) else (cryostatlaw1_PairTorn.j0 k t131 t134 t136 true))) = some r := H
    have A10 := Aside0.mk A100
    clear A100
    have HC11 := Aside0.mk H
    clear H
    go_enter Try.func4, Try.ntmps4
    go_upto_region 6 with (first | ((with_reducible refine gate_callee (f := 23) rfl ?_); refine goesL_ (some 15) rfl rfl Try.func23 (by kernel_rfl) rfl #[] rfl (by (try simp only [List.map_toArray, List.map_cons, List.map_nil]); first | done | rfl | (simp only [List.length_drop, List.length_take]; rfl)) ?_; (with_reducible refine (cryostatlaw1_awake.calls k  true _ ⟨rfl⟩ A4.out).mono ?_); rintro e w12 ⟨rfl, hb⟩; refine ⟨_, rfl, ?_⟩; have n0_ := Aside0.mk (below_step (by repeat (first | (with_reducible first | exact HB.out | apply below_alloc | apply pw_below_drewN | apply below_drew1) | exact HB.out)) hb); clear HB; have HB := n0_; clear n0_; (try clear hb); (try clear hb2); (try clear hk); (try clear hi)) | ((with_reducible refine gate_callee (f := 24) rfl ?_); refine goesL_ (some 19) rfl rfl Try.func24 (by kernel_rfl) rfl #[.string a0] rfl (by (try simp only [List.map_toArray, List.map_cons, List.map_nil]); first | done | rfl | (simp only [List.length_drop, List.length_take]; rfl)) ?_; (with_reducible refine (cryostatlaw1_half.calls a0 t130 _ A6.out).mono ?_); rintro e w13 ⟨rfl, hb⟩; refine ⟨_, rfl, ?_⟩; have n0_ := Aside0.mk (below_step (by repeat (first | (with_reducible first | exact HB.out | apply below_alloc | apply pw_below_drewN | apply below_drew1) | exact HB.out)) hb); clear HB; have HB := n0_; clear n0_; (try clear hb); (try clear hb2); (try clear hk); (try clear hi)) | ((with_reducible refine gate_callee (f := 16) rfl ?_); refine goesL_ (some 20) rfl rfl Try.func16 (by kernel_rfl) rfl #[.string t130] rfl (by (try simp only [List.map_toArray, List.map_cons, List.map_nil]); first | done | rfl | (simp only [List.length_drop, List.length_take]; rfl)) ?_; (with_reducible refine (pair_Put.calls t130 t131 t132 _ A7.out).mono ?_); rintro e w14 ⟨rfl, hb⟩; refine ⟨_, rfl, ?_⟩; have n0_ := Aside0.mk (below_step (by repeat (first | (with_reducible first | exact HB.out | apply below_alloc | apply pw_below_drewN | apply below_drew1) | exact HB.out)) hb); clear HB; have HB := n0_; clear n0_; (try clear hb); (try clear hb2); (try clear hk); (try clear hi)) | ((with_reducible refine gate_callee (f := 24) rfl ?_); refine goesL_ (some 25) rfl rfl Try.func24 (by kernel_rfl) rfl #[.string a1] rfl (by (try simp only [List.map_toArray, List.map_cons, List.map_nil]); first | done | rfl | (simp only [List.length_drop, List.length_take]; rfl)) ?_; (with_reducible refine (cryostatlaw1_half.calls a1 t133 _ A8.out).mono ?_); rintro e w15 ⟨rfl, hb⟩; refine ⟨_, rfl, ?_⟩; have n0_ := Aside0.mk (below_step (by repeat (first | (with_reducible first | exact HB.out | apply below_alloc | apply pw_below_drewN | apply below_drew1) | exact HB.out)) hb); clear HB; have HB := n0_; clear n0_; (try clear hb); (try clear hb2); (try clear hk); (try clear hi)) | ((with_reducible refine gate_callee (f := 16) rfl ?_); refine goesL_ (some 26) rfl rfl Try.func16 (by kernel_rfl) rfl #[.string t133] rfl (by (try simp only [List.map_toArray, List.map_cons, List.map_nil]); first | done | rfl | (simp only [List.length_drop, List.length_take]; rfl)) ?_; (with_reducible refine (pair_Put.calls t133 t134 t135 _ A9.out).mono ?_); rintro e w16 ⟨rfl, hb⟩; refine ⟨_, rfl, ?_⟩; have n0_ := Aside0.mk (below_step (by repeat (first | (with_reducible first | exact HB.out | apply below_alloc | apply pw_below_drewN | apply below_drew1) | exact HB.out)) hb); clear HB; have HB := n0_; clear n0_; (try clear hb); (try clear hb2); (try clear hk); (try clear hi)) | ((with_reducible refine gate_callee (f := 20) rfl ?_); refine goesL_ (some 36) rfl rfl Try.func20 (by kernel_rfl) rfl #[.string t131, .string t134, .int .i64 (wrap64 (Int.tmod (IntKind.u64.wrap (a2)) 65))] rfl (by (try simp only [List.map_toArray, List.map_cons, List.map_nil]); first | done | rfl | (simp only [List.length_drop, List.length_take]; rfl)) ?_; (with_reducible refine (pair_Torn.calls t131 t134 (wrap64 (Int.tmod (IntKind.u64.wrap (a2)) 65)) t136 t137 _ A10.out).mono ?_); rintro e w' ⟨rfl, ⟨nd, rfl⟩⟩; refine ⟨_, rfl, ?_⟩))
    (try simp only [Act.put, List.setIfInBounds_toArray, List.set_cons_zero, List.set_cons_succ])
    go_cut [51] (fun v51 wc => ∃ (kq : Nat) (x51_10 : Bool), v51 = .bool x51_10 ∧ Aside0 (cryostatlaw1_PairTorn.j0 kq t131 t134 t136 x51_10 = some r) ∧ Aside0 (kq ≤ k) ∧ Aside0 (Below w.heap.size w wc))
    case first =>
      have H := HC11.out
      clear HC11
      replace H := Option.bind_eq_some_iff.mp H
      obtain ⟨t138, A170, H⟩ := H
      replace H : (if t138 = 0 then ((cryostatlaw0_Num.f t135).bind fun t139 => (if t139 = 0 then ((cryostatlaw0_Num.f t137).bind fun t140 => (cryostatlaw1_PairTorn.j0 k t131 t134 t136 (t140 != 0))) else (cryostatlaw1_PairTorn.j0 k t131 t134 t136 true))) else (cryostatlaw1_PairTorn.j0 k t131 t134 t136 true)) = some r := H
      have A17 := Aside0.mk A170
      clear A170
      by_cases c18 : t138 = 0
      · rw [if_pos c18] at H
        have c18b0 : (t138 == 0) = true := beq_iff_eq.mpr c18
        have c18b1 : (t138 != 0) = false := bne_eq_false_iff_eq.mpr c18
        clear c18
        (first | rw [c18b0] | (simp only [i64_w, i32_w]; rw [c18b0]) | skip)
        replace H := Option.bind_eq_some_iff.mp H
        obtain ⟨t139, A190, H⟩ := H
        replace H : (if t139 = 0 then ((cryostatlaw0_Num.f t137).bind fun t140 => (cryostatlaw1_PairTorn.j0 k t131 t134 t136 (t140 != 0))) else (cryostatlaw1_PairTorn.j0 k t131 t134 t136 true)) = some r := H
        have A19 := Aside0.mk A190
        clear A190
        by_cases c20 : t139 = 0
        · rw [if_pos c20] at H
          have c20b0 : (t139 == 0) = true := beq_iff_eq.mpr c20
          have c20b1 : (t139 != 0) = false := bne_eq_false_iff_eq.mpr c20
          clear c20
          replace H := Option.bind_eq_some_iff.mp H
          obtain ⟨t140, A210, H⟩ := H
          replace H : (cryostatlaw1_PairTorn.j0 k t131 t134 t136 (t140 != 0)) = some r := H
          have A21 := Aside0.mk A210
          clear A210
          have H' := Aside0.mk H
          clear H
          go_wp2_with (first | ((with_reducible refine gate_callee (f := 22) rfl ?_); refine goesL_ (some 40) rfl rfl Try.func22 (by kernel_rfl) rfl #[.int .i64 t132] rfl (by (try simp only [List.map_toArray, List.map_cons, List.map_nil]); first | done | rfl | (simp only [List.length_drop, List.length_take]; rfl)) ?_; (with_reducible refine (cryostatlaw0_Num.calls t132 t138 _ A17.out).mono ?_); rintro e w' ⟨rfl, ⟨nd, rfl⟩⟩; refine ⟨_, rfl, ?_⟩) | (go_at_call 22; (with_reducible refine (cryostatlaw0_Num.calls t135 t139 _ A19.out).mono ?_); rintro e w' ⟨rfl, ⟨nd, rfl⟩⟩) | (go_at_call 22; (with_reducible refine (cryostatlaw0_Num.calls t137 t140 _ A21.out).mono ?_); rintro e w' ⟨rfl, ⟨nd, rfl⟩⟩))
          go_meet
          case rel => exact ⟨_, ((t140 != 0)), (by first | rfl | (simp; done) | (simp [*]; done)), H', ⟨by first | omega | exact Nat.le_refl _⟩, ⟨by repeat (first | (with_reducible first | exact HB.out | apply below_alloc | apply pw_below_drewN | apply below_drew1) | exact HB.out)⟩⟩
        · rw [if_neg c20] at H
          have c20b0 : (t139 == 0) = false := beq_eq_false_iff_ne.mpr c20
          have c20b1 : (t139 != 0) = true := bne_iff_ne.mpr c20
          have H' := Aside0.mk H
          clear H
          go_wp2_with (first | ((with_reducible refine gate_callee (f := 22) rfl ?_); refine goesL_ (some 40) rfl rfl Try.func22 (by kernel_rfl) rfl #[.int .i64 t132] rfl (by (try simp only [List.map_toArray, List.map_cons, List.map_nil]); first | done | rfl | (simp only [List.length_drop, List.length_take]; rfl)) ?_; (with_reducible refine (cryostatlaw0_Num.calls t132 t138 _ A17.out).mono ?_); rintro e w' ⟨rfl, ⟨nd, rfl⟩⟩; refine ⟨_, rfl, ?_⟩) | (go_at_call 22; (with_reducible refine (cryostatlaw0_Num.calls t135 t139 _ A19.out).mono ?_); rintro e w' ⟨rfl, ⟨nd, rfl⟩⟩))
          go_meet
          case rel => exact ⟨_, (true), (by first | rfl | (simp; done) | (simp [*]; done)), H', ⟨by first | omega | exact Nat.le_refl _⟩, ⟨by repeat (first | (with_reducible first | exact HB.out | apply below_alloc | apply pw_below_drewN | apply below_drew1) | exact HB.out)⟩⟩
      · rw [if_neg c18] at H
        have c18b0 : (t138 == 0) = false := beq_eq_false_iff_ne.mpr c18
        have c18b1 : (t138 != 0) = true := bne_iff_ne.mpr c18
        (first | rw [c18b0] | (simp only [i64_w, i32_w]; rw [c18b0]) | skip)
        have H' := Aside0.mk H
        clear H
        go_wp2_with (first | ((with_reducible refine gate_callee (f := 22) rfl ?_); refine goesL_ (some 40) rfl rfl Try.func22 (by kernel_rfl) rfl #[.int .i64 t132] rfl (by (try simp only [List.map_toArray, List.map_cons, List.map_nil]); first | done | rfl | (simp only [List.length_drop, List.length_take]; rfl)) ?_; (with_reducible refine (cryostatlaw0_Num.calls t132 t138 _ A17.out).mono ?_); rintro e w' ⟨rfl, ⟨nd, rfl⟩⟩; refine ⟨_, rfl, ?_⟩))
        go_meet
        case rel => exact ⟨_, (true), (by first | rfl | (simp; done) | (simp [*]; done)), H', ⟨by first | omega | exact Nat.le_refl _⟩, ⟨by repeat (first | (with_reducible first | exact HB.out | apply below_alloc | apply pw_below_drewN | apply below_drew1) | exact HB.out)⟩⟩
    case rest =>
      clear HC11
      try clear c1
      try clear c2
      try clear p2
      try clear c4
      try clear c5
      try clear p6
      try clear c16
      try clear c18
      try clear c18b0
      try clear c18b1
      try clear c20
      try clear c20b0
      try clear c20b1
      obtain ⟨kq, x51_10, rfl, HA, HJ10, HB⟩ := hcut
      cases kq with
      | zero => exact absurd HA.out (by simp [cryostatlaw1_PairTorn.j0])
      | succ kj10 =>
        have H := HA.out
        clear HA
        simp only [cryostatlaw1_PairTorn.j0] at H
        by_cases c22 : x51_10 = true
        · subst c22
          have H1 : (some false) = some r := by rw [if_pos rfl] at H; exact H
          clear H
          have H := H1
          clear H1
          exact Bool.noConfusion ((Option.some.inj H).trans hr.out)
        · replace c22 := Bool.eq_false_iff.mpr c22
          subst c22
          have H1 : ((pair_Get.f t136).bind fun bt141 => (if t136.toList = t131.toList then (some true) else (if t136.toList = t134.toList then (some true) else (if bt141.1.toList = ([] : List UInt8) then ((cryostatlaw0_Num.f bt141.2).bind fun t143 => (some (t143 == 100))) else (some false))))) = some r := by rw [if_neg (show ¬ (false = true) by decide)] at H; exact H
          clear H
          have H := H1
          clear H1
          replace H := Option.bind_eq_some_iff.mp H
          obtain ⟨⟨t141, t142⟩, A230, H⟩ := H
          replace H : (if t136.toList = t131.toList then (some true) else (if t136.toList = t134.toList then (some true) else (if t141.toList = ([] : List UInt8) then ((cryostatlaw0_Num.f t142).bind fun t143 => (some (t143 == 100))) else (some false)))) = some r := H
          have A23 := Aside0.mk A230
          clear A230
          by_cases c24 : t136.toList = t131.toList
          · rw [if_pos c24] at H
            have c24b0 : (t136.toList == t131.toList) = true := beq_iff_eq.mpr c24
            have c24b1 : (t136.toList != t131.toList) = false := bne_eq_false_iff_eq.mpr c24
            clear c24
            obtain rfl := Option.some.inj H
            go_wp2_with (first | ((with_reducible refine gate_callee (f := 18) rfl ?_); refine goesL_ (some 54) rfl rfl Try.func18 (by kernel_rfl) rfl #[.string t136] rfl (by (try simp only [List.map_toArray, List.map_cons, List.map_nil]); first | done | rfl | (simp only [List.length_drop, List.length_take]; rfl)) ?_; (with_reducible refine (pair_Get.calls t136 t141 t142 _ A23.out).mono ?_); rintro e w25 ⟨rfl, hb⟩; refine ⟨_, rfl, ?_⟩; have n0_ := Aside0.mk (below_step (by repeat (first | (with_reducible first | exact HB.out | apply below_alloc | apply pw_below_drewN | apply below_drew1) | exact HB.out)) hb); clear HB; have HB := n0_; clear n0_; (try clear hb); (try clear hb2); (try clear hk); (try clear hi)))
            go_ret
            exact ⟨by first | rfl | (simp [errW_none, errW_some] <;> rfl) | (simp [*, errW_none, errW_some] <;> rfl), by repeat (first | (with_reducible first | exact HB.out | apply below_alloc | apply pw_below_drewN | apply below_drew1) | exact HB.out)⟩
          · rw [if_neg c24] at H
            have c24b0 : (t136.toList == t131.toList) = false := beq_eq_false_iff_ne.mpr c24
            have c24b1 : (t136.toList != t131.toList) = true := bne_iff_ne.mpr c24
            by_cases c26 : t136.toList = t134.toList
            · rw [if_pos c26] at H
              have c26b0 : (t136.toList == t134.toList) = true := beq_iff_eq.mpr c26
              have c26b1 : (t136.toList != t134.toList) = false := bne_eq_false_iff_eq.mpr c26
              clear c26
              obtain rfl := Option.some.inj H
              go_wp2_with (first | ((with_reducible refine gate_callee (f := 18) rfl ?_); refine goesL_ (some 54) rfl rfl Try.func18 (by kernel_rfl) rfl #[.string t136] rfl (by (try simp only [List.map_toArray, List.map_cons, List.map_nil]); first | done | rfl | (simp only [List.length_drop, List.length_take]; rfl)) ?_; (with_reducible refine (pair_Get.calls t136 t141 t142 _ A23.out).mono ?_); rintro e w27 ⟨rfl, hb⟩; refine ⟨_, rfl, ?_⟩; have n0_ := Aside0.mk (below_step (by repeat (first | (with_reducible first | exact HB.out | apply below_alloc | apply pw_below_drewN | apply below_drew1) | exact HB.out)) hb); clear HB; have HB := n0_; clear n0_; (try clear hb); (try clear hb2); (try clear hk); (try clear hi)))
              go_ret
              exact ⟨by first | rfl | (simp [errW_none, errW_some] <;> rfl) | (simp [*, errW_none, errW_some] <;> rfl), by repeat (first | (with_reducible first | exact HB.out | apply below_alloc | apply pw_below_drewN | apply below_drew1) | exact HB.out)⟩
            · rw [if_neg c26] at H
              have c26b0 : (t136.toList == t134.toList) = false := beq_eq_false_iff_ne.mpr c26
              have c26b1 : (t136.toList != t134.toList) = true := bne_iff_ne.mpr c26
              by_cases c28 : t141.toList = ([] : List UInt8)
              · rw [if_pos c28] at H
                have c28b0 : (t141.toList == ([] : List UInt8)) = true := beq_iff_eq.mpr c28
                have c28b1 : (t141.toList != ([] : List UInt8)) = false := bne_eq_false_iff_eq.mpr c28
                clear c28
                replace H := Option.bind_eq_some_iff.mp H
                obtain ⟨t143, A290, H⟩ := H
                replace H : (some (t143 == 100)) = some r := H
                have A29 := Aside0.mk A290
                clear A290
                obtain rfl := Option.some.inj H
                go_wp2_with (first | ((with_reducible refine gate_callee (f := 18) rfl ?_); refine goesL_ (some 54) rfl rfl Try.func18 (by kernel_rfl) rfl #[.string t136] rfl (by (try simp only [List.map_toArray, List.map_cons, List.map_nil]); first | done | rfl | (simp only [List.length_drop, List.length_take]; rfl)) ?_; (with_reducible refine (pair_Get.calls t136 t141 t142 _ A23.out).mono ?_); rintro e w30 ⟨rfl, hb⟩; refine ⟨_, rfl, ?_⟩; have n0_ := Aside0.mk (below_step (by repeat (first | (with_reducible first | exact HB.out | apply below_alloc | apply pw_below_drewN | apply below_drew1) | exact HB.out)) hb); clear HB; have HB := n0_; clear n0_; (try clear hb); (try clear hb2); (try clear hk); (try clear hi)) | (go_at_call 22; (with_reducible refine (cryostatlaw0_Num.calls t142 t143 _ A29.out).mono ?_); rintro e w' ⟨rfl, ⟨nd, rfl⟩⟩))
                go_ret
                exact ⟨by first | rfl | (simp [errW_none, errW_some] <;> rfl) | (simp [*, errW_none, errW_some] <;> rfl), by repeat (first | (with_reducible first | exact HB.out | apply below_alloc | apply pw_below_drewN | apply below_drew1) | exact HB.out)⟩
              · rw [if_neg c28] at H
                have c28b0 : (t141.toList == ([] : List UInt8)) = false := beq_eq_false_iff_ne.mpr c28
                have c28b1 : (t141.toList != ([] : List UInt8)) = true := bne_iff_ne.mpr c28
                exact Bool.noConfusion ((Option.some.inj H).trans hr.out)
  · replace c5 := Bool.eq_false_iff.mpr c5
    subst c5
    have H1 : (some false) = some r := by rw [if_neg (show ¬ (false = true) by decide)] at H; exact H
    clear H
    have H := H1
    clear H1
    exact Bool.noConfusion ((Option.some.inj H).trans hr.out)
/-- THE ONE PURE STATEMENT of cryostatlaw1_PairTorn: yours. -/
def cryostatlaw1_PairTorn.Pure : Prop := ∀ (a0 : ByteArray) (a1 : ByteArray) (a2 : Int), a0.size ≤ 140737488351232 → a1.size ≤ 140737488351232 → (Lit.int .i64 a2).wf = true → ∃ k, cryostatlaw1_PairTorn.f k a0 a1 a2 = some true
theorem cryostatlaw1_PairTorn.walk (P : cryostatlaw1_PairTorn.Pure) (a0 : ByteArray) (a1 : ByteArray) (a2 : Int) (w : World) (w0 : a0.size ≤ 140737488351232) (w1 : a1.size ≤ 140737488351232) (w2 : (Lit.int .i64 a2).wf = true) :
    Calls Try.prog 4 #[.string a0, .string a1, .int .i64 a2] w fun e w' => e = .returned (.bool true) ∧ Below w.heap.size w w' := by
  obtain ⟨k, h⟩ := P a0 a1 a2 w0 w1 w2
  refine (cryostatlaw1_PairTorn.calls k a0 a1 a2 true w ⟨rfl⟩ h).mono ?_
  rintro e w' ⟨rfl, hd⟩
  exact ⟨rfl, hd⟩

end Go.Proofs.Ytpadejamelppfaa.PPairTorn
