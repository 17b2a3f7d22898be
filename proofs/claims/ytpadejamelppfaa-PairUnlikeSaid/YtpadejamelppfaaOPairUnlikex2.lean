/- Contracts of the functions that the law cryostatlaw1.PairUnlike reaches (printed for this claim by a tool of the kit, and pruned): each Go function's call comes to its Lean function's answer; those of the law package for the answer true alone. -/
-- printed by a program out of the translation, with contracts of this session's own for what the kit's print refuses
import Derived.Test.YtpadejamelppfaaPPairUnlikex0
import Derived.Test.YtpadejamelppfaaOPairUnlikex1
namespace Go.Proofs.Ytpadejamelppfaa.PPairUnlike
open Go.RowKit Go.Proofs.YtpadejamelppfaaW.PrintWords Go.Proofs.YtpadejamelppfaaW.PrintLast Go.Proofs.YtpadejamelppfaaW.PrintMore
attribute [local go_sem] max2_int min2_int max_two min_two max_three min_three max_four min_four   -- for this text's walks alone
set_option linter.unusedVariables false
set_option linter.unusedSimpArgs false

/-! ### cryostatlaw1_PairUnlike: function 6 -/
mutual
def cryostatlaw1_PairUnlike.l0 : Nat → ByteArray → ByteArray → ByteArray → Int → ByteArray → Int → ByteArray → Int → Int → Option (Bool)
  | 0, _, _, _, _, _, _, _, _, _ => none
  | k + 1, x0, x1, x5, x6, x7, x8, x9, x10, x11 => if x11 < (x5.size : Int) then (cryostatlaw1_PairUnlike.j1 k x0 x1 x5 x6 x7 x8 x9 x10 x11 (decide (x11 < 32))) else (cryostatlaw1_PairUnlike.j1 k x0 x1 x5 x6 x7 x8 x9 x10 x11 false)
def cryostatlaw1_PairUnlike.j1 : Nat → ByteArray → ByteArray → ByteArray → Int → ByteArray → Int → ByteArray → Int → Int → Bool → Option (Bool)
  | 0, _, _, _, _, _, _, _, _, _, _ => none
  | k + 1, x0, x1, x5, x6, x7, x8, x9, x10, x11, x38 => if x38 = true then (if (x5.size : Int) = 64 then (if 0 ≤ x11 then (if x11 < (x5.size : Int) then (if 0 ≤ (wrap64 (32 + x11)) then (if (wrap64 (32 + x11)) < (x5.size : Int) then (if (Go.bits .xor .u8 (bt x5 x11) (bt x5 (wrap64 (32 + x11)))) = 255 then (cryostatlaw1_PairUnlike.l0 k x0 x1 x5 x6 x7 x8 x9 x10 (wrap64 (x11 + 1))) else (some false)) else (none)) else (none)) else (none)) else (none)) else (some false)) else ((cryostatlaw0_Num.f x6).bind fun t138 => (if t138 = 0 then ((cryostatlaw0_Num.f x8).bind fun t139 => (if t139 = 0 then ((cryostatlaw0_Num.f x10).bind fun t140 => (if t140 = 0 then ((cryostatlaw1_half.f x0).bind fun t141 => (if x9.toList = t141.toList then ((cryostatlaw1_half.f x0).bind fun t142 => ((cryostatlaw1_half.f x1).bind fun t143 => (some ((x5.toList == x7.toList) == (t142.toList == t143.toList))))) else (some false))) else (some false))) else (some false))) else (some false)))
end
def cryostatlaw1_PairUnlike.f (k : Nat) (a0 : ByteArray) (a1 : ByteArray) : Option (Bool) := (cryostatlaw1_awake.f k).bind fun t129 => (if t129 = true then ((cryostatlaw1_half.f a0).bind fun t130 => ((pair_Put.f t130).bind fun bt131 => ((cryostatlaw1_half.f a1).bind fun t133 => ((pair_Put.f t133).bind fun bt134 => ((pair_Get.f bt131.1).bind fun bt136 => (cryostatlaw1_PairUnlike.l0 k a0 a1 bt131.1 bt131.2 bt134.1 bt134.2 bt136.1 bt136.2 0)))))) else (some false))
theorem cryostatlaw1_PairUnlike.mono_l : ∀ k, (∀ y0 y1 y2 y3 y4 y5 y6 y7 y8, LeO (cryostatlaw1_PairUnlike.l0 k y0 y1 y2 y3 y4 y5 y6 y7 y8) (cryostatlaw1_PairUnlike.l0 (k + 1) y0 y1 y2 y3 y4 y5 y6 y7 y8)) ∧ (∀ y0 y1 y2 y3 y4 y5 y6 y7 y8 y9, LeO (cryostatlaw1_PairUnlike.j1 k y0 y1 y2 y3 y4 y5 y6 y7 y8 y9) (cryostatlaw1_PairUnlike.j1 (k + 1) y0 y1 y2 y3 y4 y5 y6 y7 y8 y9))
  | 0 => ⟨fun _ _ _ _ _ _ _ _ _ r h => by simp [cryostatlaw1_PairUnlike.l0] at h, fun _ _ _ _ _ _ _ _ _ _ r h => by simp [cryostatlaw1_PairUnlike.j1] at h⟩
  | k + 1 => by
    obtain ⟨ih0, ih1⟩ := cryostatlaw1_PairUnlike.mono_l k
    refine ⟨?_, ?_⟩
    · intro y0 y1 y2 y3 y4 y5 y6 y7 y8
      unfold cryostatlaw1_PairUnlike.l0
      repeat' first
      | (with_reducible exact ih0 _ _ _ _ _ _ _ _ _)
      | (with_reducible exact ih1 _ _ _ _ _ _ _ _ _ _)
      | (with_reducible exact cryostatlaw1_awake.mono _)
      | (with_reducible exact LeO.refl _)
      | (with_reducible exact LeO.none _)
      | (with_reducible refine LeO.ite ?_ ?_)
      | (with_reducible refine LeO.bind ?_ (fun _ => ?_))
      | exact ih0 _ _ _ _ _ _ _ _ _
      | exact ih1 _ _ _ _ _ _ _ _ _ _
      | exact cryostatlaw1_awake.mono _
      | exact LeO.none _
      | refine LeO.ite ?_ ?_
      | refine LeO.bind ?_ (fun _ => ?_)
    · intro y0 y1 y2 y3 y4 y5 y6 y7 y8 y9
      unfold cryostatlaw1_PairUnlike.j1
      repeat' first
      | (with_reducible exact ih0 _ _ _ _ _ _ _ _ _)
      | (with_reducible exact ih1 _ _ _ _ _ _ _ _ _ _)
      | (with_reducible exact cryostatlaw1_awake.mono _)
      | (with_reducible exact LeO.refl _)
      | (with_reducible exact LeO.none _)
      | (with_reducible refine LeO.ite ?_ ?_)
      | (with_reducible refine LeO.bind ?_ (fun _ => ?_))
      | exact ih0 _ _ _ _ _ _ _ _ _
      | exact ih1 _ _ _ _ _ _ _ _ _ _
      | exact cryostatlaw1_awake.mono _
      | exact LeO.none _
      | refine LeO.ite ?_ ?_
      | refine LeO.bind ?_ (fun _ => ?_)
theorem cryostatlaw1_PairUnlike.mono : ∀ a0 a1 k, LeO (cryostatlaw1_PairUnlike.f k a0 a1) (cryostatlaw1_PairUnlike.f (k + 1) a0 a1) := by
  intro a0 a1 k
  obtain ⟨ih0, ih1⟩ := cryostatlaw1_PairUnlike.mono_l k
  unfold cryostatlaw1_PairUnlike.f
  repeat' first
      | (with_reducible exact ih0 _ _ _ _ _ _ _ _ _)
      | (with_reducible exact ih1 _ _ _ _ _ _ _ _ _ _)
      | (with_reducible exact cryostatlaw1_awake.mono _)
      | (with_reducible exact LeO.refl _)
      | (with_reducible exact LeO.none _)
      | (with_reducible refine LeO.ite ?_ ?_)
      | (with_reducible refine LeO.bind ?_ (fun _ => ?_))
      | exact ih0 _ _ _ _ _ _ _ _ _
      | exact ih1 _ _ _ _ _ _ _ _ _ _
      | exact cryostatlaw1_awake.mono _
      | exact LeO.none _
      | refine LeO.ite ?_ ?_
      | refine LeO.bind ?_ (fun _ => ?_)
set_option maxHeartbeats 8000000 in
set_option maxRecDepth 100000 in
theorem cryostatlaw1_PairUnlike.calls (k : Nat) (a0 : ByteArray) (a1 : ByteArray) (r : Bool) (w : World) (hr : Aside0 (r = true)) (h : cryostatlaw1_PairUnlike.f k a0 a1 = some r) :
    Calls Try.prog 6 #[.string a0, .string a1] w fun e w' => e = .returned (.bool r) ∧ Below w.heap.size w w' := by
  have HB := Aside0.mk (Below.refl w.heap.size w)
  have H : ((cryostatlaw1_awake.f k).bind fun t129 => (if t129 = true then ((cryostatlaw1_half.f a0).bind fun t130 => ((pair_Put.f t130).bind fun bt131 => ((cryostatlaw1_half.f a1).bind fun t133 => ((pair_Put.f t133).bind fun bt134 => ((pair_Get.f bt131.1).bind fun bt136 => (cryostatlaw1_PairUnlike.l0 k a0 a1 bt131.1 bt131.2 bt134.1 bt134.2 bt136.1 bt136.2 0)))))) else (some false))) = some r := h
  clear h
  replace H := Option.bind_eq_some_iff.mp H
  obtain ⟨t129, A30, H⟩ := H
  replace H : (if t129 = true then ((cryostatlaw1_half.f a0).bind fun t130 => ((pair_Put.f t130).bind fun bt131 => ((cryostatlaw1_half.f a1).bind fun t133 => ((pair_Put.f t133).bind fun bt134 => ((pair_Get.f bt131.1).bind fun bt136 => (cryostatlaw1_PairUnlike.l0 k a0 a1 bt131.1 bt131.2 bt134.1 bt134.2 bt136.1 bt136.2 0)))))) else (some false)) = some r := H
  have A3 := Aside0.mk A30
  clear A30
  by_cases c4 : t129 = true
  · subst c4
    have H1 : ((cryostatlaw1_half.f a0).bind fun t130 => ((pair_Put.f t130).bind fun bt131 => ((cryostatlaw1_half.f a1).bind fun t133 => ((pair_Put.f t133).bind fun bt134 => ((pair_Get.f bt131.1).bind fun bt136 => (cryostatlaw1_PairUnlike.l0 k a0 a1 bt131.1 bt131.2 bt134.1 bt134.2 bt136.1 bt136.2 0)))))) = some r := by rw [if_pos rfl] at H; exact H
    clear H
    have H := H1
    clear H1
    replace H := Option.bind_eq_some_iff.mp H
    obtain ⟨t130, A50, H⟩ := H
    replace H : ((pair_Put.f t130).bind fun bt131 => ((cryostatlaw1_half.f a1).bind fun t133 => ((pair_Put.f t133).bind fun bt134 => ((pair_Get.f bt131.1).bind fun bt136 => (cryostatlaw1_PairUnlike.l0 k a0 a1 bt131.1 bt131.2 bt134.1 bt134.2 bt136.1 bt136.2 0))))) = some r := H
    have A5 := Aside0.mk A50
    clear A50
    replace H := Option.bind_eq_some_iff.mp H
    obtain ⟨⟨t131, t132⟩, A60, H⟩ := H
    replace H : ((cryostatlaw1_half.f a1).bind fun t133 => ((pair_Put.f t133).bind fun bt134 => ((pair_Get.f t131).bind fun bt136 => (cryostatlaw1_PairUnlike.l0 k a0 a1 t131 t132 bt134.1 bt134.2 bt136.1 bt136.2 0)))) = some r := H
    have A6 := Aside0.mk A60
    clear A60
    replace H := Option.bind_eq_some_iff.mp H
    obtain ⟨t133, A70, H⟩ := H
    replace H : ((pair_Put.f t133).bind fun bt134 => ((pair_Get.f t131).bind fun bt136 => (cryostatlaw1_PairUnlike.l0 k a0 a1 t131 t132 bt134.1 bt134.2 bt136.1 bt136.2 0))) = some r := H
    have A7 := Aside0.mk A70
    clear A70
    replace H := Option.bind_eq_some_iff.mp H
    obtain ⟨⟨t134, t135⟩, A80, H⟩ := H
    replace H : ((pair_Get.f t131).bind fun bt136 => (cryostatlaw1_PairUnlike.l0 k a0 a1 t131 t132 t134 t135 bt136.1 bt136.2 0)) = some r := H
    have A8 := Aside0.mk A80
    clear A80
    replace H := Option.bind_eq_some_iff.mp H
    obtain ⟨⟨t136, t137⟩, A90, H⟩ := H
    replace H : (cryostatlaw1_PairUnlike.l0 k a0 a1 t131 t132 t134 t135 t136 t137 0) = some r := H
    have A9 := Aside0.mk A90
    clear A90
    have H' := Aside0.mk H
    clear H
    go_enter Try.func6, Try.ntmps6
    go_wp2_with (first | (go_at_call 23; (with_reducible refine (cryostatlaw1_awake.calls k  true _ ⟨rfl⟩ A3.out).mono ?_); rintro e w10 ⟨rfl, hb⟩; have n0_ := Aside0.mk (below_step (by repeat (first | (with_reducible first | exact HB.out | apply below_alloc | apply pw_below_drewN | apply below_drew1) | exact HB.out)) hb); clear HB; have HB := n0_; clear n0_; (try clear hb); (try clear hb2); (try clear hk); (try clear hi)) | (go_at_call 24; (with_reducible refine (cryostatlaw1_half.calls a0 t130 _ A5.out).mono ?_); rintro e w11 ⟨rfl, hb⟩; have n0_ := Aside0.mk (below_step (by repeat (first | (with_reducible first | exact HB.out | apply below_alloc | apply pw_below_drewN | apply below_drew1) | exact HB.out)) hb); clear HB; have HB := n0_; clear n0_; (try clear hb); (try clear hb2); (try clear hk); (try clear hi)) | (go_at_call 16; (with_reducible refine (pair_Put.calls t130 t131 t132 _ A6.out).mono ?_); rintro e w12 ⟨rfl, hb⟩; have n0_ := Aside0.mk (below_step (by repeat (first | (with_reducible first | exact HB.out | apply below_alloc | apply pw_below_drewN | apply below_drew1) | exact HB.out)) hb); clear HB; have HB := n0_; clear n0_; (try clear hb); (try clear hb2); (try clear hk); (try clear hi)) | (go_at_call 24; (with_reducible refine (cryostatlaw1_half.calls a1 t133 _ A7.out).mono ?_); rintro e w13 ⟨rfl, hb⟩; have n0_ := Aside0.mk (below_step (by repeat (first | (with_reducible first | exact HB.out | apply below_alloc | apply pw_below_drewN | apply below_drew1) | exact HB.out)) hb); clear HB; have HB := n0_; clear n0_; (try clear hb); (try clear hb2); (try clear hk); (try clear hi)) | (go_at_call 16; (with_reducible refine (pair_Put.calls t133 t134 t135 _ A8.out).mono ?_); rintro e w14 ⟨rfl, hb⟩; have n0_ := Aside0.mk (below_step (by repeat (first | (with_reducible first | exact HB.out | apply below_alloc | apply pw_below_drewN | apply below_drew1) | exact HB.out)) hb); clear HB; have HB := n0_; clear n0_; (try clear hb); (try clear hb2); (try clear hk); (try clear hi)) | (go_at_call 18; (with_reducible refine (pair_Get.calls t131 t136 t137 _ A9.out).mono ?_); rintro e w15 ⟨rfl, hb⟩; have n0_ := Aside0.mk (below_step (by repeat (first | (with_reducible first | exact HB.out | apply below_alloc | apply pw_below_drewN | apply below_drew1) | exact HB.out)) hb); clear HB; have HB := n0_; clear n0_; (try clear hb); (try clear hb2); (try clear hk); (try clear hi)))
    repeat (go_quiet (first | (go_at_call 23; (with_reducible refine (cryostatlaw1_awake.calls k  true _ ⟨rfl⟩ A3.out).mono ?_); rintro e w10 ⟨rfl, hb⟩; have n0_ := Aside0.mk (below_step (by repeat (first | (with_reducible first | exact HB.out | apply below_alloc | apply pw_below_drewN | apply below_drew1) | exact HB.out)) hb); clear HB; have HB := n0_; clear n0_; (try clear hb); (try clear hb2); (try clear hk); (try clear hi)) | (go_at_call 24; (with_reducible refine (cryostatlaw1_half.calls a0 t130 _ A5.out).mono ?_); rintro e w11 ⟨rfl, hb⟩; have n0_ := Aside0.mk (below_step (by repeat (first | (with_reducible first | exact HB.out | apply below_alloc | apply pw_below_drewN | apply below_drew1) | exact HB.out)) hb); clear HB; have HB := n0_; clear n0_; (try clear hb); (try clear hb2); (try clear hk); (try clear hi)) | (go_at_call 16; (with_reducible refine (pair_Put.calls t130 t131 t132 _ A6.out).mono ?_); rintro e w12 ⟨rfl, hb⟩; have n0_ := Aside0.mk (below_step (by repeat (first | (with_reducible first | exact HB.out | apply below_alloc | apply pw_below_drewN | apply below_drew1) | exact HB.out)) hb); clear HB; have HB := n0_; clear n0_; (try clear hb); (try clear hb2); (try clear hk); (try clear hi)) | (go_at_call 24; (with_reducible refine (cryostatlaw1_half.calls a1 t133 _ A7.out).mono ?_); rintro e w13 ⟨rfl, hb⟩; have n0_ := Aside0.mk (below_step (by repeat (first | (with_reducible first | exact HB.out | apply below_alloc | apply pw_below_drewN | apply below_drew1) | exact HB.out)) hb); clear HB; have HB := n0_; clear n0_; (try clear hb); (try clear hb2); (try clear hk); (try clear hi)) | (go_at_call 16; (with_reducible refine (pair_Put.calls t133 t134 t135 _ A8.out).mono ?_); rintro e w14 ⟨rfl, hb⟩; have n0_ := Aside0.mk (below_step (by repeat (first | (with_reducible first | exact HB.out | apply below_alloc | apply pw_below_drewN | apply below_drew1) | exact HB.out)) hb); clear HB; have HB := n0_; clear n0_; (try clear hb); (try clear hb2); (try clear hk); (try clear hi)) | (go_at_call 18; (with_reducible refine (pair_Get.calls t131 t136 t137 _ A9.out).mono ?_); rintro e w15 ⟨rfl, hb⟩; have n0_ := Aside0.mk (below_step (by repeat (first | (with_reducible first | exact HB.out | apply below_alloc | apply pw_below_drewN | apply below_drew1) | exact HB.out)) hb); clear HB; have HB := n0_; clear n0_; (try clear hb); (try clear hb2); (try clear hk); (try clear hi))); try go_wp2_with (first | (go_at_call 23; (with_reducible refine (cryostatlaw1_awake.calls k  true _ ⟨rfl⟩ A3.out).mono ?_); rintro e w10 ⟨rfl, hb⟩; have n0_ := Aside0.mk (below_step (by repeat (first | (with_reducible first | exact HB.out | apply below_alloc | apply pw_below_drewN | apply below_drew1) | exact HB.out)) hb); clear HB; have HB := n0_; clear n0_; (try clear hb); (try clear hb2); (try clear hk); (try clear hi)) | (go_at_call 24; (with_reducible refine (cryostatlaw1_half.calls a0 t130 _ A5.out).mono ?_); rintro e w11 ⟨rfl, hb⟩; have n0_ := Aside0.mk (below_step (by repeat (first | (with_reducible first | exact HB.out | apply below_alloc | apply pw_below_drewN | apply below_drew1) | exact HB.out)) hb); clear HB; have HB := n0_; clear n0_; (try clear hb); (try clear hb2); (try clear hk); (try clear hi)) | (go_at_call 16; (with_reducible refine (pair_Put.calls t130 t131 t132 _ A6.out).mono ?_); rintro e w12 ⟨rfl, hb⟩; have n0_ := Aside0.mk (below_step (by repeat (first | (with_reducible first | exact HB.out | apply below_alloc | apply pw_below_drewN | apply below_drew1) | exact HB.out)) hb); clear HB; have HB := n0_; clear n0_; (try clear hb); (try clear hb2); (try clear hk); (try clear hi)) | (go_at_call 24; (with_reducible refine (cryostatlaw1_half.calls a1 t133 _ A7.out).mono ?_); rintro e w13 ⟨rfl, hb⟩; have n0_ := Aside0.mk (below_step (by repeat (first | (with_reducible first | exact HB.out | apply below_alloc | apply pw_below_drewN | apply below_drew1) | exact HB.out)) hb); clear HB; have HB := n0_; clear n0_; (try clear hb); (try clear hb2); (try clear hk); (try clear hi)) | (go_at_call 16; (with_reducible refine (pair_Put.calls t133 t134 t135 _ A8.out).mono ?_); rintro e w14 ⟨rfl, hb⟩; have n0_ := Aside0.mk (below_step (by repeat (first | (with_reducible first | exact HB.out | apply below_alloc | apply pw_below_drewN | apply below_drew1) | exact HB.out)) hb); clear HB; have HB := n0_; clear n0_; (try clear hb); (try clear hb2); (try clear hk); (try clear hi)) | (go_at_call 18; (with_reducible refine (pair_Get.calls t131 t136 t137 _ A9.out).mono ?_); rintro e w15 ⟨rfl, hb⟩; have n0_ := Aside0.mk (below_step (by repeat (first | (with_reducible first | exact HB.out | apply below_alloc | apply pw_below_drewN | apply below_drew1) | exact HB.out)) hb); clear HB; have HB := n0_; clear n0_; (try clear hb); (try clear hb2); (try clear hk); (try clear hi))))
    go_loopg [11] k (fun kq v11 w' => ∃ (x11_1 : Int), v11 = .int .i64 x11_1 ∧ Aside0 (cryostatlaw1_PairUnlike.l0 kq a0 a1 t131 t132 t134 t135 t136 t137 x11_1 = some r) ∧ Aside0 (kq ≤ k) ∧ Aside0 (Below w.heap.size w w'))
    case atStart => exact ⟨(0), (by first | rfl | (simp; done) | (simp [*]; done)), H', ⟨Nat.le_refl _⟩, ⟨by repeat (first | (with_reducible first | exact HB.out | apply below_alloc | apply pw_below_drewN | apply below_drew1) | exact HB.out)⟩⟩
    case round =>
      clear H'
      try clear p2
      try clear c4
      try clear c6
      obtain ⟨x11_1, rfl, HA, HK1, HB⟩ := hrel
      cases gk with
      | zero => exact absurd HA.out (by simp [cryostatlaw1_PairUnlike.l0])
      | succ k1 =>
        have H := HA.out
        clear HA
        simp only [cryostatlaw1_PairUnlike.l0] at H
        have HC16 := Aside0.mk H
        clear H
        go_upto_region 7 with (fail)
        repeat (go_quiet (fail); go_upto_region 7 with (fail))
        go_cut [38] (fun v38 wc => ∃ (kq : Nat) (x38_15 : Bool), v38 = .bool x38_15 ∧ Aside0 (cryostatlaw1_PairUnlike.j1 kq a0 a1 t131 t132 t134 t135 t136 t137 x11_1 x38_15 = some r) ∧ Aside0 (kq ≤ k1) ∧ Aside0 (Below w.heap.size w wc))
        case first =>
          have H := HC16.out
          clear HC16
          by_cases c17 : x11_1 < (t131.size : Int)
          · rw [if_pos c17] at H
            have c17b0 : decide (x11_1 < (t131.size : Int)) = true := decide_eq_true c17
            clear c17
            (first | rw [c17b0] | (simp only [i64_w, i32_w]; rw [c17b0]) | skip)
            have H' := Aside0.mk H
            clear H
            go_wp2
            repeat (go_quiet (fail); try go_wp2)
            go_meet
            case rel => exact ⟨_, (decide (x11_1 < 32)), (by first | rfl | (simp; done) | (simp [*]; done)), H', ⟨by have := HK1.out; first | omega | exact Nat.le_refl _⟩, ⟨by repeat (first | (with_reducible first | exact HB.out | apply below_alloc | apply pw_below_drewN | apply below_drew1) | exact HB.out)⟩⟩
          · rw [if_neg c17] at H
            have c17b0 : decide (x11_1 < (t131.size : Int)) = false := decide_eq_false c17
            clear c17
            (first | rw [c17b0] | (simp only [i64_w, i32_w]; rw [c17b0]) | skip)
            have H' := Aside0.mk H
            clear H
            go_wp2
            repeat (go_quiet (fail); try go_wp2)
            go_meet
            case rel => exact ⟨_, (false), (by first | rfl | (simp; done) | (simp [*]; done)), H', ⟨by have := HK1.out; first | omega | exact Nat.le_refl _⟩, ⟨by repeat (first | (with_reducible first | exact HB.out | apply below_alloc | apply pw_below_drewN | apply below_drew1) | exact HB.out)⟩⟩
        case rest =>
          clear HC16
          try clear c1
          try clear p2
          try clear c4
          try clear c6
          try clear c17
          try clear c17b0
          try clear p2
          obtain ⟨kq, x38_15, rfl, HA, HJ15, HB⟩ := hcut
          cases kq with
          | zero => exact absurd HA.out (by simp [cryostatlaw1_PairUnlike.j1])
          | succ kj15 =>
            have H := HA.out
            clear HA
            simp only [cryostatlaw1_PairUnlike.j1] at H
            by_cases c18 : x38_15 = true
            · subst c18
              have H1 : (if (t131.size : Int) = 64 then (if 0 ≤ x11_1 then (if x11_1 < (t131.size : Int) then (if 0 ≤ (wrap64 (32 + x11_1)) then (if (wrap64 (32 + x11_1)) < (t131.size : Int) then (if (Go.bits .xor .u8 (bt t131 x11_1) (bt t131 (wrap64 (32 + x11_1)))) = 255 then (cryostatlaw1_PairUnlike.l0 kj15 a0 a1 t131 t132 t134 t135 t136 t137 (wrap64 (x11_1 + 1))) else (some false)) else (none)) else (none)) else (none)) else (none)) else (some false)) = some r := by rw [if_pos rfl] at H; exact H
              clear H
              have H := H1
              clear H1
              by_cases c19 : (t131.size : Int) = 64
              · rw [if_pos c19] at H
                have c19b0 : ((t131.size : Int) == 64) = true := beq_iff_eq.mpr c19
                have c19b1 : ((t131.size : Int) != 64) = false := bne_eq_false_iff_eq.mpr c19
                clear c19
                by_cases c20 : 0 ≤ x11_1
                · rw [if_pos c20] at H
                  have c20b0 : decide (0 ≤ x11_1) = true := decide_eq_true c20
                  clear c20
                  by_cases c21 : x11_1 < (t131.size : Int)
                  · rw [if_pos c21] at H
                    have c21b0 : decide (x11_1 < (t131.size : Int)) = true := decide_eq_true c21
                    clear c21
                    obtain ⟨ji23, hji23⟩ : ∃ j_ : Int, (wrap64 (32 + x11_1)) = j_ := ⟨_, rfl⟩
                    replace H : (if 0 ≤ (ji23) then (if (ji23) < (t131.size : Int) then (if (Go.bits .xor .u8 (bt t131 x11_1) (bt t131 (ji23))) = 255 then (cryostatlaw1_PairUnlike.l0 kj15 a0 a1 t131 t132 t134 t135 t136 t137 (wrap64 (x11_1 + 1))) else (some false)) else (none)) else (none)) = some r := by first | (rw [hji23] at H; exact H) | (simp only [hji23] at H ⊢; exact H)
                    have hji23w : (IntKind.i64.wrap (32 + x11_1)) = ji23 := (i64_w _).trans hji23
                    by_cases c24 : 0 ≤ (ji23)
                    · rw [if_pos c24] at H
                      have c24b0 : decide (0 ≤ (ji23)) = true := decide_eq_true c24
                      clear c24
                      by_cases c25 : (ji23) < (t131.size : Int)
                      · rw [if_pos c25] at H
                        have c25b0 : decide ((ji23) < (t131.size : Int)) = true := decide_eq_true c25
                        clear c25
                        by_cases c27 : (Go.bits .xor .u8 (bt t131 x11_1) (bt t131 (ji23))) = 255
                        · rw [if_pos c27] at H
                          have c27b0 : ((Go.bits .xor .u8 (bt t131 x11_1) (bt t131 (ji23))) == 255) = true := beq_iff_eq.mpr c27
                          have c27b1 : ((Go.bits .xor .u8 (bt t131 x11_1) (bt t131 (ji23))) != 255) = false := bne_eq_false_iff_eq.mpr c27
                          clear c27
                          have H' := Aside0.mk H
                          clear H
                          have p22 : 0 ≤ (x11_1 : Int) := of_decide_eq_true (by first | (with_reducible assumption) | assumption)
                          have q22 : x11_1 < (t131.size : Int) := of_decide_eq_true (by first | (with_reducible assumption) | assumption)
                          have hx22 := bt_at t131 x11_1
                          replace p22 := eq_true p22
                          replace q22 := eq_true q22
                          have p26 : 0 ≤ ((ji23) : Int) := of_decide_eq_true (by first | (with_reducible assumption) | assumption)
                          have q26 : (ji23) < (t131.size : Int) := of_decide_eq_true (by first | (with_reducible assumption) | assumption)
                          have hx26 := bt_at t131 (ji23)
                          replace p26 := eq_true p26
                          replace q26 := eq_true q26
                          go_wp2
                          repeat (go_quiet (fail); try go_wp2)
                          go_roundg kj15
                          case measure => have := HK1.out; have := HJ15.out; omega
                          case rel => exact ⟨(wrap64 (x11_1 + 1)), (by first | rfl | (simp; done) | (simp [*]; done)), H', ⟨by have := HK1.out; have := HJ15.out; omega⟩, ⟨by repeat (first | (with_reducible first | exact HB.out | apply below_alloc | apply pw_below_drewN | apply below_drew1) | exact HB.out)⟩⟩
                        · rw [if_neg c27] at H
                          have c27b0 : ((Go.bits .xor .u8 (bt t131 x11_1) (bt t131 (ji23))) == 255) = false := beq_eq_false_iff_ne.mpr c27
                          have c27b1 : ((Go.bits .xor .u8 (bt t131 x11_1) (bt t131 (ji23))) != 255) = true := bne_iff_ne.mpr c27
                          exact Bool.noConfusion ((Option.some.inj H).trans hr.out)
                      · rw [if_neg c25] at H
                        exact absurd H (by simp)
                    · rw [if_neg c24] at H
                      exact absurd H (by simp)
                  · rw [if_neg c21] at H
                    exact absurd H (by simp)
                · rw [if_neg c20] at H
                  exact absurd H (by simp)
              · rw [if_neg c19] at H
                have c19b0 : ((t131.size : Int) == 64) = false := beq_eq_false_iff_ne.mpr c19
                have c19b1 : ((t131.size : Int) != 64) = true := bne_iff_ne.mpr c19
                exact Bool.noConfusion ((Option.some.inj H).trans hr.out)
            · replace c18 := Bool.eq_false_iff.mpr c18
              subst c18
              have H1 : ((cryostatlaw0_Num.f t132).bind fun t138 => (if t138 = 0 then ((cryostatlaw0_Num.f t135).bind fun t139 => (if t139 = 0 then ((cryostatlaw0_Num.f t137).bind fun t140 => (if t140 = 0 then ((cryostatlaw1_half.f a0).bind fun t141 => (if t136.toList = t141.toList then ((cryostatlaw1_half.f a0).bind fun t142 => ((cryostatlaw1_half.f a1).bind fun t143 => (some ((t131.toList == t134.toList) == (t142.toList == t143.toList))))) else (some false))) else (some false))) else (some false))) else (some false))) = some r := by rw [if_neg (show ¬ (false = true) by decide)] at H; exact H
              clear H
              have H := H1
              clear H1
              replace H := Option.bind_eq_some_iff.mp H
              obtain ⟨t138, A280, H⟩ := H
              replace H : (if t138 = 0 then ((cryostatlaw0_Num.f t135).bind fun t139 => (if t139 = 0 then ((cryostatlaw0_Num.f t137).bind fun t140 => (if t140 = 0 then ((cryostatlaw1_half.f a0).bind fun t141 => (if t136.toList = t141.toList then ((cryostatlaw1_half.f a0).bind fun t142 => ((cryostatlaw1_half.f a1).bind fun t143 => (some ((t131.toList == t134.toList) == (t142.toList == t143.toList))))) else (some false))) else (some false))) else (some false))) else (some false)) = some r := H
              have A28 := Aside0.mk A280
              clear A280
              by_cases c29 : t138 = 0
              · rw [if_pos c29] at H
                have c29b0 : (t138 == 0) = true := beq_iff_eq.mpr c29
                have c29b1 : (t138 != 0) = false := bne_eq_false_iff_eq.mpr c29
                clear c29
                replace H := Option.bind_eq_some_iff.mp H
                obtain ⟨t139, A300, H⟩ := H
                replace H : (if t139 = 0 then ((cryostatlaw0_Num.f t137).bind fun t140 => (if t140 = 0 then ((cryostatlaw1_half.f a0).bind fun t141 => (if t136.toList = t141.toList then ((cryostatlaw1_half.f a0).bind fun t142 => ((cryostatlaw1_half.f a1).bind fun t143 => (some ((t131.toList == t134.toList) == (t142.toList == t143.toList))))) else (some false))) else (some false))) else (some false)) = some r := H
                have A30 := Aside0.mk A300
                clear A300
                by_cases c31 : t139 = 0
                · rw [if_pos c31] at H
                  have c31b0 : (t139 == 0) = true := beq_iff_eq.mpr c31
                  have c31b1 : (t139 != 0) = false := bne_eq_false_iff_eq.mpr c31
                  clear c31
                  replace H := Option.bind_eq_some_iff.mp H
                  obtain ⟨t140, A320, H⟩ := H
                  replace H : (if t140 = 0 then ((cryostatlaw1_half.f a0).bind fun t141 => (if t136.toList = t141.toList then ((cryostatlaw1_half.f a0).bind fun t142 => ((cryostatlaw1_half.f a1).bind fun t143 => (some ((t131.toList == t134.toList) == (t142.toList == t143.toList))))) else (some false))) else (some false)) = some r := H
                  have A32 := Aside0.mk A320
                  clear A320
                  by_cases c33 : t140 = 0
                  · rw [if_pos c33] at H
                    have c33b0 : (t140 == 0) = true := beq_iff_eq.mpr c33
                    have c33b1 : (t140 != 0) = false := bne_eq_false_iff_eq.mpr c33
                    clear c33
                    replace H := Option.bind_eq_some_iff.mp H
                    obtain ⟨t141, A340, H⟩ := H
                    replace H : (if t136.toList = t141.toList then ((cryostatlaw1_half.f a0).bind fun t142 => ((cryostatlaw1_half.f a1).bind fun t143 => (some ((t131.toList == t134.toList) == (t142.toList == t143.toList))))) else (some false)) = some r := H
                    have A34 := Aside0.mk A340
                    clear A340
                    by_cases c35 : t136.toList = t141.toList
                    · rw [if_pos c35] at H
                      have c35b0 : (t136.toList == t141.toList) = true := beq_iff_eq.mpr c35
                      have c35b1 : (t136.toList != t141.toList) = false := bne_eq_false_iff_eq.mpr c35
                      clear c35
                      replace H := Option.bind_eq_some_iff.mp H
                      obtain ⟨t142, A360, H⟩ := H
                      replace H : ((cryostatlaw1_half.f a1).bind fun t143 => (some ((t131.toList == t134.toList) == (t142.toList == t143.toList)))) = some r := H
                      have A36 := Aside0.mk A360
                      clear A360
                      have EE := Option.some.inj (A34.out.symm.trans A36.out)
                      subst EE
                      replace H := Option.bind_eq_some_iff.mp H
                      obtain ⟨t143, A370, H⟩ := H
                      replace H : (some ((t131.toList == t134.toList) == (t141.toList == t143.toList))) = some r := H
                      have A37 := Aside0.mk A370
                      clear A370
                      obtain rfl := Option.some.inj H
                      go_wp2_with (first | (go_at_call 22; (with_reducible refine (cryostatlaw0_Num.calls t132 t138 _ A28.out).mono ?_); rintro e w' ⟨rfl, ⟨nd, rfl⟩⟩; (try first | exact ⟨rfl, _, World.drewN_drewN _ _ _⟩ | exact ⟨rfl, _, Eq.trans (World.drewN_drewN _ _ _) (congrArg (World.drewN _) (Nat.add_assoc _ _ _))⟩)) | (go_at_call 22; (with_reducible refine (cryostatlaw0_Num.calls t135 t139 _ A30.out).mono ?_); rintro e w' ⟨rfl, ⟨nd, rfl⟩⟩; (try first | exact ⟨rfl, _, World.drewN_drewN _ _ _⟩ | exact ⟨rfl, _, Eq.trans (World.drewN_drewN _ _ _) (congrArg (World.drewN _) (Nat.add_assoc _ _ _))⟩)) | (go_at_call 22; (with_reducible refine (cryostatlaw0_Num.calls t137 t140 _ A32.out).mono ?_); rintro e w' ⟨rfl, ⟨nd, rfl⟩⟩; (try first | exact ⟨rfl, _, World.drewN_drewN _ _ _⟩ | exact ⟨rfl, _, Eq.trans (World.drewN_drewN _ _ _) (congrArg (World.drewN _) (Nat.add_assoc _ _ _))⟩)) | (go_at_call 24; (with_reducible refine (cryostatlaw1_half.calls a0 t141 _ A34.out).mono ?_); rintro e w38 ⟨rfl, hb⟩; have n0_ := Aside0.mk (below_step (by repeat (first | (with_reducible first | exact HB.out | apply below_alloc | apply pw_below_drewN | apply below_drew1) | exact HB.out)) hb); clear HB; have HB := n0_; clear n0_; (try clear hb); (try clear hb2); (try clear hk); (try clear hi)) | (go_at_call 24; (with_reducible refine (cryostatlaw1_half.calls a0 t141 _ A36.out).mono ?_); rintro e w39 ⟨rfl, hb⟩; have n0_ := Aside0.mk (below_step (by repeat (first | (with_reducible first | exact HB.out | apply below_alloc | apply pw_below_drewN | apply below_drew1) | exact HB.out)) hb); clear HB; have HB := n0_; clear n0_; (try clear hb); (try clear hb2); (try clear hk); (try clear hi)) | (go_at_call 24; (with_reducible refine (cryostatlaw1_half.calls a1 t143 _ A37.out).mono ?_); rintro e w40 ⟨rfl, hb⟩; have n0_ := Aside0.mk (below_step (by repeat (first | (with_reducible first | exact HB.out | apply below_alloc | apply pw_below_drewN | apply below_drew1) | exact HB.out)) hb); clear HB; have HB := n0_; clear n0_; (try clear hb); (try clear hb2); (try clear hk); (try clear hi)))
                      repeat (go_quiet (first | (go_at_call 22; (with_reducible refine (cryostatlaw0_Num.calls t132 t138 _ A28.out).mono ?_); rintro e w' ⟨rfl, ⟨nd, rfl⟩⟩; (try first | exact ⟨rfl, _, World.drewN_drewN _ _ _⟩ | exact ⟨rfl, _, Eq.trans (World.drewN_drewN _ _ _) (congrArg (World.drewN _) (Nat.add_assoc _ _ _))⟩)) | (go_at_call 22; (with_reducible refine (cryostatlaw0_Num.calls t135 t139 _ A30.out).mono ?_); rintro e w' ⟨rfl, ⟨nd, rfl⟩⟩; (try first | exact ⟨rfl, _, World.drewN_drewN _ _ _⟩ | exact ⟨rfl, _, Eq.trans (World.drewN_drewN _ _ _) (congrArg (World.drewN _) (Nat.add_assoc _ _ _))⟩)) | (go_at_call 22; (with_reducible refine (cryostatlaw0_Num.calls t137 t140 _ A32.out).mono ?_); rintro e w' ⟨rfl, ⟨nd, rfl⟩⟩; (try first | exact ⟨rfl, _, World.drewN_drewN _ _ _⟩ | exact ⟨rfl, _, Eq.trans (World.drewN_drewN _ _ _) (congrArg (World.drewN _) (Nat.add_assoc _ _ _))⟩)) | (go_at_call 24; (with_reducible refine (cryostatlaw1_half.calls a0 t141 _ A34.out).mono ?_); rintro e w38 ⟨rfl, hb⟩; have n0_ := Aside0.mk (below_step (by repeat (first | (with_reducible first | exact HB.out | apply below_alloc | apply pw_below_drewN | apply below_drew1) | exact HB.out)) hb); clear HB; have HB := n0_; clear n0_; (try clear hb); (try clear hb2); (try clear hk); (try clear hi)) | (go_at_call 24; (with_reducible refine (cryostatlaw1_half.calls a0 t141 _ A36.out).mono ?_); rintro e w39 ⟨rfl, hb⟩; have n0_ := Aside0.mk (below_step (by repeat (first | (with_reducible first | exact HB.out | apply below_alloc | apply pw_below_drewN | apply below_drew1) | exact HB.out)) hb); clear HB; have HB := n0_; clear n0_; (try clear hb); (try clear hb2); (try clear hk); (try clear hi)) | (go_at_call 24; (with_reducible refine (cryostatlaw1_half.calls a1 t143 _ A37.out).mono ?_); rintro e w40 ⟨rfl, hb⟩; have n0_ := Aside0.mk (below_step (by repeat (first | (with_reducible first | exact HB.out | apply below_alloc | apply pw_below_drewN | apply below_drew1) | exact HB.out)) hb); clear HB; have HB := n0_; clear n0_; (try clear hb); (try clear hb2); (try clear hk); (try clear hi))); try go_wp2_with (first | (go_at_call 22; (with_reducible refine (cryostatlaw0_Num.calls t132 t138 _ A28.out).mono ?_); rintro e w' ⟨rfl, ⟨nd, rfl⟩⟩; (try first | exact ⟨rfl, _, World.drewN_drewN _ _ _⟩ | exact ⟨rfl, _, Eq.trans (World.drewN_drewN _ _ _) (congrArg (World.drewN _) (Nat.add_assoc _ _ _))⟩)) | (go_at_call 22; (with_reducible refine (cryostatlaw0_Num.calls t135 t139 _ A30.out).mono ?_); rintro e w' ⟨rfl, ⟨nd, rfl⟩⟩; (try first | exact ⟨rfl, _, World.drewN_drewN _ _ _⟩ | exact ⟨rfl, _, Eq.trans (World.drewN_drewN _ _ _) (congrArg (World.drewN _) (Nat.add_assoc _ _ _))⟩)) | (go_at_call 22; (with_reducible refine (cryostatlaw0_Num.calls t137 t140 _ A32.out).mono ?_); rintro e w' ⟨rfl, ⟨nd, rfl⟩⟩; (try first | exact ⟨rfl, _, World.drewN_drewN _ _ _⟩ | exact ⟨rfl, _, Eq.trans (World.drewN_drewN _ _ _) (congrArg (World.drewN _) (Nat.add_assoc _ _ _))⟩)) | (go_at_call 24; (with_reducible refine (cryostatlaw1_half.calls a0 t141 _ A34.out).mono ?_); rintro e w38 ⟨rfl, hb⟩; have n0_ := Aside0.mk (below_step (by repeat (first | (with_reducible first | exact HB.out | apply below_alloc | apply pw_below_drewN | apply below_drew1) | exact HB.out)) hb); clear HB; have HB := n0_; clear n0_; (try clear hb); (try clear hb2); (try clear hk); (try clear hi)) | (go_at_call 24; (with_reducible refine (cryostatlaw1_half.calls a0 t141 _ A36.out).mono ?_); rintro e w39 ⟨rfl, hb⟩; have n0_ := Aside0.mk (below_step (by repeat (first | (with_reducible first | exact HB.out | apply below_alloc | apply pw_below_drewN | apply below_drew1) | exact HB.out)) hb); clear HB; have HB := n0_; clear n0_; (try clear hb); (try clear hb2); (try clear hk); (try clear hi)) | (go_at_call 24; (with_reducible refine (cryostatlaw1_half.calls a1 t143 _ A37.out).mono ?_); rintro e w40 ⟨rfl, hb⟩; have n0_ := Aside0.mk (below_step (by repeat (first | (with_reducible first | exact HB.out | apply below_alloc | apply pw_below_drewN | apply below_drew1) | exact HB.out)) hb); clear HB; have HB := n0_; clear n0_; (try clear hb); (try clear hb2); (try clear hk); (try clear hi))))
                      go_ret
                      exact ⟨by first | rfl | (simp [errW_none, errW_some] <;> rfl) | (simp [*, errW_none, errW_some] <;> rfl), by repeat (first | (with_reducible first | exact HB.out | apply below_alloc | apply pw_below_drewN | apply below_drew1) | exact HB.out)⟩
                    · rw [if_neg c35] at H
                      have c35b0 : (t136.toList == t141.toList) = false := beq_eq_false_iff_ne.mpr c35
                      have c35b1 : (t136.toList != t141.toList) = true := bne_iff_ne.mpr c35
                      exact Bool.noConfusion ((Option.some.inj H).trans hr.out)
                  · rw [if_neg c33] at H
                    have c33b0 : (t140 == 0) = false := beq_eq_false_iff_ne.mpr c33
                    have c33b1 : (t140 != 0) = true := bne_iff_ne.mpr c33
                    exact Bool.noConfusion ((Option.some.inj H).trans hr.out)
                · rw [if_neg c31] at H
                  have c31b0 : (t139 == 0) = false := beq_eq_false_iff_ne.mpr c31
                  have c31b1 : (t139 != 0) = true := bne_iff_ne.mpr c31
                  exact Bool.noConfusion ((Option.some.inj H).trans hr.out)
              · rw [if_neg c29] at H
                have c29b0 : (t138 == 0) = false := beq_eq_false_iff_ne.mpr c29
                have c29b1 : (t138 != 0) = true := bne_iff_ne.mpr c29
                exact Bool.noConfusion ((Option.some.inj H).trans hr.out)
  · replace c4 := Bool.eq_false_iff.mpr c4
    subst c4
    have H1 : (some false) = some r := by rw [if_neg (show ¬ (false = true) by decide)] at H; exact H
    clear H
    have H := H1
    clear H1
    exact Bool.noConfusion ((Option.some.inj H).trans hr.out)
/-- THE ONE PURE STATEMENT of cryostatlaw1_PairUnlike: yours. -/
def cryostatlaw1_PairUnlike.Pure : Prop := ∀ (a0 : ByteArray) (a1 : ByteArray), a0.size ≤ 140737488351232 → a1.size ≤ 140737488351232 → ∃ k, cryostatlaw1_PairUnlike.f k a0 a1 = some true
theorem cryostatlaw1_PairUnlike.walk (P : cryostatlaw1_PairUnlike.Pure) (a0 : ByteArray) (a1 : ByteArray) (w : World) (w0 : a0.size ≤ 140737488351232) (w1 : a1.size ≤ 140737488351232) :
    Calls Try.prog 6 #[.string a0, .string a1] w fun e w' => e = .returned (.bool true) ∧ Below w.heap.size w w' := by
  obtain ⟨k, h⟩ := P a0 a1 w0 w1
  refine (cryostatlaw1_PairUnlike.calls k a0 a1 true w ⟨rfl⟩ h).mono ?_
  rintro e w' ⟨rfl, hd⟩
  exact ⟨rfl, hd⟩

end Go.Proofs.Ytpadejamelppfaa.PPairUnlike
