/- Contracts of the functions that the law cryostatlaw1.PairUnlike reaches (printed for this claim by a tool of the kit, and pruned): each Go function's call comes to its Lean function's answer; those of the law package for the answer true alone. -/
-- printed by a program out of the translation, with contracts of this session's own for what the kit's print refuses
import Derived.Test.YtpadejamelppfaaPPairUnlikex0
namespace Go.Proofs.Ytpadejamelppfaa.PPairUnlike
open Go.RowKit Go.Proofs.YtpadejamelppfaaW.PrintWords Go.Proofs.YtpadejamelppfaaW.PrintLast Go.Proofs.YtpadejamelppfaaW.PrintMore
attribute [local go_sem] max2_int min2_int max_two min_two max_three min_three max_four min_four   -- for this text's walks alone
set_option linter.unusedVariables false
set_option linter.unusedSimpArgs false


/-! ### pair_Put: function 16 -/
def pair_Put.info_ : Prop := (Try.prog.info? 5).map (fun i => (i.zero, i.size, i.bytes)) = some (some (.int .u8 0), 1, 1)
def pair_Put.f (a0 : ByteArray) : Option (ByteArray × Int) := if (a0.size : Int) = 32 then some (strOfNums (ByteRow.acc a0 32), 0) else some ((⟨#[]⟩ : ByteArray), 100)
set_option maxHeartbeats 8000000 in
set_option maxRecDepth 100000 in
theorem pair_Put.no (a0 : ByteArray) (w : World) (h : ¬ (a0.size : Int) = 32) :
    Calls Try.prog 16 #[.string a0] w fun e w' => e = .returned (.tuple #[.string (⟨#[]⟩ : ByteArray), .int .i64 100]) ∧ Below w.heap.size w w' := by
  have c1 : ((a0.size : Int) != 32) = true := bne_iff_ne.mpr h
  have c2 : ((a0.size : Int) == 32) = false := beq_eq_false_iff_ne.mpr h
  go_enter Try.func16, Try.ntmps16
  go_wp2
  go_ret2
  exact ⟨rfl, by repeat (first | exact Below.refl _ _ | apply pw_below_drewN | apply below_drew1)⟩
open ByteRow in
set_option maxHeartbeats 8000000 in
set_option maxRecDepth 100000 in
theorem pair_Put.yes (a0 : ByteArray) (w : World) (h : (a0.size : Int) = 32) :
    Calls Try.prog 16 #[.string a0] w fun e w' => e = .returned (.tuple #[.string (strOfNums (acc a0 32)), .int .i64 0]) ∧ Below w.heap.size w w' := by
  have c1 : ((a0.size : Int) != 32) = false := bne_eq_false_iff_eq.mpr h
  have c2 : ((a0.size : Int) == 32) = true := beq_iff_eq.mpr h
  have hs := Aside0.mk h
  clear h
  have kb := fun W => print_bytes (P := Try.prog) 9 34 5 Try.underlying9 Try.underlying34 Try.underlying5 a0 W
  go_enter Try.func16, Try.ntmps16
  go_wp2
  go_loopw [4, 13] (fun v4 v13 w' => ∃ k : Nat, k ≤ 32 ∧ v13 = .int .i64 (k : Int) ∧ Aside0 (OwnsM w' w.heap.size 5 v4 (nums .u8 (acc a0 k))) ∧ Aside0 (Below w.heap.size w w')) (fun _ v13 _ => (32 - intOf v13).toNat)
  case atStart =>
    refine ⟨0, by omega, rfl, ⟨?_⟩, ⟨bytes_below (Below.refl _ _) (Nat.le_refl _) 5 a0⟩⟩
    have := ownsM_bytes w w.heap.size 5 a0 (Nat.le_refl _) (by have := hs.out; omega)
    simpa [acc] using this
  case round =>
    obtain ⟨k, hk, rfl, HO, HB⟩ := hrel
    have hi : pair_Put.info_ := by unfold pair_Put.info_; kernel_rfl
    by_cases hlt : k < 32
    · have hk2 : k < a0.size := by have := hs.out; omega
      have Hlt := Aside0.mk hlt
      have hb : bits .xor .u8 IntKind.u8.max (a0[k].toNat : Int) = 255 - bt a0 (k : Nat) := by
        rw [xor255, ← bt_at a0 (k : Int) (by simpa using hk2)]; rfl
      have hl : (acc a0 k).length + 1 ≤ 140737488355328 := by rw [acc_length]; have := hs.out; omega
      have HA := Aside0.mk (acc_snoc a0 k)
      have Hb := Aside0.mk hb
      clear hb
      go_wp2_with ((with_reducible refine gate_dst (N := 22) rfl ?_); refine append_M (w0 := w) w.heap.size rfl (.tmp 16) (.tmp 21) 34 5 .u8 rfl Try.underlying34 hi _ (acc a0 k) _ rfl rfl HO.out HB.out (HB.out.size) hl ?_; intro v1 w1 HO1 HB1 hz1; have HO2 : Aside0 (OwnsM w1 w.heap.size 5 v1 (nums .u8 (acc a0 (k + 1)))) := ⟨by rw [HA.out, ← Hb.out]; exact HO1⟩; have HB2 := Aside0.mk HB1; clear HO1 HB1 hz1)
      refine ⟨⟨k + 1, by omega, by go_num, HO2, HB2⟩, ?_⟩
      simp [intOf]; omega
    · have hk32 : k = 32 := by omega
      subst hk32
      have hn : ¬ ((32 : Nat) : Int) < (a0.size : Int) := by have := hs.out; omega
      obtain ⟨A, c, hv, hc⟩ := string_M (P := Try.prog) (src := 34) (dst := 9) (e := 5) Try.underlying34 Try.underlying5 Try.underlying9 HO.out
      subst hv
      go_wp2
      go_ret2
      exact ⟨rfl, HB.out⟩
theorem pair_Put.calls (a0 : ByteArray) (r0 : ByteArray) (r1 : Int) (w : World) (h : pair_Put.f a0 = some (r0, r1)) :
    Calls Try.prog 16 #[.string a0] w fun e w' => e = .returned (.tuple #[.string r0, .int .i64 r1]) ∧ Below w.heap.size w w' := by
  unfold pair_Put.f at h
  by_cases c : (a0.size : Int) = 32
  · rw [if_pos c] at h; obtain ⟨rfl, rfl⟩ := Prod.mk.inj (Option.some.inj h); exact pair_Put.yes a0 w c
  · rw [if_neg c] at h; obtain ⟨rfl, rfl⟩ := Prod.mk.inj (Option.some.inj h); exact pair_Put.no a0 w c

/-! ### pair_Get: function 18 -/
def pair_Get.f (a0 : ByteArray) : Option (ByteArray × Int) := if (a0.size : Int) = 64 then (if 0 ≤ 32 then (if 32 ≤ (a0.size : Int) then ((pair_Put.f (a0.extract 0 32)).bind fun bt101 => (if bt101.1.toList = a0.toList then (some (a0.extract 0 32, 0)) else (some ((⟨#[]⟩ : ByteArray), 100)))) else (none)) else (none)) else (some ((⟨#[]⟩ : ByteArray), 100))
set_option maxHeartbeats 8000000 in
set_option maxRecDepth 100000 in
theorem pair_Get.calls (a0 : ByteArray) (r1 : ByteArray) (r2 : Int) (w : World) (h : pair_Get.f a0 = some (r1, r2)) :
    Calls Try.prog 18 #[.string a0] w fun e w' => e = .returned (.tuple #[.string r1, .int .i64 r2]) ∧ Below w.heap.size w w' := by
  have HB := Aside0.mk (Below.refl w.heap.size w)
  have H : (if (a0.size : Int) = 64 then (if 0 ≤ 32 then (if 32 ≤ (a0.size : Int) then ((pair_Put.f (a0.extract 0 32)).bind fun bt101 => (if bt101.1.toList = a0.toList then (some (a0.extract 0 32, 0)) else (some ((⟨#[]⟩ : ByteArray), 100)))) else (none)) else (none)) else (some ((⟨#[]⟩ : ByteArray), 100))) = some (r1, r2) := h
  clear h
  by_cases c2 : (a0.size : Int) = 64
  · rw [if_pos c2] at H
    have c2b0 : ((a0.size : Int) == 64) = true := beq_iff_eq.mpr c2
    have c2b1 : ((a0.size : Int) != 64) = false := bne_eq_false_iff_eq.mpr c2
    clear c2
    by_cases c3 : 0 ≤ 32
    · rw [if_pos c3] at H
      have c3b0 := eq_true c3
      have c3b1 : decide (0 ≤ 32) = true := decide_eq_true c3
      clear c3
      by_cases c4 : 32 ≤ (a0.size : Int)
      · rw [if_pos c4] at H
        have c4b0 := eq_true c4
        have c4b1 : decide (32 ≤ (a0.size : Int)) = true := decide_eq_true c4
        clear c4
        replace H := Option.bind_eq_some_iff.mp H
        obtain ⟨⟨t101, t102⟩, A50, H⟩ := H
        replace H : (if t101.toList = a0.toList then (some (a0.extract 0 32, 0)) else (some ((⟨#[]⟩ : ByteArray), 100))) = some (r1, r2) := H
        have A5 := Aside0.mk A50
        clear A50
        by_cases c6 : t101.toList = a0.toList
        · rw [if_pos c6] at H
          have c6b0 : (t101.toList == a0.toList) = true := beq_iff_eq.mpr c6
          have c6b1 : (t101.toList != a0.toList) = false := bne_eq_false_iff_eq.mpr c6
          clear c6
          have c7b0 := eq_true (of_decide_eq_true (by first | (with_reducible assumption) | assumption) : 0 ≤ 32)
          have c8b0 := eq_true (of_decide_eq_true (by first | (with_reducible assumption) | assumption) : 32 ≤ (a0.size : Int))
          simp only [Option.some.injEq, Prod.mk.injEq] at H
          obtain ⟨rfl, rfl⟩ := H
          go_enter Try.func18, Try.ntmps18
          go_wp2_with (first | ((with_reducible refine gate_callee (f := 16) rfl ?_); refine goesL_ (some 12) rfl rfl Try.func16 (by kernel_rfl) rfl #[.string (a0.extract 0 32)] rfl (by (try simp only [List.map_toArray, List.map_cons, List.map_nil]); first | done | rfl | (simp only [List.length_drop, List.length_take]; rfl)) ?_; (with_reducible refine (pair_Put.calls (a0.extract 0 32) t101 t102 _ A5.out).mono ?_); rintro e w9 ⟨rfl, hb⟩; refine ⟨_, rfl, ?_⟩; have n0_ := Aside0.mk (below_step (by repeat (first | (with_reducible first | exact HB.out | apply below_alloc | apply pw_below_drewN | apply below_drew1) | exact HB.out)) hb); clear HB; have HB := n0_; clear n0_; (try clear hb); (try clear hb2); (try clear hk); (try clear hi)))
          go_ret2
          exact ⟨by first | rfl | (simp [errW_none, errW_some] <;> rfl) | (simp [*, errW_none, errW_some] <;> rfl), by repeat (first | (with_reducible first | exact HB.out | apply below_alloc | apply pw_below_drewN | apply below_drew1) | exact HB.out)⟩
        · rw [if_neg c6] at H
          have c6b0 : (t101.toList == a0.toList) = false := beq_eq_false_iff_ne.mpr c6
          have c6b1 : (t101.toList != a0.toList) = true := bne_iff_ne.mpr c6
          simp only [Option.some.injEq, Prod.mk.injEq] at H
          obtain ⟨rfl, rfl⟩ := H
          go_enter Try.func18, Try.ntmps18
          go_wp2_with (first | ((with_reducible refine gate_callee (f := 16) rfl ?_); refine goesL_ (some 12) rfl rfl Try.func16 (by kernel_rfl) rfl #[.string (a0.extract 0 32)] rfl (by (try simp only [List.map_toArray, List.map_cons, List.map_nil]); first | done | rfl | (simp only [List.length_drop, List.length_take]; rfl)) ?_; (with_reducible refine (pair_Put.calls (a0.extract 0 32) t101 t102 _ A5.out).mono ?_); rintro e w10 ⟨rfl, hb⟩; refine ⟨_, rfl, ?_⟩; have n0_ := Aside0.mk (below_step (by repeat (first | (with_reducible first | exact HB.out | apply below_alloc | apply pw_below_drewN | apply below_drew1) | exact HB.out)) hb); clear HB; have HB := n0_; clear n0_; (try clear hb); (try clear hb2); (try clear hk); (try clear hi)))
          go_ret2
          exact ⟨by first | rfl | (simp [errW_none, errW_some] <;> rfl) | (simp [*, errW_none, errW_some] <;> rfl), by repeat (first | (with_reducible first | exact HB.out | apply below_alloc | apply pw_below_drewN | apply below_drew1) | exact HB.out)⟩
      · rw [if_neg c4] at H
        exact absurd H (by simp)
    · rw [if_neg c3] at H
      exact absurd H (by simp)
  · rw [if_neg c2] at H
    have c2b0 : ((a0.size : Int) == 64) = false := beq_eq_false_iff_ne.mpr c2
    have c2b1 : ((a0.size : Int) != 64) = true := bne_iff_ne.mpr c2
    simp only [Option.some.injEq, Prod.mk.injEq] at H
    obtain ⟨rfl, rfl⟩ := H
    go_enter Try.func18, Try.ntmps18
    go_wp2
    go_ret2
    exact ⟨by first | rfl | (simp [errW_none, errW_some] <;> rfl) | (simp [*, errW_none, errW_some] <;> rfl), by repeat (first | (with_reducible first | exact HB.out | apply below_alloc | apply pw_below_drewN | apply below_drew1) | exact HB.out)⟩

/-! ### cryostatlaw0_Num: function 22 -/
def cryostatlaw0_Num.f (a0 : Int) : Option (Int) := some a0
set_option maxHeartbeats 8000000 in
set_option maxRecDepth 100000 in
theorem cryostatlaw0_Num.calls (a0 : Int) (r : Int) (w : World) (h : cryostatlaw0_Num.f a0 = some r) :
    Calls Try.prog 22 #[.int .i64 a0] w fun e w' => e = .returned (.int .i64 r) ∧ Drawn0 w w' := by
  have H : (some a0) = some r := h
  clear h
  obtain rfl := Option.some.inj H
  go_enter Try.func22, Try.ntmps22
  go_wp2
  go_ret
  exact ⟨by first | rfl | (simp; done) | (simp [*]; done), by repeat (first | exact Drawn0.refl _ | apply Drawn0.step)⟩

/-! ### pair_Torn: function 20 -/
def pair_Torn.f (a0 : ByteArray) (a1 : ByteArray) (a2 : Int) : Option (ByteArray × Int) := if (a0.size : Int) = 64 then (if (a1.size : Int) = 64 then (if a2 < 0 then (some ((⟨#[]⟩ : ByteArray), 100)) else (if a2 > 64 then (some ((⟨#[]⟩ : ByteArray), 100)) else (if 0 ≤ a2 then (if a2 ≤ (a1.size : Int) then (if a2 ≤ (a0.size : Int) then (if (a1.extract 0 (a2 : Int).toNat).size + (a0.extract (a2 : Int).toNat a0.size).size ≤ 9223372036854775807 then (some ((a1.extract 0 (a2 : Int).toNat) ++ (a0.extract (a2 : Int).toNat a0.size), 0)) else (none)) else (none)) else (none)) else (none)))) else (some ((⟨#[]⟩ : ByteArray), 100))) else (some ((⟨#[]⟩ : ByteArray), 100))
set_option maxHeartbeats 8000000 in
set_option maxRecDepth 100000 in
theorem pair_Torn.calls (a0 : ByteArray) (a1 : ByteArray) (a2 : Int) (r1 : ByteArray) (r2 : Int) (w : World) (h : pair_Torn.f a0 a1 a2 = some (r1, r2)) :
    Calls Try.prog 20 #[.string a0, .string a1, .int .i64 a2] w fun e w' => e = .returned (.tuple #[.string r1, .int .i64 r2]) ∧ Drawn0 w w' := by
  have H : (if (a0.size : Int) = 64 then (if (a1.size : Int) = 64 then (if a2 < 0 then (some ((⟨#[]⟩ : ByteArray), 100)) else (if a2 > 64 then (some ((⟨#[]⟩ : ByteArray), 100)) else (if 0 ≤ a2 then (if a2 ≤ (a1.size : Int) then (if a2 ≤ (a0.size : Int) then (if (a1.extract 0 (a2 : Int).toNat).size + (a0.extract (a2 : Int).toNat a0.size).size ≤ 9223372036854775807 then (some ((a1.extract 0 (a2 : Int).toNat) ++ (a0.extract (a2 : Int).toNat a0.size), 0)) else (none)) else (none)) else (none)) else (none)))) else (some ((⟨#[]⟩ : ByteArray), 100))) else (some ((⟨#[]⟩ : ByteArray), 100))) = some (r1, r2) := h
  clear h
  by_cases c4 : (a0.size : Int) = 64
  · rw [if_pos c4] at H
    have c4b0 : ((a0.size : Int) == 64) = true := beq_iff_eq.mpr c4
    have c4b1 : ((a0.size : Int) != 64) = false := bne_eq_false_iff_eq.mpr c4
    clear c4
    by_cases c5 : (a1.size : Int) = 64
    · rw [if_pos c5] at H
      have c5b0 : ((a1.size : Int) == 64) = true := beq_iff_eq.mpr c5
      have c5b1 : ((a1.size : Int) != 64) = false := bne_eq_false_iff_eq.mpr c5
      clear c5
      by_cases c6 : a2 < 0
      · rw [if_pos c6] at H
        have c6b0 : decide (a2 < 0) = true := decide_eq_true c6
        clear c6
        simp only [Option.some.injEq, Prod.mk.injEq] at H
        obtain ⟨rfl, rfl⟩ := H
        go_enter Try.func20, Try.ntmps20
        go_wp2
        repeat (go_quiet (fail); try go_wp2)
        go_ret2
        exact ⟨by first | rfl | (simp; done) | (simp [*]; done), by repeat (first | exact Drawn0.refl _ | apply Drawn0.step)⟩
      · rw [if_neg c6] at H
        have c6b0 : decide (a2 < 0) = false := decide_eq_false c6
        clear c6
        by_cases c7 : a2 > 64
        · rw [if_pos c7] at H
          have c7b0 : decide (64 < a2) = true := decide_eq_true c7
          clear c7
          simp only [Option.some.injEq, Prod.mk.injEq] at H
          obtain ⟨rfl, rfl⟩ := H
          go_enter Try.func20, Try.ntmps20
          go_wp2
          repeat (go_quiet (fail); try go_wp2)
          go_ret2
          exact ⟨by first | rfl | (simp; done) | (simp [*]; done), by repeat (first | exact Drawn0.refl _ | apply Drawn0.step)⟩
        · rw [if_neg c7] at H
          have c7b0 : decide (64 < a2) = false := decide_eq_false c7
          clear c7
          by_cases c8 : 0 ≤ a2
          · rw [if_pos c8] at H
            have c8b0 := eq_true c8
            have c8b1 : decide (0 ≤ a2) = true := decide_eq_true c8
            clear c8
            by_cases c9 : a2 ≤ (a1.size : Int)
            · rw [if_pos c9] at H
              have c9b0 := eq_true c9
              have c9b1 : decide (a2 ≤ (a1.size : Int)) = true := decide_eq_true c9
              clear c9
              have c10b0 := eq_true (of_decide_eq_true (by first | (with_reducible assumption) | assumption) : 0 ≤ a2)
              by_cases c11 : a2 ≤ (a0.size : Int)
              · rw [if_pos c11] at H
                have c11b0 := eq_true c11
                have c11b1 : decide (a2 ≤ (a0.size : Int)) = true := decide_eq_true c11
                clear c11
                by_cases c12 : (a1.extract 0 (a2 : Int).toNat).size + (a0.extract (a2 : Int).toNat a0.size).size ≤ 9223372036854775807
                · rw [if_pos c12] at H
                  have c12b0 := eq_true c12
                  have c12b1 : decide ((a1.extract 0 (a2 : Int).toNat).size + (a0.extract (a2 : Int).toNat a0.size).size ≤ 9223372036854775807) = true := decide_eq_true c12
                  try have c12b2 : (9223372036854775807 < (a1.extract 0 (a2 : Int).toNat).size + (a0.extract (a2 : Int).toNat a0.size).size) = False := eq_false (Nat.not_lt.2 c12)
                  have c12b3 := c12
                  (try simp only [ByteArray.size_append, ByteArray.size_extract, Nat.min_self, Nat.sub_zero] at c12b3)
                  replace c12b3 := eq_false (Nat.not_lt.2 c12b3)
                  simp only [Option.some.injEq, Prod.mk.injEq] at H
                  obtain ⟨rfl, rfl⟩ := H
                  go_enter Try.func20, Try.ntmps20
                  go_wp2
                  repeat (go_quiet (fail); try go_wp2)
                  go_ret2
                  exact ⟨by first | rfl | (simp; done) | (simp [*]; done), by repeat (first | exact Drawn0.refl _ | apply Drawn0.step)⟩
                · rw [if_neg c12] at H
                  exact absurd H (by simp)
              · rw [if_neg c11] at H
                exact absurd H (by simp)
            · rw [if_neg c9] at H
              exact absurd H (by simp)
          · rw [if_neg c8] at H
            exact absurd H (by simp)
    · rw [if_neg c5] at H
      have c5b0 : ((a1.size : Int) == 64) = false := beq_eq_false_iff_ne.mpr c5
      have c5b1 : ((a1.size : Int) != 64) = true := bne_iff_ne.mpr c5
      simp only [Option.some.injEq, Prod.mk.injEq] at H
      obtain ⟨rfl, rfl⟩ := H
      go_enter Try.func20, Try.ntmps20
      go_wp2
      repeat (go_quiet (fail); try go_wp2)
      go_ret2
      exact ⟨by first | rfl | (simp; done) | (simp [*]; done), by repeat (first | exact Drawn0.refl _ | apply Drawn0.step)⟩
  · rw [if_neg c4] at H
    have c4b0 : ((a0.size : Int) == 64) = false := beq_eq_false_iff_ne.mpr c4
    have c4b1 : ((a0.size : Int) != 64) = true := bne_iff_ne.mpr c4
    simp only [Option.some.injEq, Prod.mk.injEq] at H
    obtain ⟨rfl, rfl⟩ := H
    go_enter Try.func20, Try.ntmps20
    go_wp2
    repeat (go_quiet (fail); try go_wp2)
    go_ret2
    exact ⟨by first | rfl | (simp; done) | (simp [*]; done), by repeat (first | exact Drawn0.refl _ | apply Drawn0.step)⟩

/-! ### cryostatlaw1_zeros: function 25 -/
def cryostatlaw1_zeros.f (a0 : Int) : Option (ByteArray) := if 0 ≤ a0 then (if (a0 : Int).toNat ≤ 281474976710656 then (some (strOfNums (List.replicate (a0 : Int).toNat 0))) else (none)) else (none)
set_option maxHeartbeats 8000000 in
set_option maxRecDepth 100000 in
theorem cryostatlaw1_zeros.calls (a0 : Int) (r : ByteArray) (w : World) (h : cryostatlaw1_zeros.f a0 = some r) :
    Calls Try.prog 25 #[.int .i64 a0] w fun e w' => e = .returned (.string r) ∧ Below w.heap.size w w' := by
  have HB := Aside0.mk (Below.refl w.heap.size w)
  have H : (if 0 ≤ a0 then (if (a0 : Int).toNat ≤ 281474976710656 then (some (strOfNums (List.replicate (a0 : Int).toNat 0))) else (none)) else (none)) = some r := h
  clear h
  by_cases c2 : 0 ≤ a0
  · rw [if_pos c2] at H
    have c2b0 := eq_true c2
    have c2b1 : decide (0 ≤ a0) = true := decide_eq_true c2
    clear c2
    by_cases c3 : (a0 : Int).toNat ≤ 281474976710656
    · rw [if_pos c3] at H
      have c3b0 := eq_true c3
      have c3b1 : decide ((a0 : Int).toNat ≤ 281474976710656) = true := decide_eq_true c3
      clear c3
      obtain ⟨y103, hy103⟩ : ∃ y_ : List Int, y_ = (List.replicate (a0 : Int).toNat 0) := ⟨_, rfl⟩
      replace H : (some (strOfNums y103)) = some r := by first | (rw [hy103]; with_reducible exact H) | (have H2_ := (Option.bind_some _ _).symm.trans H; rw [hy103]; with_reducible exact H2_) | (have H2_ := (Option.bind_some _ _).symm.trans H; with_reducible exact H2_) | with_reducible exact H | (rw [hy103]; exact H) | exact H
      have Ny103 := Aside0.mk hy103
      clear hy103
      obtain rfl := Option.some.inj H
      go_enter Try.func25, Try.ntmps25
      go_wp2_with (first | ((with_reducible refine gate_dst (N := 4) rfl ?_); refine Kd.R_make (Kd.int .u8) _ 5 rfl (N := 4) rfl 34 _ _ rfl a0 rfl rfl Try.underlying34 (.int .u8 0) 1 info5 rfl (by decide) (by omega) 0 (ok := fun _ => True) (okp := fun _ => True) rfl (fun _ hk => hk) trivial (of_decide_eq_true (by first | (with_reducible assumption) | assumption)) (Nat.le_trans (Nat.mul_le_mul_right _ (of_decide_eq_true (by first | (with_reducible assumption) | assumption) : a0.toNat ≤ 281474976710656)) (by omega)) (Below.refl _ _) (Nat.le_refl _) ?_; intro v104 w4 ho5 hb hg_ hnew_; clear hg_ hnew_; (first | rw [← Ny103.out] at ho5 | (simp only [Int.reduceToNat] at ho5; rw [← Ny103.out] at ho5)); have n0_ := Aside0.mk (Kd.R_lower ho5 (below_size (by repeat (first | (with_reducible first | exact HB.out | apply below_alloc | apply pw_below_drewN | apply below_drew1) | exact HB.out)))); have n1_ := Aside0.mk (below_step (by repeat (first | (with_reducible first | exact HB.out | apply below_alloc | apply pw_below_drewN | apply below_drew1) | exact HB.out)) hb); clear HB; have HO105 := n0_; have HB := n1_; clear n0_ n1_; clear hb ho5; have hcv6 := own_string (P := Try.prog) Try.underlying34 Try.underlying5 Try.underlying9 (Kd.own_of_R HO105.out)))
      go_ret
      exact ⟨by first | rfl | (simp [errW_none, errW_some] <;> rfl) | (simp [*, errW_none, errW_some] <;> rfl), by repeat (first | (with_reducible first | exact HB.out | apply below_alloc | apply pw_below_drewN | apply below_drew1) | exact HB.out)⟩
    · rw [if_neg c3] at H
      exact absurd H (by simp)
  · rw [if_neg c2] at H
    exact absurd H (by simp)

/-! ### cryostatlaw1_awake: function 23 -/
def cryostatlaw1_awake.j0 : Nat → ByteArray → Int → ByteArray → Int → Int → Int → ByteArray → Int → Int → Bool → Option (Bool)
  | 0, _, _, _, _, _, _, _, _, _, _ => none
  | k + 1, x1, x2, x3, x4, x6, x8, x9, x10, x12, x51 => if x51 = true then (some false) else (if 63 < (x1.size : Int) then (if (bt x1 63) = 255 then ((cryostatlaw0_Num.f x2).bind fun t121 => (if t121 = 0 then ((cryostatlaw1_zeros.f 32).bind fun t122 => (if x3.toList = t122.toList then ((cryostatlaw0_Num.f x4).bind fun t123 => (if t123 = 0 then ((cryostatlaw0_Num.f x6).bind fun t124 => (if t124 = 100 then ((cryostatlaw0_Num.f x8).bind fun t125 => (if t125 = 100 then (if 39 < (x9.size : Int) then (if (bt x9 39) = 255 then (if 40 < (x9.size : Int) then (if (bt x9 40) = 0 then ((cryostatlaw0_Num.f x10).bind fun t126 => (if t126 = 0 then ((cryostatlaw0_Num.f x12).bind fun t127 => (some (t127 == 100))) else (some false))) else (some false)) else (none)) else (some false)) else (none)) else (some false))) else (some false))) else (some false))) else (some false))) else (some false))) else (some false)) else (none))
def cryostatlaw1_awake.f (k : Nat)  : Option (Bool) := (cryostatlaw1_zeros.f 32).bind fun t106 => ((pair_Put.f t106).bind fun bt107 => ((pair_Get.f bt107.1).bind fun bt109 => ((pair_Put.f (⟨#[120]⟩ : ByteArray)).bind fun bt111 => ((cryostatlaw1_zeros.f 64).bind fun t113 => ((pair_Get.f t113).bind fun bt114 => ((cryostatlaw1_zeros.f 64).bind fun t116 => ((pair_Torn.f t116 bt107.1 40).bind fun bt117 => ((pair_Torn.f bt107.1 bt107.1 65).bind fun bt119 => (if (bt107.1.size : Int) = 64 then (cryostatlaw1_awake.j0 k bt107.1 bt107.2 bt109.1 bt109.2 bt111.2 bt114.2 bt117.1 bt117.2 bt119.2 ((bt117.1.size : Int) != 64)) else (cryostatlaw1_awake.j0 k bt107.1 bt107.2 bt109.1 bt109.2 bt111.2 bt114.2 bt117.1 bt117.2 bt119.2 true))))))))))
theorem cryostatlaw1_awake.mono_l : ∀ k, (∀ y0 y1 y2 y3 y4 y5 y6 y7 y8 y9, LeO (cryostatlaw1_awake.j0 k y0 y1 y2 y3 y4 y5 y6 y7 y8 y9) (cryostatlaw1_awake.j0 (k + 1) y0 y1 y2 y3 y4 y5 y6 y7 y8 y9))
  | 0 => fun _ _ _ _ _ _ _ _ _ _ r h => by simp [cryostatlaw1_awake.j0] at h
  | k + 1 => by
    have ih0 := cryostatlaw1_awake.mono_l k
    · intro y0 y1 y2 y3 y4 y5 y6 y7 y8 y9
      unfold cryostatlaw1_awake.j0
      repeat' first
      | (with_reducible exact ih0 _ _ _ _ _ _ _ _ _ _)
      | (with_reducible exact LeO.refl _)
      | (with_reducible exact LeO.none _)
      | (with_reducible refine LeO.ite ?_ ?_)
      | (with_reducible refine LeO.bind ?_ (fun _ => ?_))
      | exact ih0 _ _ _ _ _ _ _ _ _ _
      | exact LeO.none _
      | refine LeO.ite ?_ ?_
      | refine LeO.bind ?_ (fun _ => ?_)
theorem cryostatlaw1_awake.mono : ∀ k, LeO (cryostatlaw1_awake.f k ) (cryostatlaw1_awake.f (k + 1) ) := by
  intro  k
  have ih0 := cryostatlaw1_awake.mono_l k
  unfold cryostatlaw1_awake.f
  repeat' first
      | (with_reducible exact ih0 _ _ _ _ _ _ _ _ _ _)
      | (with_reducible exact LeO.refl _)
      | (with_reducible exact LeO.none _)
      | (with_reducible refine LeO.ite ?_ ?_)
      | (with_reducible refine LeO.bind ?_ (fun _ => ?_))
      | exact ih0 _ _ _ _ _ _ _ _ _ _
      | exact LeO.none _
      | refine LeO.ite ?_ ?_
      | refine LeO.bind ?_ (fun _ => ?_)
set_option maxHeartbeats 8000000 in
set_option maxRecDepth 100000 in
theorem cryostatlaw1_awake.calls (k : Nat)  (r : Bool) (w : World) (hr : Aside0 (r = true)) (h : cryostatlaw1_awake.f k  = some r) :
    Calls Try.prog 23 #[] w fun e w' => e = .returned (.bool r) ∧ Below w.heap.size w w' := by
  have HB := Aside0.mk (Below.refl w.heap.size w)
  have H : ((cryostatlaw1_zeros.f 32).bind fun t106 => ((pair_Put.f t106).bind fun bt107 => ((pair_Get.f bt107.1).bind fun bt109 => ((pair_Put.f (⟨#[120]⟩ : ByteArray)).bind fun bt111 => ((cryostatlaw1_zeros.f 64).bind fun t113 => ((pair_Get.f t113).bind fun bt114 => ((cryostatlaw1_zeros.f 64).bind fun t116 => ((pair_Torn.f t116 bt107.1 40).bind fun bt117 => ((pair_Torn.f bt107.1 bt107.1 65).bind fun bt119 => (if (bt107.1.size : Int) = 64 then (cryostatlaw1_awake.j0 k bt107.1 bt107.2 bt109.1 bt109.2 bt111.2 bt114.2 bt117.1 bt117.2 bt119.2 ((bt117.1.size : Int) != 64)) else (cryostatlaw1_awake.j0 k bt107.1 bt107.2 bt109.1 bt109.2 bt111.2 bt114.2 bt117.1 bt117.2 bt119.2 true))))))))))) = some r := h
  clear h
  replace H := Option.bind_eq_some_iff.mp H
  obtain ⟨t106, A10, H⟩ := H
  replace H : ((pair_Put.f t106).bind fun bt107 => ((pair_Get.f bt107.1).bind fun bt109 => ((pair_Put.f (⟨#[120]⟩ : ByteArray)).bind fun bt111 => ((cryostatlaw1_zeros.f 64).bind fun t113 => ((pair_Get.f t113).bind fun bt114 => ((cryostatlaw1_zeros.f 64).bind fun t116 => ((pair_Torn.f t116 bt107.1 40).bind fun bt117 => ((pair_Torn.f bt107.1 bt107.1 65).bind fun bt119 => (if (bt107.1.size : Int) = 64 then (cryostatlaw1_awake.j0 k bt107.1 bt107.2 bt109.1 bt109.2 bt111.2 bt114.2 bt117.1 bt117.2 bt119.2 ((bt117.1.size : Int) != 64)) else (cryostatlaw1_awake.j0 k bt107.1 bt107.2 bt109.1 bt109.2 bt111.2 bt114.2 bt117.1 bt117.2 bt119.2 true)))))))))) = some r := H
  have A1 := Aside0.mk A10
  clear A10
  replace H := Option.bind_eq_some_iff.mp H
  obtain ⟨⟨t107, t108⟩, A20, H⟩ := H
  replace H : ((pair_Get.f t107).bind fun bt109 => ((pair_Put.f (⟨#[120]⟩ : ByteArray)).bind fun bt111 => ((cryostatlaw1_zeros.f 64).bind fun t113 => ((pair_Get.f t113).bind fun bt114 => ((cryostatlaw1_zeros.f 64).bind fun t116 => ((pair_Torn.f t116 t107 40).bind fun bt117 => ((pair_Torn.f t107 t107 65).bind fun bt119 => (if (t107.size : Int) = 64 then (cryostatlaw1_awake.j0 k t107 t108 bt109.1 bt109.2 bt111.2 bt114.2 bt117.1 bt117.2 bt119.2 ((bt117.1.size : Int) != 64)) else (cryostatlaw1_awake.j0 k t107 t108 bt109.1 bt109.2 bt111.2 bt114.2 bt117.1 bt117.2 bt119.2 true))))))))) = some r := H
  have A2 := Aside0.mk A20
  clear A20
  replace H := Option.bind_eq_some_iff.mp H
  obtain ⟨⟨t109, t110⟩, A30, H⟩ := H
  replace H : ((pair_Put.f (⟨#[120]⟩ : ByteArray)).bind fun bt111 => ((cryostatlaw1_zeros.f 64).bind fun t113 => ((pair_Get.f t113).bind fun bt114 => ((cryostatlaw1_zeros.f 64).bind fun t116 => ((pair_Torn.f t116 t107 40).bind fun bt117 => ((pair_Torn.f t107 t107 65).bind fun bt119 => (if (t107.size : Int) = 64 then (cryostatlaw1_awake.j0 k t107 t108 t109 t110 bt111.2 bt114.2 bt117.1 bt117.2 bt119.2 ((bt117.1.size : Int) != 64)) else (cryostatlaw1_awake.j0 k t107 t108 t109 t110 bt111.2 bt114.2 bt117.1 bt117.2 bt119.2 true)))))))) = some r := H
  have A3 := Aside0.mk A30
  clear A30
  replace H := Option.bind_eq_some_iff.mp H
  obtain ⟨⟨t111, t112⟩, A40, H⟩ := H
  replace H : ((cryostatlaw1_zeros.f 64).bind fun t113 => ((pair_Get.f t113).bind fun bt114 => ((cryostatlaw1_zeros.f 64).bind fun t116 => ((pair_Torn.f t116 t107 40).bind fun bt117 => ((pair_Torn.f t107 t107 65).bind fun bt119 => (if (t107.size : Int) = 64 then (cryostatlaw1_awake.j0 k t107 t108 t109 t110 t112 bt114.2 bt117.1 bt117.2 bt119.2 ((bt117.1.size : Int) != 64)) else (cryostatlaw1_awake.j0 k t107 t108 t109 t110 t112 bt114.2 bt117.1 bt117.2 bt119.2 true))))))) = some r := H
  have A4 := Aside0.mk A40
  clear A40
  replace H := Option.bind_eq_some_iff.mp H
  obtain ⟨t113, A50, H⟩ := H
  replace H : ((pair_Get.f t113).bind fun bt114 => ((cryostatlaw1_zeros.f 64).bind fun t116 => ((pair_Torn.f t116 t107 40).bind fun bt117 => ((pair_Torn.f t107 t107 65).bind fun bt119 => (if (t107.size : Int) = 64 then (cryostatlaw1_awake.j0 k t107 t108 t109 t110 t112 bt114.2 bt117.1 bt117.2 bt119.2 ((bt117.1.size : Int) != 64)) else (cryostatlaw1_awake.j0 k t107 t108 t109 t110 t112 bt114.2 bt117.1 bt117.2 bt119.2 true)))))) = some r := H
  have A5 := Aside0.mk A50
  clear A50
  replace H := Option.bind_eq_some_iff.mp H
  obtain ⟨⟨t114, t115⟩, A60, H⟩ := H
  replace H : ((cryostatlaw1_zeros.f 64).bind fun t116 => ((pair_Torn.f t116 t107 40).bind fun bt117 => ((pair_Torn.f t107 t107 65).bind fun bt119 => (if (t107.size : Int) = 64 then (cryostatlaw1_awake.j0 k t107 t108 t109 t110 t112 t115 bt117.1 bt117.2 bt119.2 ((bt117.1.size : Int) != 64)) else (cryostatlaw1_awake.j0 k t107 t108 t109 t110 t112 t115 bt117.1 bt117.2 bt119.2 true))))) = some r := H
  have A6 := Aside0.mk A60
  clear A60
  replace H := Option.bind_eq_some_iff.mp H
  obtain ⟨t116, A70, H⟩ := H
  replace H : ((pair_Torn.f t116 t107 40).bind fun bt117 => ((pair_Torn.f t107 t107 65).bind fun bt119 => (if (t107.size : Int) = 64 then (cryostatlaw1_awake.j0 k t107 t108 t109 t110 t112 t115 bt117.1 bt117.2 bt119.2 ((bt117.1.size : Int) != 64)) else (cryostatlaw1_awake.j0 k t107 t108 t109 t110 t112 t115 bt117.1 bt117.2 bt119.2 true)))) = some r := H
  have A7 := Aside0.mk A70
  clear A70
  replace H := Option.bind_eq_some_iff.mp H
  obtain ⟨⟨t117, t118⟩, A80, H⟩ := H
  replace H : ((pair_Torn.f t107 t107 65).bind fun bt119 => (if (t107.size : Int) = 64 then (cryostatlaw1_awake.j0 k t107 t108 t109 t110 t112 t115 t117 t118 bt119.2 ((t117.size : Int) != 64)) else (cryostatlaw1_awake.j0 k t107 t108 t109 t110 t112 t115 t117 t118 bt119.2 true))) = some r := H
  have A8 := Aside0.mk A80
  clear A80
  replace H := Option.bind_eq_some_iff.mp H
  obtain ⟨⟨t119, t120⟩, A90, H⟩ := H
  replace H : (if (t107.size : Int) = 64 then (cryostatlaw1_awake.j0 k t107 t108 t109 t110 t112 t115 t117 t118 t120 ((t117.size : Int) != 64)) else (cryostatlaw1_awake.j0 k t107 t108 t109 t110 t112 t115 t117 t118 t120 true)) = some r := H
  have A9 := Aside0.mk A90
  clear A90
  have HC10 := Aside0.mk H
  clear H
  go_enter Try.func23, Try.ntmps23
  go_upto_region 7 with (first | ((with_reducible refine gate_callee (f := 25) rfl ?_); refine goesL_ (some 14) rfl rfl Try.func25 (by kernel_rfl) rfl #[.int .i64 32] rfl (by (try simp only [List.map_toArray, List.map_cons, List.map_nil]); first | done | rfl | (simp only [List.length_drop, List.length_take]; rfl)) ?_; (with_reducible refine (cryostatlaw1_zeros.calls 32 t106 _ A1.out).mono ?_); rintro e w11 ⟨rfl, hb⟩; refine ⟨_, rfl, ?_⟩; have n0_ := Aside0.mk (below_step (by repeat (first | (with_reducible first | exact HB.out | apply below_alloc | apply pw_below_drewN | apply below_drew1) | exact HB.out)) hb); clear HB; have HB := n0_; clear n0_; (try clear hb); (try clear hb2); (try clear hk); (try clear hi)) | ((with_reducible refine gate_callee (f := 16) rfl ?_); refine goesL_ (some 15) rfl rfl Try.func16 (by kernel_rfl) rfl #[.string t106] rfl (by (try simp only [List.map_toArray, List.map_cons, List.map_nil]); first | done | rfl | (simp only [List.length_drop, List.length_take]; rfl)) ?_; (with_reducible refine (pair_Put.calls t106 t107 t108 _ A2.out).mono ?_); rintro e w12 ⟨rfl, hb⟩; refine ⟨_, rfl, ?_⟩; have n0_ := Aside0.mk (below_step (by repeat (first | (with_reducible first | exact HB.out | apply below_alloc | apply pw_below_drewN | apply below_drew1) | exact HB.out)) hb); clear HB; have HB := n0_; clear n0_; (try clear hb); (try clear hb2); (try clear hk); (try clear hi)) | ((with_reducible refine gate_callee (f := 18) rfl ?_); refine goesL_ (some 20) rfl rfl Try.func18 (by kernel_rfl) rfl #[.string t107] rfl (by (try simp only [List.map_toArray, List.map_cons, List.map_nil]); first | done | rfl | (simp only [List.length_drop, List.length_take]; rfl)) ?_; (with_reducible refine (pair_Get.calls t107 t109 t110 _ A3.out).mono ?_); rintro e w13 ⟨rfl, hb⟩; refine ⟨_, rfl, ?_⟩; have n0_ := Aside0.mk (below_step (by repeat (first | (with_reducible first | exact HB.out | apply below_alloc | apply pw_below_drewN | apply below_drew1) | exact HB.out)) hb); clear HB; have HB := n0_; clear n0_; (try clear hb); (try clear hb2); (try clear hk); (try clear hi)) | ((with_reducible refine gate_callee (f := 16) rfl ?_); refine goesL_ (some 24) rfl rfl Try.func16 (by kernel_rfl) rfl #[.string (⟨#[120]⟩ : ByteArray)] rfl (by (try simp only [List.map_toArray, List.map_cons, List.map_nil]); first | done | rfl | (simp only [List.length_drop, List.length_take]; rfl)) ?_; (with_reducible refine (pair_Put.calls (⟨#[120]⟩ : ByteArray) t111 t112 _ A4.out).mono ?_); rintro e w14 ⟨rfl, hb⟩; refine ⟨_, rfl, ?_⟩; have n0_ := Aside0.mk (below_step (by repeat (first | (with_reducible first | exact HB.out | apply below_alloc | apply pw_below_drewN | apply below_drew1) | exact HB.out)) hb); clear HB; have HB := n0_; clear n0_; (try clear hb); (try clear hb2); (try clear hk); (try clear hi)) | ((with_reducible refine gate_callee (f := 25) rfl ?_); refine goesL_ (some 28) rfl rfl Try.func25 (by kernel_rfl) rfl #[.int .i64 64] rfl (by (try simp only [List.map_toArray, List.map_cons, List.map_nil]); first | done | rfl | (simp only [List.length_drop, List.length_take]; rfl)) ?_; (with_reducible refine (cryostatlaw1_zeros.calls 64 t113 _ A5.out).mono ?_); rintro e w15 ⟨rfl, hb⟩; refine ⟨_, rfl, ?_⟩; have n0_ := Aside0.mk (below_step (by repeat (first | (with_reducible first | exact HB.out | apply below_alloc | apply pw_below_drewN | apply below_drew1) | exact HB.out)) hb); clear HB; have HB := n0_; clear n0_; (try clear hb); (try clear hb2); (try clear hk); (try clear hi)) | ((with_reducible refine gate_callee (f := 18) rfl ?_); refine goesL_ (some 29) rfl rfl Try.func18 (by kernel_rfl) rfl #[.string t113] rfl (by (try simp only [List.map_toArray, List.map_cons, List.map_nil]); first | done | rfl | (simp only [List.length_drop, List.length_take]; rfl)) ?_; (with_reducible refine (pair_Get.calls t113 t114 t115 _ A6.out).mono ?_); rintro e w16 ⟨rfl, hb⟩; refine ⟨_, rfl, ?_⟩; have n0_ := Aside0.mk (below_step (by repeat (first | (with_reducible first | exact HB.out | apply below_alloc | apply pw_below_drewN | apply below_drew1) | exact HB.out)) hb); clear HB; have HB := n0_; clear n0_; (try clear hb); (try clear hb2); (try clear hk); (try clear hi)) | ((with_reducible refine gate_callee (f := 25) rfl ?_); refine goesL_ (some 33) rfl rfl Try.func25 (by kernel_rfl) rfl #[.int .i64 64] rfl (by (try simp only [List.map_toArray, List.map_cons, List.map_nil]); first | done | rfl | (simp only [List.length_drop, List.length_take]; rfl)) ?_; (with_reducible refine (cryostatlaw1_zeros.calls 64 t116 _ A7.out).mono ?_); rintro e w17 ⟨rfl, hb⟩; refine ⟨_, rfl, ?_⟩; have n0_ := Aside0.mk (below_step (by repeat (first | (with_reducible first | exact HB.out | apply below_alloc | apply pw_below_drewN | apply below_drew1) | exact HB.out)) hb); clear HB; have HB := n0_; clear n0_; (try clear hb); (try clear hb2); (try clear hk); (try clear hi)) | ((with_reducible refine gate_callee (f := 20) rfl ?_); refine goesL_ (some 35) rfl rfl Try.func20 (by kernel_rfl) rfl #[.string t116, .string t107, .int .i64 40] rfl (by (try simp only [List.map_toArray, List.map_cons, List.map_nil]); first | done | rfl | (simp only [List.length_drop, List.length_take]; rfl)) ?_; (with_reducible refine (pair_Torn.calls t116 t107 40 t117 t118 _ A8.out).mono ?_); rintro e w' ⟨rfl, ⟨nd, rfl⟩⟩; refine ⟨_, rfl, ?_⟩) | ((with_reducible refine gate_callee (f := 20) rfl ?_); refine goesL_ (some 41) rfl rfl Try.func20 (by kernel_rfl) rfl #[.string t107, .string t107, .int .i64 65] rfl (by (try simp only [List.map_toArray, List.map_cons, List.map_nil]); first | done | rfl | (simp only [List.length_drop, List.length_take]; rfl)) ?_; (with_reducible refine (pair_Torn.calls t107 t107 65 t119 t120 _ A9.out).mono ?_); rintro e w' ⟨rfl, ⟨nd, rfl⟩⟩; refine ⟨_, rfl, ?_⟩))
  (try simp only [Act.put, List.setIfInBounds_toArray, List.set_cons_zero, List.set_cons_succ])
  go_cut [51] (fun v51 wc => ∃ (kq : Nat) (x51_9 : Bool), v51 = .bool x51_9 ∧ Aside0 (cryostatlaw1_awake.j0 kq t107 t108 t109 t110 t112 t115 t117 t118 t120 x51_9 = some r) ∧ Aside0 (kq ≤ k) ∧ Aside0 (Below w.heap.size w wc))
  case first =>
    have H := HC10.out
    clear HC10
    by_cases c18 : (t107.size : Int) = 64
    · rw [if_pos c18] at H
      have c18b0 : ((t107.size : Int) == 64) = true := beq_iff_eq.mpr c18
      have c18b1 : ((t107.size : Int) != 64) = false := bne_eq_false_iff_eq.mpr c18
      clear c18
      (first | rw [c18b0] | (simp only [i64_w, i32_w]; rw [c18b0]) | skip)
      have H' := Aside0.mk H
      clear H
      go_wp2
      go_meet
      case rel => exact ⟨_, (((t117.size : Int) != 64)), (by first | rfl | (simp; done) | (simp [*]; done)), H', ⟨by first | omega | exact Nat.le_refl _⟩, ⟨by repeat (first | (with_reducible first | exact HB.out | apply below_alloc | apply pw_below_drewN | apply below_drew1) | exact HB.out)⟩⟩
    · rw [if_neg c18] at H
      have c18b0 : ((t107.size : Int) == 64) = false := beq_eq_false_iff_ne.mpr c18
      have c18b1 : ((t107.size : Int) != 64) = true := bne_iff_ne.mpr c18
      (first | rw [c18b0] | (simp only [i64_w, i32_w]; rw [c18b0]) | skip)
      have H' := Aside0.mk H
      clear H
      go_wp2
      go_meet
      case rel => exact ⟨_, (true), (by first | rfl | (simp; done) | (simp [*]; done)), H', ⟨by first | omega | exact Nat.le_refl _⟩, ⟨by repeat (first | (with_reducible first | exact HB.out | apply below_alloc | apply pw_below_drewN | apply below_drew1) | exact HB.out)⟩⟩
  case rest =>
    clear HC10
    try clear c1
    try clear c2
    try clear p2
    try clear c16
    try clear c18
    try clear c18b0
    try clear c18b1
    obtain ⟨kq, x51_9, rfl, HA, HJ9, HB⟩ := hcut
    cases kq with
    | zero => exact absurd HA.out (by simp [cryostatlaw1_awake.j0])
    | succ kj9 =>
      have H := HA.out
      clear HA
      simp only [cryostatlaw1_awake.j0] at H
      by_cases c19 : x51_9 = true
      · subst c19
        have H1 : (some false) = some r := by rw [if_pos rfl] at H; exact H
        clear H
        have H := H1
        clear H1
        exact Bool.noConfusion ((Option.some.inj H).trans hr.out)
      · replace c19 := Bool.eq_false_iff.mpr c19
        subst c19
        have H1 : (if 63 < (t107.size : Int) then (if (bt t107 63) = 255 then ((cryostatlaw0_Num.f t108).bind fun t121 => (if t121 = 0 then ((cryostatlaw1_zeros.f 32).bind fun t122 => (if t109.toList = t122.toList then ((cryostatlaw0_Num.f t110).bind fun t123 => (if t123 = 0 then ((cryostatlaw0_Num.f t112).bind fun t124 => (if t124 = 100 then ((cryostatlaw0_Num.f t115).bind fun t125 => (if t125 = 100 then (if 39 < (t117.size : Int) then (if (bt t117 39) = 255 then (if 40 < (t117.size : Int) then (if (bt t117 40) = 0 then ((cryostatlaw0_Num.f t118).bind fun t126 => (if t126 = 0 then ((cryostatlaw0_Num.f t120).bind fun t127 => (some (t127 == 100))) else (some false))) else (some false)) else (none)) else (some false)) else (none)) else (some false))) else (some false))) else (some false))) else (some false))) else (some false))) else (some false)) else (none)) = some r := by rw [if_neg (show ¬ (false = true) by decide)] at H; exact H
        clear H
        have H := H1
        clear H1
        by_cases c20 : 63 < (t107.size : Int)
        · rw [if_pos c20] at H
          have c20b0 : decide (63 < (t107.size : Int)) = true := decide_eq_true c20
          have c20b1 : decide (63 < t107.size) = true := decide_eq_true (by omega)
          clear c20
          by_cases c22 : (bt t107 63) = 255
          · rw [if_pos c22] at H
            have c22b0 : ((bt t107 63) == 255) = true := beq_iff_eq.mpr c22
            have c22b1 : ((bt t107 63) != 255) = false := bne_eq_false_iff_eq.mpr c22
            clear c22
            replace H := Option.bind_eq_some_iff.mp H
            obtain ⟨t121, A230, H⟩ := H
            replace H : (if t121 = 0 then ((cryostatlaw1_zeros.f 32).bind fun t122 => (if t109.toList = t122.toList then ((cryostatlaw0_Num.f t110).bind fun t123 => (if t123 = 0 then ((cryostatlaw0_Num.f t112).bind fun t124 => (if t124 = 100 then ((cryostatlaw0_Num.f t115).bind fun t125 => (if t125 = 100 then (if 39 < (t117.size : Int) then (if (bt t117 39) = 255 then (if 40 < (t117.size : Int) then (if (bt t117 40) = 0 then ((cryostatlaw0_Num.f t118).bind fun t126 => (if t126 = 0 then ((cryostatlaw0_Num.f t120).bind fun t127 => (some (t127 == 100))) else (some false))) else (some false)) else (none)) else (some false)) else (none)) else (some false))) else (some false))) else (some false))) else (some false))) else (some false)) = some r := H
            have A23 := Aside0.mk A230
            clear A230
            by_cases c24 : t121 = 0
            · rw [if_pos c24] at H
              have c24b0 : (t121 == 0) = true := beq_iff_eq.mpr c24
              have c24b1 : (t121 != 0) = false := bne_eq_false_iff_eq.mpr c24
              clear c24
              replace H := Option.bind_eq_some_iff.mp H
              obtain ⟨t122, A250, H⟩ := H
              replace H : (if t109.toList = t122.toList then ((cryostatlaw0_Num.f t110).bind fun t123 => (if t123 = 0 then ((cryostatlaw0_Num.f t112).bind fun t124 => (if t124 = 100 then ((cryostatlaw0_Num.f t115).bind fun t125 => (if t125 = 100 then (if 39 < (t117.size : Int) then (if (bt t117 39) = 255 then (if 40 < (t117.size : Int) then (if (bt t117 40) = 0 then ((cryostatlaw0_Num.f t118).bind fun t126 => (if t126 = 0 then ((cryostatlaw0_Num.f t120).bind fun t127 => (some (t127 == 100))) else (some false))) else (some false)) else (none)) else (some false)) else (none)) else (some false))) else (some false))) else (some false))) else (some false)) = some r := H
              have A25 := Aside0.mk A250
              clear A250
              by_cases c26 : t109.toList = t122.toList
              · rw [if_pos c26] at H
                have c26b0 : (t109.toList == t122.toList) = true := beq_iff_eq.mpr c26
                have c26b1 : (t109.toList != t122.toList) = false := bne_eq_false_iff_eq.mpr c26
                clear c26
                replace H := Option.bind_eq_some_iff.mp H
                obtain ⟨t123, A270, H⟩ := H
                replace H : (if t123 = 0 then ((cryostatlaw0_Num.f t112).bind fun t124 => (if t124 = 100 then ((cryostatlaw0_Num.f t115).bind fun t125 => (if t125 = 100 then (if 39 < (t117.size : Int) then (if (bt t117 39) = 255 then (if 40 < (t117.size : Int) then (if (bt t117 40) = 0 then ((cryostatlaw0_Num.f t118).bind fun t126 => (if t126 = 0 then ((cryostatlaw0_Num.f t120).bind fun t127 => (some (t127 == 100))) else (some false))) else (some false)) else (none)) else (some false)) else (none)) else (some false))) else (some false))) else (some false)) = some r := H
                have A27 := Aside0.mk A270
                clear A270
                by_cases c28 : t123 = 0
                · rw [if_pos c28] at H
                  have c28b0 : (t123 == 0) = true := beq_iff_eq.mpr c28
                  have c28b1 : (t123 != 0) = false := bne_eq_false_iff_eq.mpr c28
                  clear c28
                  replace H := Option.bind_eq_some_iff.mp H
                  obtain ⟨t124, A290, H⟩ := H
                  replace H : (if t124 = 100 then ((cryostatlaw0_Num.f t115).bind fun t125 => (if t125 = 100 then (if 39 < (t117.size : Int) then (if (bt t117 39) = 255 then (if 40 < (t117.size : Int) then (if (bt t117 40) = 0 then ((cryostatlaw0_Num.f t118).bind fun t126 => (if t126 = 0 then ((cryostatlaw0_Num.f t120).bind fun t127 => (some (t127 == 100))) else (some false))) else (some false)) else (none)) else (some false)) else (none)) else (some false))) else (some false)) = some r := H
                  have A29 := Aside0.mk A290
                  clear A290
                  by_cases c30 : t124 = 100
                  · rw [if_pos c30] at H
                    have c30b0 : (t124 == 100) = true := beq_iff_eq.mpr c30
                    have c30b1 : (t124 != 100) = false := bne_eq_false_iff_eq.mpr c30
                    clear c30
                    replace H := Option.bind_eq_some_iff.mp H
                    obtain ⟨t125, A310, H⟩ := H
                    replace H : (if t125 = 100 then (if 39 < (t117.size : Int) then (if (bt t117 39) = 255 then (if 40 < (t117.size : Int) then (if (bt t117 40) = 0 then ((cryostatlaw0_Num.f t118).bind fun t126 => (if t126 = 0 then ((cryostatlaw0_Num.f t120).bind fun t127 => (some (t127 == 100))) else (some false))) else (some false)) else (none)) else (some false)) else (none)) else (some false)) = some r := H
                    have A31 := Aside0.mk A310
                    clear A310
                    by_cases c32 : t125 = 100
                    · rw [if_pos c32] at H
                      have c32b0 : (t125 == 100) = true := beq_iff_eq.mpr c32
                      have c32b1 : (t125 != 100) = false := bne_eq_false_iff_eq.mpr c32
                      clear c32
                      by_cases c33 : 39 < (t117.size : Int)
                      · rw [if_pos c33] at H
                        have c33b0 : decide (39 < (t117.size : Int)) = true := decide_eq_true c33
                        have c33b1 : decide (39 < t117.size) = true := decide_eq_true (by omega)
                        clear c33
                        by_cases c35 : (bt t117 39) = 255
                        · rw [if_pos c35] at H
                          have c35b0 : ((bt t117 39) == 255) = true := beq_iff_eq.mpr c35
                          have c35b1 : ((bt t117 39) != 255) = false := bne_eq_false_iff_eq.mpr c35
                          clear c35
                          by_cases c36 : 40 < (t117.size : Int)
                          · rw [if_pos c36] at H
                            have c36b0 : decide (40 < (t117.size : Int)) = true := decide_eq_true c36
                            have c36b1 : decide (40 < t117.size) = true := decide_eq_true (by omega)
                            clear c36
                            by_cases c38 : (bt t117 40) = 0
                            · rw [if_pos c38] at H
                              have c38b0 : ((bt t117 40) == 0) = true := beq_iff_eq.mpr c38
                              have c38b1 : ((bt t117 40) != 0) = false := bne_eq_false_iff_eq.mpr c38
                              clear c38
                              replace H := Option.bind_eq_some_iff.mp H
                              obtain ⟨t126, A390, H⟩ := H
                              replace H : (if t126 = 0 then ((cryostatlaw0_Num.f t120).bind fun t127 => (some (t127 == 100))) else (some false)) = some r := H
                              have A39 := Aside0.mk A390
                              clear A390
                              by_cases c40 : t126 = 0
                              · rw [if_pos c40] at H
                                have c40b0 : (t126 == 0) = true := beq_iff_eq.mpr c40
                                have c40b1 : (t126 != 0) = false := bne_eq_false_iff_eq.mpr c40
                                clear c40
                                replace H := Option.bind_eq_some_iff.mp H
                                obtain ⟨t127, A410, H⟩ := H
                                replace H : (some (t127 == 100)) = some r := H
                                have A41 := Aside0.mk A410
                                clear A410
                                obtain rfl := Option.some.inj H
                                have p21 : 0 ≤ (63 : Int) := (by omega)
                                have q21 : 63 < t107.size := (by have : (63 : Int) < (t107.size : Int) := of_decide_eq_true (by first | (with_reducible assumption) | assumption); omega)
                                have hx21 : ∀ h : 63 < t107.size, ((t107[63]'h).toNat : Int) = bt t107 63 := bt_at t107 63
                                clear p21
                                have qi21 : (63 < (t107.size : Int)) = True := eq_true (of_decide_eq_true (by first | (with_reducible assumption) | assumption))
                                replace q21 := eq_true q21
                                go_wp2_with (first | (go_at_call 22; (with_reducible refine (cryostatlaw0_Num.calls t108 t121 _ A23.out).mono ?_); rintro e w' ⟨rfl, ⟨nd, rfl⟩⟩) | (go_at_call 25; (with_reducible refine (cryostatlaw1_zeros.calls 32 t122 _ A25.out).mono ?_); rintro e w42 ⟨rfl, hb⟩; have n0_ := Aside0.mk (below_step (by repeat (first | (with_reducible first | exact HB.out | apply below_alloc | apply pw_below_drewN | apply below_drew1) | exact HB.out)) hb); clear HB; have HB := n0_; clear n0_; (try clear hb); (try clear hb2); (try clear hk); (try clear hi)) | (go_at_call 22; (with_reducible refine (cryostatlaw0_Num.calls t110 t123 _ A27.out).mono ?_); rintro e w' ⟨rfl, ⟨nd, rfl⟩⟩) | (go_at_call 22; (with_reducible refine (cryostatlaw0_Num.calls t112 t124 _ A29.out).mono ?_); rintro e w' ⟨rfl, ⟨nd, rfl⟩⟩) | (go_at_call 22; (with_reducible refine (cryostatlaw0_Num.calls t115 t125 _ A31.out).mono ?_); rintro e w' ⟨rfl, ⟨nd, rfl⟩⟩; have p34 : 0 ≤ (39 : Int) := (by omega); have q34 : 39 < t117.size := (by have : (39 : Int) < (t117.size : Int) := of_decide_eq_true (by first | (with_reducible assumption) | assumption); omega); have hx34 : ∀ h : 39 < t117.size, ((t117[39]'h).toNat : Int) = bt t117 39 := bt_at t117 39; clear p34; have qi34 : (39 < (t117.size : Int)) = True := eq_true (of_decide_eq_true (by first | (with_reducible assumption) | assumption)); replace q34 := eq_true q34; have p37 : 0 ≤ (40 : Int) := (by omega); have q37 : 40 < t117.size := (by have : (40 : Int) < (t117.size : Int) := of_decide_eq_true (by first | (with_reducible assumption) | assumption); omega); have hx37 : ∀ h : 40 < t117.size, ((t117[40]'h).toNat : Int) = bt t117 40 := bt_at t117 40; clear p37; have qi37 : (40 < (t117.size : Int)) = True := eq_true (of_decide_eq_true (by first | (with_reducible assumption) | assumption)); replace q37 := eq_true q37) | (go_at_call 22; (with_reducible refine (cryostatlaw0_Num.calls t118 t126 _ A39.out).mono ?_); rintro e w' ⟨rfl, ⟨nd, rfl⟩⟩) | (go_at_call 22; (with_reducible refine (cryostatlaw0_Num.calls t120 t127 _ A41.out).mono ?_); rintro e w' ⟨rfl, ⟨nd, rfl⟩⟩))
                                go_ret
                                exact ⟨by first | rfl | (simp [errW_none, errW_some] <;> rfl) | (simp [*, errW_none, errW_some] <;> rfl), by repeat (first | (with_reducible first | exact HB.out | apply below_alloc | apply pw_below_drewN | apply below_drew1) | exact HB.out)⟩
                              · rw [if_neg c40] at H
                                have c40b0 : (t126 == 0) = false := beq_eq_false_iff_ne.mpr c40
                                have c40b1 : (t126 != 0) = true := bne_iff_ne.mpr c40
                                exact Bool.noConfusion ((Option.some.inj H).trans hr.out)
                            · rw [if_neg c38] at H
                              have c38b0 : ((bt t117 40) == 0) = false := beq_eq_false_iff_ne.mpr c38
                              have c38b1 : ((bt t117 40) != 0) = true := bne_iff_ne.mpr c38
                              exact Bool.noConfusion ((Option.some.inj H).trans hr.out)
                          · rw [if_neg c36] at H
                            exact absurd H (by simp)
                        · rw [if_neg c35] at H
                          have c35b0 : ((bt t117 39) == 255) = false := beq_eq_false_iff_ne.mpr c35
                          have c35b1 : ((bt t117 39) != 255) = true := bne_iff_ne.mpr c35
                          exact Bool.noConfusion ((Option.some.inj H).trans hr.out)
                      · rw [if_neg c33] at H
                        exact absurd H (by simp)
                    · rw [if_neg c32] at H
                      have c32b0 : (t125 == 100) = false := beq_eq_false_iff_ne.mpr c32
                      have c32b1 : (t125 != 100) = true := bne_iff_ne.mpr c32
                      exact Bool.noConfusion ((Option.some.inj H).trans hr.out)
                  · rw [if_neg c30] at H
                    have c30b0 : (t124 == 100) = false := beq_eq_false_iff_ne.mpr c30
                    have c30b1 : (t124 != 100) = true := bne_iff_ne.mpr c30
                    exact Bool.noConfusion ((Option.some.inj H).trans hr.out)
                · rw [if_neg c28] at H
                  have c28b0 : (t123 == 0) = false := beq_eq_false_iff_ne.mpr c28
                  have c28b1 : (t123 != 0) = true := bne_iff_ne.mpr c28
                  exact Bool.noConfusion ((Option.some.inj H).trans hr.out)
              · rw [if_neg c26] at H
                have c26b0 : (t109.toList == t122.toList) = false := beq_eq_false_iff_ne.mpr c26
                have c26b1 : (t109.toList != t122.toList) = true := bne_iff_ne.mpr c26
                exact Bool.noConfusion ((Option.some.inj H).trans hr.out)
            · rw [if_neg c24] at H
              have c24b0 : (t121 == 0) = false := beq_eq_false_iff_ne.mpr c24
              have c24b1 : (t121 != 0) = true := bne_iff_ne.mpr c24
              exact Bool.noConfusion ((Option.some.inj H).trans hr.out)
          · rw [if_neg c22] at H
            have c22b0 : ((bt t107 63) == 255) = false := beq_eq_false_iff_ne.mpr c22
            have c22b1 : ((bt t107 63) != 255) = true := bne_iff_ne.mpr c22
            exact Bool.noConfusion ((Option.some.inj H).trans hr.out)
        · rw [if_neg c20] at H
          exact absurd H (by simp)

/-! ### cryostatlaw1_half: function 24 -/
def cryostatlaw1_half.f (a0 : ByteArray) : Option (ByteArray) := (cryostatlaw1_zeros.f 32).bind fun t128 => (if a0.size + t128.size ≤ 9223372036854775807 then (if 0 ≤ 32 then (if 32 ≤ ((a0 ++ t128).size : Int) then (some ((a0 ++ t128).extract 0 32)) else (none)) else (none)) else (none))
set_option maxHeartbeats 8000000 in
set_option maxRecDepth 100000 in
theorem cryostatlaw1_half.calls (a0 : ByteArray) (r : ByteArray) (w : World) (h : cryostatlaw1_half.f a0 = some r) :
    Calls Try.prog 24 #[.string a0] w fun e w' => e = .returned (.string r) ∧ Below w.heap.size w w' := by
  have HB := Aside0.mk (Below.refl w.heap.size w)
  have H : ((cryostatlaw1_zeros.f 32).bind fun t128 => (if a0.size + t128.size ≤ 9223372036854775807 then (if 0 ≤ 32 then (if 32 ≤ ((a0 ++ t128).size : Int) then (some ((a0 ++ t128).extract 0 32)) else (none)) else (none)) else (none))) = some r := h
  clear h
  replace H := Option.bind_eq_some_iff.mp H
  obtain ⟨t128, A20, H⟩ := H
  replace H : (if a0.size + t128.size ≤ 9223372036854775807 then (if 0 ≤ 32 then (if 32 ≤ ((a0 ++ t128).size : Int) then (some ((a0 ++ t128).extract 0 32)) else (none)) else (none)) else (none)) = some r := H
  have A2 := Aside0.mk A20
  clear A20
  by_cases c3 : a0.size + t128.size ≤ 9223372036854775807
  · rw [if_pos c3] at H
    have c3b0 := eq_true c3
    have c3b1 : decide (a0.size + t128.size ≤ 9223372036854775807) = true := decide_eq_true c3
    try have c3b2 : (9223372036854775807 < a0.size + t128.size) = False := eq_false (Nat.not_lt.2 c3)
    by_cases c4 : 0 ≤ 32
    · rw [if_pos c4] at H
      have c4b0 := eq_true c4
      have c4b1 : decide (0 ≤ 32) = true := decide_eq_true c4
      clear c4
      by_cases c5 : 32 ≤ ((a0 ++ t128).size : Int)
      · rw [if_pos c5] at H
        have c5b0 := eq_true c5
        have c5b1 : decide (32 ≤ ((a0 ++ t128).size : Int)) = true := decide_eq_true c5
        obtain rfl := Option.some.inj H
        go_enter Try.func24, Try.ntmps24
        go_wp2_with (first | ((with_reducible refine gate_callee (f := 25) rfl ?_); refine goesL_ (some 4) rfl rfl Try.func25 (by kernel_rfl) rfl #[.int .i64 32] rfl (by (try simp only [List.map_toArray, List.map_cons, List.map_nil]); first | done | rfl | (simp only [List.length_drop, List.length_take]; rfl)) ?_; (with_reducible refine (cryostatlaw1_zeros.calls 32 t128 _ A2.out).mono ?_); rintro e w6 ⟨rfl, hb⟩; refine ⟨_, rfl, ?_⟩; have n0_ := Aside0.mk (below_step (by repeat (first | (with_reducible first | exact HB.out | apply below_alloc | apply pw_below_drewN | apply below_drew1) | exact HB.out)) hb); clear HB; have HB := n0_; clear n0_; (try clear hb); (try clear hb2); (try clear hk); (try clear hi)))
        go_ret
        exact ⟨by first | rfl | (simp [errW_none, errW_some] <;> rfl) | (simp [*, errW_none, errW_some] <;> rfl), by repeat (first | (with_reducible first | exact HB.out | apply below_alloc | apply pw_below_drewN | apply below_drew1) | exact HB.out)⟩
      · rw [if_neg c5] at H
        exact absurd H (by simp)
    · rw [if_neg c4] at H
      exact absurd H (by simp)
  · rw [if_neg c3] at H
    exact absurd H (by simp)

end Go.Proofs.Ytpadejamelppfaa.PPairUnlike
