/- Contracts of the functions that the law cryostatlaw5.HeadForms reaches (printed for this claim by a tool of the kit, and pruned): each Go function's call comes to its Lean function's answer; those of the law package for the answer true alone. -/
-- printed by a program out of the translation, with contracts of this session's own for what the kit's print refuses
import Derived.Test.YtpadejamelppfaaPHeadFormsx0
import Derived.Test.YtpadejamelppfaaPHeadFormsx1
import Derived.Test.YtpadejamelppfaaPHeadFormsx2
import Derived.Test.YtpadejamelppfaaPHeadFormsx3
import Derived.Test.YtpadejamelppfaaOHeadFormsx4
namespace Go.Proofs.Ytpadejamelppfaa.PHeadForms
open Go.RowKit Go.Proofs.YtpadejamelppfaaW.PrintWords Go.Proofs.YtpadejamelppfaaW.PrintLast Go.Proofs.YtpadejamelppfaaW.PrintMore
attribute [local go_sem] max2_int min2_int max_two min_two max_three min_three max_four min_four   -- for this text's walks alone
set_option linter.unusedVariables false
set_option linter.unusedSimpArgs false

attribute [local go_sem high] eqA54
/-! ### cryostatlaw5_HeadForms: function 13 -/
def cryostatlaw5_HeadForms.j0 : Nat → Int → ByteArray → Int → ByteArray → Bool → Int → Int → Option (Bool)
  | 0, _, _, _, _, _, _, _ => none
  | k + 1, x0, x8, x9, x10, x64, x165000, x165001 => if x64 = true then (some false) else (if 0 ≤ 31 then (if 31 ≤ (x10.size : Int) then (if x10.size + 1 ≤ 9223372036854775807 then (if 4 ≤ (x10.size : Int) then (if 4 + (x10.extract 4 x10.size).size ≤ 9223372036854775807 then (if 0 ≤ 4 then (if (x10.extract 0 4).size + 1 ≤ 9223372036854775807 then (if 5 ≤ (x10.size : Int) then (if ((x10.extract 0 4) ++ (⟨#[128]⟩ : ByteArray)).size + (x10.extract 5 x10.size).size ≤ 9223372036854775807 then (if 0 ≤ 8 then (if 8 ≤ (x10.size : Int) then (if (x10.extract 0 8).size + 4 ≤ 9223372036854775807 then (if 12 ≤ (x10.size : Int) then (if ((x10.extract 0 8) ++ (⟨#[0, 0, 0, 0]⟩ : ByteArray)).size + (x10.extract 12 x10.size).size ≤ 9223372036854775807 then (if (x10.extract 0 31).size + 1 ≤ 9223372036854775807 then (if 0 ≤ 12 then (if (x10.extract 0 12).size + 1 ≤ 9223372036854775807 then (if 13 ≤ (x10.size : Int) then (if ((x10.extract 0 12) ++ (⟨#[1]⟩ : ByteArray)).size + (x10.extract 13 x10.size).size ≤ 9223372036854775807 then ((some (([(⟨#[]⟩ : ByteArray), x10.extract 0 31, x10 ++ (⟨#[120]⟩ : ByteArray), (⟨#[67, 114, 121, 111]⟩ : ByteArray) ++ (x10.extract 4 x10.size), ((x10.extract 0 4) ++ (⟨#[128]⟩ : ByteArray)) ++ (x10.extract 5 x10.size), ((x10.extract 0 8) ++ (⟨#[0, 0, 0, 0]⟩ : ByteArray)) ++ (x10.extract 12 x10.size), (x10.extract 0 31) ++ (⟨#[1]⟩ : ByteArray), ((x10.extract 0 12) ++ (⟨#[1]⟩ : ByteArray)) ++ (x10.extract 13 x10.size)] : List ByteArray) : List ByteArray)).bind fun y170 => (if 0 ≤ (wrap64 (Int.tmod (IntKind.u64.wrap (x0)) 8)) then (if (wrap64 (Int.tmod (IntKind.u64.wrap (x0)) 8)) < (y170.length : Int) then ((head_Get.f (rdOf ByteArray.empty y170 (wrap64 (Int.tmod (IntKind.u64.wrap (x0)) 8)))).bind fun bt174 => ((cryostatref1_PutPair.f x10).bind fun bt178 => (if bt178.1.size + 1 ≤ 9223372036854775807 then ((head_Best.f k x10 (bt178.1 ++ (⟨#[120]⟩ : ByteArray))).bind fun bt180 => ((head_Best.f k bt178.1 bt178.1).bind fun bt184 => ((head_May.f x165000 x165001).bind fun t188 => (if t188 = true then (some false) else (if x8.toList = ([] : List UInt8) then ((cryostatlaw0_Num.f x9).bind fun t189 => (if t189 = 500 then ((cryostatlaw0_Num.f bt174.2.2).bind fun t190 => (if t190 = 500 then ((cryostatlaw0_Num.f bt180.2.2).bind fun t191 => (if t191 = 501 then (if (bt184.1 == 3 && (bt184.2.1 == 4)) = true then ((cryostatlaw0_Num.f bt184.2.2).bind fun t192 => (some (t192 == 0))) else (some false)) else (some false))) else (some false))) else (some false))) else (some false)))))) else (none)))) else (none)) else (none))) else (none)) else (none)) else (none)) else (none)) else (none)) else (none)) else (none)) else (none)) else (none)) else (none)) else (none)) else (none)) else (none)) else (none)) else (none)) else (none)) else (none)) else (none)) else (none))
def cryostatlaw5_HeadForms.f (k : Nat) (a0 : Int) (a1 : Int) : Option (Bool) := (cryostatlaw5_awake.f k).bind fun t159 => (if t159 = true then ((some (([(⟨wrap64 (-(wrap64 (1 + (Go.bits .and .i64 a1 1023)))), 1⟩ : S54), (⟨wrap64 (2147483647 + (wrap64 (1 + (Go.bits .and .i64 a1 1023)))), 1⟩ : S54), (⟨0, wrap64 (-(wrap64 (1 + (Go.bits .and .i64 a1 1023))))⟩ : S54), (⟨0, wrap64 (2147483647 + (wrap64 (1 + (Go.bits .and .i64 a1 1023))))⟩ : S54), (⟨0, 0⟩ : S54)] : List (S54)) : List (S54))).bind fun y160 => (if 0 ≤ (wrap64 (Int.tmod (IntKind.u64.wrap (a0)) 5)) then (if (wrap64 (Int.tmod (IntKind.u64.wrap (a0)) 5)) < (y160.length : Int) then ((head_Put.f ((rd_T54 y160 (wrap64 (Int.tmod (IntKind.u64.wrap (a0)) 5))).f0) ((rd_T54 y160 (wrap64 (Int.tmod (IntKind.u64.wrap (a0)) 5))).f1)).bind fun bt165 => ((head_Put.f 3 4).bind fun bt167 => ((cryostatlaw0_Num.f bt167.2).bind fun t169 => (if t169 = 0 then (cryostatlaw5_HeadForms.j0 k a0 bt165.1 bt165.2 bt167.1 ((bt167.1.size : Int) != 32) ((rd_T54 y160 (wrap64 (Int.tmod (IntKind.u64.wrap (a0)) 5))).f0) ((rd_T54 y160 (wrap64 (Int.tmod (IntKind.u64.wrap (a0)) 5))).f1)) else (cryostatlaw5_HeadForms.j0 k a0 bt165.1 bt165.2 bt167.1 true ((rd_T54 y160 (wrap64 (Int.tmod (IntKind.u64.wrap (a0)) 5))).f0) ((rd_T54 y160 (wrap64 (Int.tmod (IntKind.u64.wrap (a0)) 5))).f1)))))) else (none)) else (none))) else (some false))
theorem cryostatlaw5_HeadForms.mono_l : ∀ k, (∀ y0 y1 y2 y3 y4 y5 y6, LeO (cryostatlaw5_HeadForms.j0 k y0 y1 y2 y3 y4 y5 y6) (cryostatlaw5_HeadForms.j0 (k + 1) y0 y1 y2 y3 y4 y5 y6))
  | 0 => fun _ _ _ _ _ _ _ r h => by simp [cryostatlaw5_HeadForms.j0] at h
  | k + 1 => by
    have ih0 := cryostatlaw5_HeadForms.mono_l k
    · intro y0 y1 y2 y3 y4 y5 y6
      unfold cryostatlaw5_HeadForms.j0
      repeat' first
      | (with_reducible exact ih0 _ _ _ _ _ _ _)
      | (with_reducible exact cryostatlaw5_awake.mono _)
      | (with_reducible exact head_Best.mono _ _ _)
      | (with_reducible exact LeO.refl _)
      | (with_reducible exact LeO.none _)
      | (with_reducible refine LeO.ite ?_ ?_)
      | (with_reducible refine LeO.bind ?_ (fun _ => ?_))
      | exact ih0 _ _ _ _ _ _ _
      | exact cryostatlaw5_awake.mono _
      | exact head_Best.mono _ _ _
      | exact LeO.none _
      | refine LeO.ite ?_ ?_
      | refine LeO.bind ?_ (fun _ => ?_)
theorem cryostatlaw5_HeadForms.mono : ∀ a0 a1 k, LeO (cryostatlaw5_HeadForms.f k a0 a1) (cryostatlaw5_HeadForms.f (k + 1) a0 a1) := by
  intro a0 a1 k
  have ih0 := cryostatlaw5_HeadForms.mono_l k
  unfold cryostatlaw5_HeadForms.f
  repeat' first
      | (with_reducible exact ih0 _ _ _ _ _ _ _)
      | (with_reducible exact cryostatlaw5_awake.mono _)
      | (with_reducible exact head_Best.mono _ _ _)
      | (with_reducible exact LeO.refl _)
      | (with_reducible exact LeO.none _)
      | (with_reducible refine LeO.ite ?_ ?_)
      | (with_reducible refine LeO.bind ?_ (fun _ => ?_))
      | exact ih0 _ _ _ _ _ _ _
      | exact cryostatlaw5_awake.mono _
      | exact head_Best.mono _ _ _
      | exact LeO.none _
      | refine LeO.ite ?_ ?_
      | refine LeO.bind ?_ (fun _ => ?_)
def cryostatlaw5_HeadForms.T10 : Bool × List (List Nat × List Nat) := (true, [([], []), ([0], [0]), ([], []), ([2], [2]), ([], []), ([4], [4]), ([5], [5]), ([], []), ([7], [7]), ([8], [8]), ([], []), ([10], [10]), ([9, 11], [9, 11]), ([], []), ([13], [13]), ([14], [14]), ([], []), ([16], [16]), ([15, 17], [15, 17]), ([], []), ([19], [19]), ([20], [20]), ([], []), ([22], [22]), ([23], [23]), ([], []), ([25], [25]), ([24, 26], [24, 26]), ([1, 3, 6, 12, 18, 21, 27], [1, 3, 6, 12, 18, 21, 27]), ([28, 0, 1, 2, 3, 4, 5, 6, 7, 8, 9, 10, 11, 12, 13, 14, 15, 16, 17, 18, 19, 20, 21, 22, 23, 24, 25, 26, 27, 28], [28])])
def cryostatlaw5_HeadForms.B10 : List Nat := [0, 1, 0, 4, 0, 16, 48, 0, 128, 384, 0, 1024, 3968, 0, 8192, 24576, 0, 65536, 253952, 0, 524288, 1572864, 0, 4194304, 12582912, 0, 33554432, 130023424, 268435455, 536870911]
theorem cryostatlaw5_HeadForms.tab10 : rtab .any (opsOf Try.f13 10) = cryostatlaw5_HeadForms.T10 := by kernel_rfl
theorem cryostatlaw5_HeadForms.bits10 : waitsOk cryostatlaw5_HeadForms.T10.2 cryostatlaw5_HeadForms.B10 = true := by kernel_rfl
set_option maxHeartbeats 8000000 in
set_option maxRecDepth 100000 in
theorem cryostatlaw5_HeadForms.calls (k : Nat) (a0 : Int) (a1 : Int) (r : Bool) (w : World) (hr : Aside0 (r = true)) (h : cryostatlaw5_HeadForms.f k a0 a1 = some r) :
    Calls Try.prog 13 #[.int .i64 a0, .int .i64 a1] w fun e w' => e = .returned (.bool r) ∧ Below w.heap.size w w' := by
  have hu54 := Try.underlying54
  have HB := Aside0.mk (Below.refl w.heap.size w)
  have H : ((cryostatlaw5_awake.f k).bind fun t159 => (if t159 = true then ((some (([(⟨wrap64 (-(wrap64 (1 + (Go.bits .and .i64 a1 1023)))), 1⟩ : S54), (⟨wrap64 (2147483647 + (wrap64 (1 + (Go.bits .and .i64 a1 1023)))), 1⟩ : S54), (⟨0, wrap64 (-(wrap64 (1 + (Go.bits .and .i64 a1 1023))))⟩ : S54), (⟨0, wrap64 (2147483647 + (wrap64 (1 + (Go.bits .and .i64 a1 1023))))⟩ : S54), (⟨0, 0⟩ : S54)] : List (S54)) : List (S54))).bind fun y160 => (if 0 ≤ (wrap64 (Int.tmod (IntKind.u64.wrap (a0)) 5)) then (if (wrap64 (Int.tmod (IntKind.u64.wrap (a0)) 5)) < (y160.length : Int) then ((head_Put.f ((rd_T54 y160 (wrap64 (Int.tmod (IntKind.u64.wrap (a0)) 5))).f0) ((rd_T54 y160 (wrap64 (Int.tmod (IntKind.u64.wrap (a0)) 5))).f1)).bind fun bt165 => ((head_Put.f 3 4).bind fun bt167 => ((cryostatlaw0_Num.f bt167.2).bind fun t169 => (if t169 = 0 then (cryostatlaw5_HeadForms.j0 k a0 bt165.1 bt165.2 bt167.1 ((bt167.1.size : Int) != 32) ((rd_T54 y160 (wrap64 (Int.tmod (IntKind.u64.wrap (a0)) 5))).f0) ((rd_T54 y160 (wrap64 (Int.tmod (IntKind.u64.wrap (a0)) 5))).f1)) else (cryostatlaw5_HeadForms.j0 k a0 bt165.1 bt165.2 bt167.1 true ((rd_T54 y160 (wrap64 (Int.tmod (IntKind.u64.wrap (a0)) 5))).f0) ((rd_T54 y160 (wrap64 (Int.tmod (IntKind.u64.wrap (a0)) 5))).f1)))))) else (none)) else (none))) else (some false))) = some r := h
  clear h
  replace H := Option.bind_eq_some_iff.mp H
  obtain ⟨t159, A30, H⟩ := H
  replace H : (if t159 = true then ((some (([(⟨wrap64 (-(wrap64 (1 + (Go.bits .and .i64 a1 1023)))), 1⟩ : S54), (⟨wrap64 (2147483647 + (wrap64 (1 + (Go.bits .and .i64 a1 1023)))), 1⟩ : S54), (⟨0, wrap64 (-(wrap64 (1 + (Go.bits .and .i64 a1 1023))))⟩ : S54), (⟨0, wrap64 (2147483647 + (wrap64 (1 + (Go.bits .and .i64 a1 1023))))⟩ : S54), (⟨0, 0⟩ : S54)] : List (S54)) : List (S54))).bind fun y160 => (if 0 ≤ (wrap64 (Int.tmod (IntKind.u64.wrap (a0)) 5)) then (if (wrap64 (Int.tmod (IntKind.u64.wrap (a0)) 5)) < (y160.length : Int) then ((head_Put.f ((rd_T54 y160 (wrap64 (Int.tmod (IntKind.u64.wrap (a0)) 5))).f0) ((rd_T54 y160 (wrap64 (Int.tmod (IntKind.u64.wrap (a0)) 5))).f1)).bind fun bt165 => ((head_Put.f 3 4).bind fun bt167 => ((cryostatlaw0_Num.f bt167.2).bind fun t169 => (if t169 = 0 then (cryostatlaw5_HeadForms.j0 k a0 bt165.1 bt165.2 bt167.1 ((bt167.1.size : Int) != 32) ((rd_T54 y160 (wrap64 (Int.tmod (IntKind.u64.wrap (a0)) 5))).f0) ((rd_T54 y160 (wrap64 (Int.tmod (IntKind.u64.wrap (a0)) 5))).f1)) else (cryostatlaw5_HeadForms.j0 k a0 bt165.1 bt165.2 bt167.1 true ((rd_T54 y160 (wrap64 (Int.tmod (IntKind.u64.wrap (a0)) 5))).f0) ((rd_T54 y160 (wrap64 (Int.tmod (IntKind.u64.wrap (a0)) 5))).f1)))))) else (none)) else (none))) else (some false)) = some r := H
  have A3 := Aside0.mk A30
  clear A30
  by_cases c4 : t159 = true
  · subst c4
    have H1 : ((some (([(⟨wrap64 (-(wrap64 (1 + (Go.bits .and .i64 a1 1023)))), 1⟩ : S54), (⟨wrap64 (2147483647 + (wrap64 (1 + (Go.bits .and .i64 a1 1023)))), 1⟩ : S54), (⟨0, wrap64 (-(wrap64 (1 + (Go.bits .and .i64 a1 1023))))⟩ : S54), (⟨0, wrap64 (2147483647 + (wrap64 (1 + (Go.bits .and .i64 a1 1023))))⟩ : S54), (⟨0, 0⟩ : S54)] : List (S54)) : List (S54))).bind fun y160 => (if 0 ≤ (wrap64 (Int.tmod (IntKind.u64.wrap (a0)) 5)) then (if (wrap64 (Int.tmod (IntKind.u64.wrap (a0)) 5)) < (y160.length : Int) then ((head_Put.f ((rd_T54 y160 (wrap64 (Int.tmod (IntKind.u64.wrap (a0)) 5))).f0) ((rd_T54 y160 (wrap64 (Int.tmod (IntKind.u64.wrap (a0)) 5))).f1)).bind fun bt165 => ((head_Put.f 3 4).bind fun bt167 => ((cryostatlaw0_Num.f bt167.2).bind fun t169 => (if t169 = 0 then (cryostatlaw5_HeadForms.j0 k a0 bt165.1 bt165.2 bt167.1 ((bt167.1.size : Int) != 32) ((rd_T54 y160 (wrap64 (Int.tmod (IntKind.u64.wrap (a0)) 5))).f0) ((rd_T54 y160 (wrap64 (Int.tmod (IntKind.u64.wrap (a0)) 5))).f1)) else (cryostatlaw5_HeadForms.j0 k a0 bt165.1 bt165.2 bt167.1 true ((rd_T54 y160 (wrap64 (Int.tmod (IntKind.u64.wrap (a0)) 5))).f0) ((rd_T54 y160 (wrap64 (Int.tmod (IntKind.u64.wrap (a0)) 5))).f1)))))) else (none)) else (none))) = some r := by rw [if_pos rfl] at H; exact H
    clear H
    have H := H1
    clear H1
    obtain ⟨y160, hy160⟩ : ∃ y_ : List (S54), y_ = (([(⟨wrap64 (-(wrap64 (1 + (Go.bits .and .i64 a1 1023)))), 1⟩ : S54), (⟨wrap64 (2147483647 + (wrap64 (1 + (Go.bits .and .i64 a1 1023)))), 1⟩ : S54), (⟨0, wrap64 (-(wrap64 (1 + (Go.bits .and .i64 a1 1023))))⟩ : S54), (⟨0, wrap64 (2147483647 + (wrap64 (1 + (Go.bits .and .i64 a1 1023))))⟩ : S54), (⟨0, 0⟩ : S54)] : List (S54))) := ⟨_, rfl⟩
    replace H : (if 0 ≤ (wrap64 (Int.tmod (IntKind.u64.wrap (a0)) 5)) then (if (wrap64 (Int.tmod (IntKind.u64.wrap (a0)) 5)) < (y160.length : Int) then ((head_Put.f ((rd_T54 y160 (wrap64 (Int.tmod (IntKind.u64.wrap (a0)) 5))).f0) ((rd_T54 y160 (wrap64 (Int.tmod (IntKind.u64.wrap (a0)) 5))).f1)).bind fun bt165 => ((head_Put.f 3 4).bind fun bt167 => ((cryostatlaw0_Num.f bt167.2).bind fun t169 => (if t169 = 0 then (cryostatlaw5_HeadForms.j0 k a0 bt165.1 bt165.2 bt167.1 ((bt167.1.size : Int) != 32) ((rd_T54 y160 (wrap64 (Int.tmod (IntKind.u64.wrap (a0)) 5))).f0) ((rd_T54 y160 (wrap64 (Int.tmod (IntKind.u64.wrap (a0)) 5))).f1)) else (cryostatlaw5_HeadForms.j0 k a0 bt165.1 bt165.2 bt167.1 true ((rd_T54 y160 (wrap64 (Int.tmod (IntKind.u64.wrap (a0)) 5))).f0) ((rd_T54 y160 (wrap64 (Int.tmod (IntKind.u64.wrap (a0)) 5))).f1)))))) else (none)) else (none)) = some r := by first | (rw [hy160]; with_reducible exact H) | (have H2_ := (Option.bind_some _ _).symm.trans H; rw [hy160]; with_reducible exact H2_) | (have H2_ := (Option.bind_some _ _).symm.trans H; with_reducible exact H2_) | with_reducible exact H | (rw [hy160]; exact H) | exact H
    have Ny160 := Aside0.mk hy160
    clear hy160
    obtain ⟨ji5, hji5⟩ : ∃ j_ : Int, (wrap64 (Int.tmod (IntKind.u64.wrap (a0)) 5)) = j_ := ⟨_, rfl⟩
    replace H : (if 0 ≤ (ji5) then (if (ji5) < (y160.length : Int) then ((head_Put.f ((rd_T54 y160 (ji5)).f0) ((rd_T54 y160 (ji5)).f1)).bind fun bt165 => ((head_Put.f 3 4).bind fun bt167 => ((cryostatlaw0_Num.f bt167.2).bind fun t169 => (if t169 = 0 then (cryostatlaw5_HeadForms.j0 k a0 bt165.1 bt165.2 bt167.1 ((bt167.1.size : Int) != 32) ((rd_T54 y160 (ji5)).f0) ((rd_T54 y160 (ji5)).f1)) else (cryostatlaw5_HeadForms.j0 k a0 bt165.1 bt165.2 bt167.1 true ((rd_T54 y160 (ji5)).f0) ((rd_T54 y160 (ji5)).f1)))))) else (none)) else (none)) = some r := by first | (rw [hji5] at H; exact H) | (simp only [hji5] at H ⊢; exact H)
    (try rw [hji5] at A3)
    have hji5w : (IntKind.i64.wrap (Int.tmod (IntKind.u64.wrap (a0)) 5)) = ji5 := (i64_w _).trans hji5
    by_cases c6 : 0 ≤ (ji5)
    · rw [if_pos c6] at H
      have c6b0 : decide (0 ≤ (ji5)) = true := decide_eq_true c6
      clear c6
      by_cases c7 : (ji5) < (y160.length : Int)
      · rw [if_pos c7] at H
        have c7b0 : decide ((ji5) < (y160.length : Int)) = true := decide_eq_true c7
        clear c7
        replace H := Option.bind_eq_some_iff.mp H
        obtain ⟨⟨t165, t166⟩, A80, H⟩ := H
        replace H : ((head_Put.f 3 4).bind fun bt167 => ((cryostatlaw0_Num.f bt167.2).bind fun t169 => (if t169 = 0 then (cryostatlaw5_HeadForms.j0 k a0 t165 t166 bt167.1 ((bt167.1.size : Int) != 32) ((rd_T54 y160 (ji5)).f0) ((rd_T54 y160 (ji5)).f1)) else (cryostatlaw5_HeadForms.j0 k a0 t165 t166 bt167.1 true ((rd_T54 y160 (ji5)).f0) ((rd_T54 y160 (ji5)).f1))))) = some r := H
        have A8 := Aside0.mk A80
        clear A80
        replace H := Option.bind_eq_some_iff.mp H
        obtain ⟨⟨t167, t168⟩, A90, H⟩ := H
        replace H : ((cryostatlaw0_Num.f t168).bind fun t169 => (if t169 = 0 then (cryostatlaw5_HeadForms.j0 k a0 t165 t166 t167 ((t167.size : Int) != 32) ((rd_T54 y160 (ji5)).f0) ((rd_T54 y160 (ji5)).f1)) else (cryostatlaw5_HeadForms.j0 k a0 t165 t166 t167 true ((rd_T54 y160 (ji5)).f0) ((rd_T54 y160 (ji5)).f1)))) = some r := H
        have A9 := Aside0.mk A90
        clear A90
        have HC10 := Aside0.mk H
        clear H
        go_enter Try.func13, Try.ntmps13
        go_upto_region 8 with (first | ((with_reducible refine gate_callee (f := 41) rfl ?_); refine goesL_ (some 21) rfl rfl Try.func41 (by kernel_rfl) rfl #[] rfl (by (try simp only [List.map_toArray, List.map_cons, List.map_nil]); first | done | rfl | (simp only [List.length_drop, List.length_take]; rfl)) ?_; (with_reducible refine (cryostatlaw5_awake.calls k  true _ ⟨rfl⟩ A3.out).mono ?_); rintro e w11 ⟨rfl, hb⟩; refine ⟨_, rfl, ?_⟩; have n0_ := Aside0.mk (below_step (by repeat (first | (with_reducible first | exact HB.out | apply below_alloc | apply pw_below_drewN | apply below_drew1) | exact HB.out)) hb); clear HB; have HB := n0_; clear n0_; (try clear hb); (try clear hb2); (try clear hk); (try clear hi)) | ((with_reducible refine gate_dst (N := 39) rfl ?_); (try (refine gate_guard (by rfl) ?_; dsimp only)); refine Kd.R_lit k54 _ 54 ?hg (N := 39) ?hd (xs := ([(⟨wrap64 (-(wrap64 (1 + (Go.bits .and .i64 a1 1023)))), 1⟩ : S54), (⟨wrap64 (2147483647 + (wrap64 (1 + (Go.bits .and .i64 a1 1023)))), 1⟩ : S54), (⟨0, wrap64 (-(wrap64 (1 + (Go.bits .and .i64 a1 1023))))⟩ : S54), (⟨0, wrap64 (2147483647 + (wrap64 (1 + (Go.bits .and .i64 a1 1023))))⟩ : S54), (⟨0, 0⟩ : S54)] : List (S54))) (inner := [.int .i64 (wrap64 (-(wrap64 (1 + (Go.bits .and .i64 a1 1023))))), .int .i64 1, .int .i64 (wrap64 (2147483647 + (wrap64 (1 + (Go.bits .and .i64 a1 1023))))), .int .i64 1, .int .i64 0, .int .i64 (wrap64 (-(wrap64 (1 + (Go.bits .and .i64 a1 1023))))), .int .i64 0, .int .i64 (wrap64 (2147483647 + (wrap64 (1 + (Go.bits .and .i64 a1 1023))))), .int .i64 0, .int .i64 0]) (ok := fun _ => True) (okp := fun _ => True) ?hr ?hp (fun _ hk => hk) trivial (Below.refl _ _) (Nat.le_refl _) (by simp) ?_; (case hd => rfl); (case hg => rfl); (case hr => first | (go_simp; done) | (go_simp; rfl)); (case hp => exact (Reps.c2 (show Kd.M k54 _ _ _ (⟨wrap64 (-(wrap64 (1 + (Go.bits .and .i64 a1 1023)))), 1⟩ : S54) [.int .i64 (wrap64 (-(wrap64 (1 + (Go.bits .and .i64 a1 1023))))), .int .i64 1] from (k54_mkM _ _ _ (⟨wrap64 (-(wrap64 (1 + (Go.bits .and .i64 a1 1023)))), 1⟩ : S54) )) (Reps.c2 (show Kd.M k54 _ _ _ (⟨wrap64 (2147483647 + (wrap64 (1 + (Go.bits .and .i64 a1 1023)))), 1⟩ : S54) [.int .i64 (wrap64 (2147483647 + (wrap64 (1 + (Go.bits .and .i64 a1 1023))))), .int .i64 1] from (k54_mkM _ _ _ (⟨wrap64 (2147483647 + (wrap64 (1 + (Go.bits .and .i64 a1 1023)))), 1⟩ : S54) )) (Reps.c2 (show Kd.M k54 _ _ _ (⟨0, wrap64 (-(wrap64 (1 + (Go.bits .and .i64 a1 1023))))⟩ : S54) [.int .i64 0, .int .i64 (wrap64 (-(wrap64 (1 + (Go.bits .and .i64 a1 1023)))))] from (k54_mkM _ _ _ (⟨0, wrap64 (-(wrap64 (1 + (Go.bits .and .i64 a1 1023))))⟩ : S54) )) (Reps.c2 (show Kd.M k54 _ _ _ (⟨0, wrap64 (2147483647 + (wrap64 (1 + (Go.bits .and .i64 a1 1023))))⟩ : S54) [.int .i64 0, .int .i64 (wrap64 (2147483647 + (wrap64 (1 + (Go.bits .and .i64 a1 1023)))))] from (k54_mkM _ _ _ (⟨0, wrap64 (2147483647 + (wrap64 (1 + (Go.bits .and .i64 a1 1023))))⟩ : S54) )) (Reps.c2 (show Kd.M k54 _ _ _ (⟨0, 0⟩ : S54) [.int .i64 0, .int .i64 0] from (k54_mkM _ _ _ (⟨0, 0⟩ : S54) )) (Reps.none _ _))))))); intro v161 w12 ho13 hb hg_ hnew_; clear hg_ hnew_; (first | rw [← Ny160.out] at ho13 | (simp only [Int.reduceToNat] at ho13; rw [← Ny160.out] at ho13)); have n0_ := Aside0.mk (Kd.R_lower ho13 (below_size (by repeat (first | (with_reducible first | exact HB.out | apply below_alloc | apply pw_below_drewN | apply below_drew1) | exact HB.out)))); have n1_ := Aside0.mk (below_step (by repeat (first | (with_reducible first | exact HB.out | apply below_alloc | apply pw_below_drewN | apply below_drew1) | exact HB.out)) hb); clear HB; have HO162 := n0_; have HB := n1_; clear n0_ n1_; clear hb ho13; obtain ⟨Ao14, co14, eo14⟩ := Kd.R_slice HO162.out; subst eo14; have p163 : 0 ≤ ((ji5) : Int) := of_decide_eq_true (by first | (with_reducible assumption) | assumption); have q163 : (ji5) < (y160.length : Int) := of_decide_eq_true (by first | (with_reducible assumption) | assumption); obtain ⟨ad163, e163, hx163_0, hx163_1⟩ := at_T54 (Kd.R_reads' HO162.out).2.2 (ji5) p163 q163; cases e163; replace p163 := eq_true p163; replace q163 := eq_true q163) | ((with_reducible refine gate_dst (N := 7) rfl ?_); (try (refine gate_guard (by rfl) ?_; dsimp only)); refine box_event ?hg (N := 7) ?hd (cs := #[.int .i64 0, .int .i64 0]) (t := 54) ?hr ?_; (case hd => rfl); (case hg => rfl); (case hr => first | (go_simp; done) | (go_simp; rfl)); intro gb164 hg w15 hbox hb; have n0_ := Aside0.mk (Kd.R_below (Kd.R_elderB (by (with_reducible repeat (first | apply Kd.R_alloc | apply Kd.R_drewN | apply Kd.R_drew)); exact HO162.out) gb164 (Nat.le_of_eq hg.symm)) hb); have n1_ := Aside0.mk (below_step (by repeat (first | (with_reducible first | exact HB.out | apply below_alloc | apply pw_below_drewN | apply below_drew1) | exact HB.out)) hb); have n2_ := Aside0.mk (hbox); have n3_ := Aside0.mk ((by rw [hg]; exact (below_size (by repeat (first | (with_reducible first | exact HB.out | apply below_alloc | apply pw_below_drewN | apply below_drew1) | exact HB.out))) : w.heap.size ≤ gb164)); have n4_ := Aside0.mk ((by rw [hg]; exact (below_size (by repeat (first | (with_reducible first | exact HB.out | apply below_alloc | apply pw_below_drewN | apply below_drew1) | exact HB.out))) : w.heap.size ≤ gb164)); clear HO162; clear HB; have HO162 := n0_; have HB := n1_; have BK164 := n2_; have GW164 := n3_; have GE164 := n4_; clear n0_ n1_ n2_ n3_ n4_; clear hb hbox hg; have hcz16_0 : w15.cell? ⟨gb164, 0, none⟩ = some (.int .i64 0) := (blk_cell BK164.out 0).trans rfl; have hcz16_1 : w15.cell? ⟨gb164, 1, none⟩ = some (.int .i64 0) := (blk_cell BK164.out 1).trans rfl; have hfz16_0 := blk_frozen BK164.out 0; have hfz16_1 := blk_frozen BK164.out 1) | ((with_reducible refine gate_callee (f := 33) rfl ?_); refine goesL_ (some 49) rfl rfl Try.func33 (by kernel_rfl) rfl #[.agg #[.int .i64 ((rd_T54 y160 (ji5)).f0), .int .i64 ((rd_T54 y160 (ji5)).f1)]] rfl (by (try simp only [List.map_toArray, List.map_cons, List.map_nil]); first | done | (simp only [hji5]; rfl) | rfl | (simp only [List.length_drop, List.length_take]; rfl)) ?_; (with_reducible refine (head_Put.calls ((rd_T54 y160 (ji5)).f0) ((rd_T54 y160 (ji5)).f1) t165 t166 _ A8.out).mono ?_); rintro e w17 ⟨rfl, hb⟩; refine ⟨_, rfl, ?_⟩; have n0_ := Aside0.mk (Kd.R_below (by (with_reducible repeat (first | apply Kd.R_alloc | apply Kd.R_drewN | apply Kd.R_drew)); exact (Kd.R_mono (Kd.R_far (p := ⟨gb164, 1, none⟩) (Kd.R_far (p := ⟨gb164, 0, none⟩) (Kd.R_mono HO162.out (fun k_ hk => (⟨hk, hk.2⟩ : _ ∧ k_ ≠ gb164))) (fun _ hk => hk.2) (.int .i64 ((rd_T54 y160 (ji5)).f0))) (fun _ hk => hk.2) (.int .i64 ((rd_T54 y160 (ji5)).f1))) (fun _ h_ => h_.1))) hb); have n1_ := Aside0.mk (blk_below (g := gb164) (o := .cells #[.int .i64 ((rd_T54 y160 (ji5)).f0), .int .i64 ((rd_T54 y160 (ji5)).f1)] 54 (0, 0)) (by (with_reducible repeat (first | refine blk_drewN ?_ _ | refine blk_drew ?_ | refine blk_alloc ?_ _)); refine blk_put (cs := #[.int .i64 ((rd_T54 y160 (ji5)).f0), .int .i64 0]) ?_ 1 _ rfl; (with_reducible repeat (first | refine blk_drewN ?_ _ | refine blk_drew ?_ | refine blk_alloc ?_ _)); refine blk_put (cs := #[.int .i64 0, .int .i64 0]) ?_ 0 _ rfl; (with_reducible repeat (first | refine blk_drewN ?_ _ | refine blk_drew ?_ | refine blk_alloc ?_ _)); exact BK164.out) hb); have n2_ := Aside0.mk (below_step (by repeat (first | (with_reducible first | exact HB.out | apply below_alloc | apply pw_below_drewN | apply below_drew1 | refine below_set ?_ GE164.out) | exact HB.out)) hb); clear HO162; clear BK164; clear HB; have HO162 := n0_; have BK164 := n1_; have HB := n2_; clear n0_ n1_ n2_; (try clear hb); (try clear hb2); (try clear hk); (try clear hi)) | ((with_reducible refine gate_callee (f := 33) rfl ?_); refine goesL_ (some 54) rfl rfl Try.func33 (by kernel_rfl) rfl #[.agg #[.int .i64 3, .int .i64 4]] rfl (by (try simp only [List.map_toArray, List.map_cons, List.map_nil]); first | done | rfl | (simp only [List.length_drop, List.length_take]; rfl)) ?_; (with_reducible refine (head_Put.calls 3 4 t167 t168 _ A9.out).mono ?_); rintro e w18 ⟨rfl, hb⟩; refine ⟨_, rfl, ?_⟩; have n0_ := Aside0.mk (Kd.R_below (by (with_reducible repeat (first | apply Kd.R_alloc | apply Kd.R_drewN | apply Kd.R_drew)); exact HO162.out) hb); have n1_ := Aside0.mk (blk_below (g := gb164) (o := .cells #[.int .i64 ((rd_T54 y160 (ji5)).f0), .int .i64 ((rd_T54 y160 (ji5)).f1)] 54 (0, 0)) (by (with_reducible repeat (first | refine blk_drewN ?_ _ | refine blk_drew ?_ | refine blk_alloc ?_ _)); exact BK164.out) hb); have n2_ := Aside0.mk (below_step (by repeat (first | (with_reducible first | exact HB.out | apply below_alloc | apply pw_below_drewN | apply below_drew1 | refine below_set ?_ GE164.out) | exact HB.out)) hb); clear HO162; clear BK164; clear HB; have HO162 := n0_; have BK164 := n1_; have HB := n2_; clear n0_ n1_ n2_; (try clear hb); (try clear hb2); (try clear hk); (try clear hi)))
        (try simp only [Act.put, List.setIfInBounds_toArray, List.set_cons_zero, List.set_cons_succ])
        go_cut [64] (fun v64 wc => ∃ (kq : Nat) (x64_9 : Bool), v64 = .bool x64_9 ∧ Aside0 (cryostatlaw5_HeadForms.j0 kq a0 t165 t166 t167 x64_9 ((rd_T54 y160 (ji5)).f0) ((rd_T54 y160 (ji5)).f1) = some r) ∧ Aside0 (kq ≤ k) ∧ Aside0 (wc.heap[gb164]? = some (.cells #[.int .i64 ((rd_T54 y160 (ji5)).f0), .int .i64 ((rd_T54 y160 (ji5)).f1)] 54 (0, 0))) ∧ Aside0 (Below w.heap.size w wc))
        case first =>
          have H := HC10.out
          clear HC10
          replace H := Option.bind_eq_some_iff.mp H
          obtain ⟨t169, A190, H⟩ := H
          replace H : (if t169 = 0 then (cryostatlaw5_HeadForms.j0 k a0 t165 t166 t167 ((t167.size : Int) != 32) ((rd_T54 y160 (ji5)).f0) ((rd_T54 y160 (ji5)).f1)) else (cryostatlaw5_HeadForms.j0 k a0 t165 t166 t167 true ((rd_T54 y160 (ji5)).f0) ((rd_T54 y160 (ji5)).f1))) = some r := H
          have A19 := Aside0.mk A190
          clear A190
          by_cases c20 : t169 = 0
          · rw [if_pos c20] at H
            have c20b0 : (t169 == 0) = true := beq_iff_eq.mpr c20
            have c20b1 : (t169 != 0) = false := bne_eq_false_iff_eq.mpr c20
            clear c20
            (first | rw [c20b0] | (simp only [i64_w, i32_w]; rw [c20b0]) | skip)
            have H' := Aside0.mk H
            clear H
            go_wp2_with (first | ((with_reducible refine gate_callee (f := 22) rfl ?_); refine goesL_ (some 58) rfl rfl Try.func22 (by kernel_rfl) rfl #[.int .i64 t168] rfl (by (try simp only [List.map_toArray, List.map_cons, List.map_nil]); first | done | rfl | (simp only [List.length_drop, List.length_take]; rfl)) ?_; (with_reducible refine (cryostatlaw0_Num.calls t168 t169 _ A19.out).mono ?_); rintro e w' ⟨rfl, ⟨nd, rfl⟩⟩; refine ⟨_, rfl, ?_⟩))
            go_meet
            case rel => exact ⟨_, (((t167.size : Int) != 32)), (by first | rfl | (simp; done) | (simp [*]; done)), H', ⟨by first | omega | exact Nat.le_refl _⟩, ⟨by (with_reducible repeat (first | refine blk_drewN ?_ _ | refine blk_drew ?_ | refine blk_alloc ?_ _)); exact BK164.out⟩, ⟨by repeat (first | (with_reducible first | exact HB.out | apply below_alloc | apply pw_below_drewN | apply below_drew1 | refine below_set ?_ GE164.out) | exact HB.out)⟩⟩
          · rw [if_neg c20] at H
            have c20b0 : (t169 == 0) = false := beq_eq_false_iff_ne.mpr c20
            have c20b1 : (t169 != 0) = true := bne_iff_ne.mpr c20
            (first | rw [c20b0] | (simp only [i64_w, i32_w]; rw [c20b0]) | skip)
            have H' := Aside0.mk H
            clear H
            go_wp2_with (first | ((with_reducible refine gate_callee (f := 22) rfl ?_); refine goesL_ (some 58) rfl rfl Try.func22 (by kernel_rfl) rfl #[.int .i64 t168] rfl (by (try simp only [List.map_toArray, List.map_cons, List.map_nil]); first | done | rfl | (simp only [List.length_drop, List.length_take]; rfl)) ?_; (with_reducible refine (cryostatlaw0_Num.calls t168 t169 _ A19.out).mono ?_); rintro e w' ⟨rfl, ⟨nd, rfl⟩⟩; refine ⟨_, rfl, ?_⟩))
            go_meet
            case rel => exact ⟨_, (true), (by first | rfl | (simp; done) | (simp [*]; done)), H', ⟨by first | omega | exact Nat.le_refl _⟩, ⟨by (with_reducible repeat (first | refine blk_drewN ?_ _ | refine blk_drew ?_ | refine blk_alloc ?_ _)); exact BK164.out⟩, ⟨by repeat (first | (with_reducible first | exact HB.out | apply below_alloc | apply pw_below_drewN | apply below_drew1 | refine below_set ?_ GE164.out) | exact HB.out)⟩⟩
        case rest =>
          clear HC10
          try clear c1
          try clear p1
          try clear q1
          try clear hx1
          try clear c2
          try clear p2
          try clear c3
          try clear c4
          try clear c6
          try clear c6b0
          try clear p6
          try clear c7
          try clear c7b0
          try clear c13
          try clear p16
          try clear q16
          try clear hx16
          try clear c20
          try clear c20b0
          try clear c20b1
          try clear hcz16_0
          try clear hcz16_1
          try clear hfz16_0
          try clear hfz16_1
          try clear hx163_0
          try clear hx163_1
          try clear p163
          try clear q163
          obtain ⟨kq, x64_9, rfl, HA, HJ9, BK164, HB⟩ := hcut
          cases kq with
          | zero => exact absurd HA.out (by simp [cryostatlaw5_HeadForms.j0])
          | succ kj9 =>
            have H := HA.out
            clear HA
            simp only [cryostatlaw5_HeadForms.j0] at H
            by_cases c21 : x64_9 = true
            · subst c21
              have H1 : (some false) = some r := by rw [if_pos rfl] at H; exact H
              clear H
              have H := H1
              clear H1
              exact Bool.noConfusion ((Option.some.inj H).trans hr.out)
            · replace c21 := Bool.eq_false_iff.mpr c21
              subst c21
              have H1 : (if 0 ≤ 31 then (if 31 ≤ (t167.size : Int) then (if t167.size + 1 ≤ 9223372036854775807 then (if 4 ≤ (t167.size : Int) then (if 4 + (t167.extract 4 t167.size).size ≤ 9223372036854775807 then (if 0 ≤ 4 then (if (t167.extract 0 4).size + 1 ≤ 9223372036854775807 then (if 5 ≤ (t167.size : Int) then (if ((t167.extract 0 4) ++ (⟨#[128]⟩ : ByteArray)).size + (t167.extract 5 t167.size).size ≤ 9223372036854775807 then (if 0 ≤ 8 then (if 8 ≤ (t167.size : Int) then (if (t167.extract 0 8).size + 4 ≤ 9223372036854775807 then (if 12 ≤ (t167.size : Int) then (if ((t167.extract 0 8) ++ (⟨#[0, 0, 0, 0]⟩ : ByteArray)).size + (t167.extract 12 t167.size).size ≤ 9223372036854775807 then (if (t167.extract 0 31).size + 1 ≤ 9223372036854775807 then (if 0 ≤ 12 then (if (t167.extract 0 12).size + 1 ≤ 9223372036854775807 then (if 13 ≤ (t167.size : Int) then (if ((t167.extract 0 12) ++ (⟨#[1]⟩ : ByteArray)).size + (t167.extract 13 t167.size).size ≤ 9223372036854775807 then ((some (([(⟨#[]⟩ : ByteArray), t167.extract 0 31, t167 ++ (⟨#[120]⟩ : ByteArray), (⟨#[67, 114, 121, 111]⟩ : ByteArray) ++ (t167.extract 4 t167.size), ((t167.extract 0 4) ++ (⟨#[128]⟩ : ByteArray)) ++ (t167.extract 5 t167.size), ((t167.extract 0 8) ++ (⟨#[0, 0, 0, 0]⟩ : ByteArray)) ++ (t167.extract 12 t167.size), (t167.extract 0 31) ++ (⟨#[1]⟩ : ByteArray), ((t167.extract 0 12) ++ (⟨#[1]⟩ : ByteArray)) ++ (t167.extract 13 t167.size)] : List ByteArray) : List ByteArray)).bind fun y170 => (if 0 ≤ (wrap64 (Int.tmod (IntKind.u64.wrap (a0)) 8)) then (if (wrap64 (Int.tmod (IntKind.u64.wrap (a0)) 8)) < (y170.length : Int) then ((head_Get.f (rdOf ByteArray.empty y170 (wrap64 (Int.tmod (IntKind.u64.wrap (a0)) 8)))).bind fun bt174 => ((cryostatref1_PutPair.f t167).bind fun bt178 => (if bt178.1.size + 1 ≤ 9223372036854775807 then ((head_Best.f kj9 t167 (bt178.1 ++ (⟨#[120]⟩ : ByteArray))).bind fun bt180 => ((head_Best.f kj9 bt178.1 bt178.1).bind fun bt184 => ((head_May.f ((rd_T54 y160 (ji5)).f0) ((rd_T54 y160 (ji5)).f1)).bind fun t188 => (if t188 = true then (some false) else (if t165.toList = ([] : List UInt8) then ((cryostatlaw0_Num.f t166).bind fun t189 => (if t189 = 500 then ((cryostatlaw0_Num.f bt174.2.2).bind fun t190 => (if t190 = 500 then ((cryostatlaw0_Num.f bt180.2.2).bind fun t191 => (if t191 = 501 then (if (bt184.1 == 3 && (bt184.2.1 == 4)) = true then ((cryostatlaw0_Num.f bt184.2.2).bind fun t192 => (some (t192 == 0))) else (some false)) else (some false))) else (some false))) else (some false))) else (some false)))))) else (none)))) else (none)) else (none))) else (none)) else (none)) else (none)) else (none)) else (none)) else (none)) else (none)) else (none)) else (none)) else (none)) else (none)) else (none)) else (none)) else (none)) else (none)) else (none)) else (none)) else (none)) else (none)) = some r := by rw [if_neg (show ¬ (false = true) by decide)] at H; exact H
              clear H
              have H := H1
              clear H1
              by_cases c22 : 0 ≤ 31
              · rw [if_pos c22] at H
                have c22b0 := eq_true c22
                have c22b1 : decide (0 ≤ 31) = true := decide_eq_true c22
                clear c22
                by_cases c23 : 31 ≤ (t167.size : Int)
                · rw [if_pos c23] at H
                  have c23b0 := eq_true c23
                  have c23b1 : decide (31 ≤ (t167.size : Int)) = true := decide_eq_true c23
                  clear c23
                  by_cases c24 : t167.size + 1 ≤ 9223372036854775807
                  · rw [if_pos c24] at H
                    have c24b0 := eq_true c24
                    have c24b1 : decide (t167.size + 1 ≤ 9223372036854775807) = true := decide_eq_true c24
                    try have c24b2 : (9223372036854775807 < t167.size + 1) = False := eq_false (Nat.not_lt.2 c24)
                    by_cases c25 : 4 ≤ (t167.size : Int)
                    · rw [if_pos c25] at H
                      have c25b0 := eq_true c25
                      have c25b1 : decide (4 ≤ (t167.size : Int)) = true := decide_eq_true c25
                      clear c25
                      by_cases c26 : 4 + (t167.extract 4 t167.size).size ≤ 9223372036854775807
                      · rw [if_pos c26] at H
                        have c26b0 := eq_true c26
                        have c26b1 : decide (4 + (t167.extract 4 t167.size).size ≤ 9223372036854775807) = true := decide_eq_true c26
                        try have c26b2 : (9223372036854775807 < 4 + (t167.extract 4 t167.size).size) = False := eq_false (Nat.not_lt.2 c26)
                        have c26b3 := c26
                        (try simp only [ByteArray.size_append, ByteArray.size_extract, Nat.min_self, Nat.sub_zero] at c26b3)
                        replace c26b3 := eq_false (Nat.not_lt.2 c26b3)
                        by_cases c27 : 0 ≤ 4
                        · rw [if_pos c27] at H
                          have c27b0 := eq_true c27
                          have c27b1 : decide (0 ≤ 4) = true := decide_eq_true c27
                          clear c27
                          have c28b0 := eq_true (of_decide_eq_true (by first | (with_reducible assumption) | assumption) : 4 ≤ (t167.size : Int))
                          by_cases c29 : (t167.extract 0 4).size + 1 ≤ 9223372036854775807
                          · rw [if_pos c29] at H
                            have c29b0 := eq_true c29
                            have c29b1 : decide ((t167.extract 0 4).size + 1 ≤ 9223372036854775807) = true := decide_eq_true c29
                            try have c29b2 : (9223372036854775807 < (t167.extract 0 4).size + 1) = False := eq_false (Nat.not_lt.2 c29)
                            have c29b3 := c29
                            (try simp only [ByteArray.size_append, ByteArray.size_extract, Nat.min_self, Nat.sub_zero] at c29b3)
                            replace c29b3 := eq_false (Nat.not_lt.2 c29b3)
                            by_cases c30 : 5 ≤ (t167.size : Int)
                            · rw [if_pos c30] at H
                              have c30b0 := eq_true c30
                              have c30b1 : decide (5 ≤ (t167.size : Int)) = true := decide_eq_true c30
                              clear c30
                              by_cases c31 : ((t167.extract 0 4) ++ (⟨#[128]⟩ : ByteArray)).size + (t167.extract 5 t167.size).size ≤ 9223372036854775807
                              · rw [if_pos c31] at H
                                have c31b0 := eq_true c31
                                have c31b1 : decide (((t167.extract 0 4) ++ (⟨#[128]⟩ : ByteArray)).size + (t167.extract 5 t167.size).size ≤ 9223372036854775807) = true := decide_eq_true c31
                                try have c31b2 : (9223372036854775807 < ((t167.extract 0 4) ++ (⟨#[128]⟩ : ByteArray)).size + (t167.extract 5 t167.size).size) = False := eq_false (Nat.not_lt.2 c31)
                                have c31b3 := c31
                                (try simp only [ByteArray.size_append, ByteArray.size_extract, Nat.min_self, Nat.sub_zero] at c31b3)
                                (try simp only [show (⟨#[128]⟩ : ByteArray).size = 1 from rfl] at c31b3)
                                replace c31b3 := eq_false (Nat.not_lt.2 c31b3)
                                by_cases c32 : 0 ≤ 8
                                · rw [if_pos c32] at H
                                  have c32b0 := eq_true c32
                                  have c32b1 : decide (0 ≤ 8) = true := decide_eq_true c32
                                  clear c32
                                  by_cases c33 : 8 ≤ (t167.size : Int)
                                  · rw [if_pos c33] at H
                                    have c33b0 := eq_true c33
                                    have c33b1 : decide (8 ≤ (t167.size : Int)) = true := decide_eq_true c33
                                    clear c33
                                    by_cases c34 : (t167.extract 0 8).size + 4 ≤ 9223372036854775807
                                    · rw [if_pos c34] at H
                                      have c34b0 := eq_true c34
                                      have c34b1 : decide ((t167.extract 0 8).size + 4 ≤ 9223372036854775807) = true := decide_eq_true c34
                                      try have c34b2 : (9223372036854775807 < (t167.extract 0 8).size + 4) = False := eq_false (Nat.not_lt.2 c34)
                                      have c34b3 := c34
                                      (try simp only [ByteArray.size_append, ByteArray.size_extract, Nat.min_self, Nat.sub_zero] at c34b3)
                                      replace c34b3 := eq_false (Nat.not_lt.2 c34b3)
                                      by_cases c35 : 12 ≤ (t167.size : Int)
                                      · rw [if_pos c35] at H
                                        have c35b0 := eq_true c35
                                        have c35b1 : decide (12 ≤ (t167.size : Int)) = true := decide_eq_true c35
                                        clear c35
                                        by_cases c36 : ((t167.extract 0 8) ++ (⟨#[0, 0, 0, 0]⟩ : ByteArray)).size + (t167.extract 12 t167.size).size ≤ 9223372036854775807
                                        · rw [if_pos c36] at H
                                          have c36b0 := eq_true c36
                                          have c36b1 : decide (((t167.extract 0 8) ++ (⟨#[0, 0, 0, 0]⟩ : ByteArray)).size + (t167.extract 12 t167.size).size ≤ 9223372036854775807) = true := decide_eq_true c36
                                          try have c36b2 : (9223372036854775807 < ((t167.extract 0 8) ++ (⟨#[0, 0, 0, 0]⟩ : ByteArray)).size + (t167.extract 12 t167.size).size) = False := eq_false (Nat.not_lt.2 c36)
                                          have c36b3 := c36
                                          (try simp only [ByteArray.size_append, ByteArray.size_extract, Nat.min_self, Nat.sub_zero] at c36b3)
                                          (try simp only [show (⟨#[0, 0, 0, 0]⟩ : ByteArray).size = 4 from rfl] at c36b3)
                                          replace c36b3 := eq_false (Nat.not_lt.2 c36b3)
                                          have c37b0 := eq_true (of_decide_eq_true (by first | (with_reducible assumption) | assumption) : 0 ≤ 31)
                                          have c38b0 := eq_true (of_decide_eq_true (by first | (with_reducible assumption) | assumption) : 31 ≤ (t167.size : Int))
                                          by_cases c39 : (t167.extract 0 31).size + 1 ≤ 9223372036854775807
                                          · rw [if_pos c39] at H
                                            have c39b0 := eq_true c39
                                            have c39b1 : decide ((t167.extract 0 31).size + 1 ≤ 9223372036854775807) = true := decide_eq_true c39
                                            try have c39b2 : (9223372036854775807 < (t167.extract 0 31).size + 1) = False := eq_false (Nat.not_lt.2 c39)
                                            have c39b3 := c39
                                            (try simp only [ByteArray.size_append, ByteArray.size_extract, Nat.min_self, Nat.sub_zero] at c39b3)
                                            replace c39b3 := eq_false (Nat.not_lt.2 c39b3)
                                            by_cases c40 : 0 ≤ 12
                                            · rw [if_pos c40] at H
                                              have c40b0 := eq_true c40
                                              have c40b1 : decide (0 ≤ 12) = true := decide_eq_true c40
                                              clear c40
                                              have c41b0 := eq_true (of_decide_eq_true (by first | (with_reducible assumption) | assumption) : 12 ≤ (t167.size : Int))
                                              by_cases c42 : (t167.extract 0 12).size + 1 ≤ 9223372036854775807
                                              · rw [if_pos c42] at H
                                                have c42b0 := eq_true c42
                                                have c42b1 : decide ((t167.extract 0 12).size + 1 ≤ 9223372036854775807) = true := decide_eq_true c42
                                                try have c42b2 : (9223372036854775807 < (t167.extract 0 12).size + 1) = False := eq_false (Nat.not_lt.2 c42)
                                                have c42b3 := c42
                                                (try simp only [ByteArray.size_append, ByteArray.size_extract, Nat.min_self, Nat.sub_zero] at c42b3)
                                                replace c42b3 := eq_false (Nat.not_lt.2 c42b3)
                                                by_cases c43 : 13 ≤ (t167.size : Int)
                                                · rw [if_pos c43] at H
                                                  have c43b0 := eq_true c43
                                                  have c43b1 : decide (13 ≤ (t167.size : Int)) = true := decide_eq_true c43
                                                  clear c43
                                                  by_cases c44 : ((t167.extract 0 12) ++ (⟨#[1]⟩ : ByteArray)).size + (t167.extract 13 t167.size).size ≤ 9223372036854775807
                                                  · rw [if_pos c44] at H
                                                    have c44b0 := eq_true c44
                                                    have c44b1 : decide (((t167.extract 0 12) ++ (⟨#[1]⟩ : ByteArray)).size + (t167.extract 13 t167.size).size ≤ 9223372036854775807) = true := decide_eq_true c44
                                                    try have c44b2 : (9223372036854775807 < ((t167.extract 0 12) ++ (⟨#[1]⟩ : ByteArray)).size + (t167.extract 13 t167.size).size) = False := eq_false (Nat.not_lt.2 c44)
                                                    have c44b3 := c44
                                                    (try simp only [ByteArray.size_append, ByteArray.size_extract, Nat.min_self, Nat.sub_zero] at c44b3)
                                                    (try simp only [show (⟨#[1]⟩ : ByteArray).size = 1 from rfl] at c44b3)
                                                    replace c44b3 := eq_false (Nat.not_lt.2 c44b3)
                                                    obtain ⟨y170, hy170⟩ : ∃ y_ : List ByteArray, y_ = (([(⟨#[]⟩ : ByteArray), t167.extract 0 31, t167 ++ (⟨#[120]⟩ : ByteArray), (⟨#[67, 114, 121, 111]⟩ : ByteArray) ++ (t167.extract 4 t167.size), ((t167.extract 0 4) ++ (⟨#[128]⟩ : ByteArray)) ++ (t167.extract 5 t167.size), ((t167.extract 0 8) ++ (⟨#[0, 0, 0, 0]⟩ : ByteArray)) ++ (t167.extract 12 t167.size), (t167.extract 0 31) ++ (⟨#[1]⟩ : ByteArray), ((t167.extract 0 12) ++ (⟨#[1]⟩ : ByteArray)) ++ (t167.extract 13 t167.size)] : List ByteArray)) := ⟨_, rfl⟩
                                                    replace H : (if 0 ≤ (wrap64 (Int.tmod (IntKind.u64.wrap (a0)) 8)) then (if (wrap64 (Int.tmod (IntKind.u64.wrap (a0)) 8)) < (y170.length : Int) then ((head_Get.f (rdOf ByteArray.empty y170 (wrap64 (Int.tmod (IntKind.u64.wrap (a0)) 8)))).bind fun bt174 => ((cryostatref1_PutPair.f t167).bind fun bt178 => (if bt178.1.size + 1 ≤ 9223372036854775807 then ((head_Best.f kj9 t167 (bt178.1 ++ (⟨#[120]⟩ : ByteArray))).bind fun bt180 => ((head_Best.f kj9 bt178.1 bt178.1).bind fun bt184 => ((head_May.f ((rd_T54 y160 (ji5)).f0) ((rd_T54 y160 (ji5)).f1)).bind fun t188 => (if t188 = true then (some false) else (if t165.toList = ([] : List UInt8) then ((cryostatlaw0_Num.f t166).bind fun t189 => (if t189 = 500 then ((cryostatlaw0_Num.f bt174.2.2).bind fun t190 => (if t190 = 500 then ((cryostatlaw0_Num.f bt180.2.2).bind fun t191 => (if t191 = 501 then (if (bt184.1 == 3 && (bt184.2.1 == 4)) = true then ((cryostatlaw0_Num.f bt184.2.2).bind fun t192 => (some (t192 == 0))) else (some false)) else (some false))) else (some false))) else (some false))) else (some false)))))) else (none)))) else (none)) else (none)) = some r := by first | (rw [hy170]; with_reducible exact H) | (have H2_ := (Option.bind_some _ _).symm.trans H; rw [hy170]; with_reducible exact H2_) | (have H2_ := (Option.bind_some _ _).symm.trans H; with_reducible exact H2_) | with_reducible exact H | (rw [hy170]; exact H) | exact H
                                                    have Ny170 := Aside0.mk hy170
                                                    clear hy170
                                                    obtain ⟨ji45, hji45⟩ : ∃ j_ : Int, (wrap64 (Int.tmod (IntKind.u64.wrap (a0)) 8)) = j_ := ⟨_, rfl⟩
                                                    replace H : (if 0 ≤ (ji45) then (if (ji45) < (y170.length : Int) then ((head_Get.f (rdOf ByteArray.empty y170 (ji45))).bind fun bt174 => ((cryostatref1_PutPair.f t167).bind fun bt178 => (if bt178.1.size + 1 ≤ 9223372036854775807 then ((head_Best.f kj9 t167 (bt178.1 ++ (⟨#[120]⟩ : ByteArray))).bind fun bt180 => ((head_Best.f kj9 bt178.1 bt178.1).bind fun bt184 => ((head_May.f ((rd_T54 y160 (ji5)).f0) ((rd_T54 y160 (ji5)).f1)).bind fun t188 => (if t188 = true then (some false) else (if t165.toList = ([] : List UInt8) then ((cryostatlaw0_Num.f t166).bind fun t189 => (if t189 = 500 then ((cryostatlaw0_Num.f bt174.2.2).bind fun t190 => (if t190 = 500 then ((cryostatlaw0_Num.f bt180.2.2).bind fun t191 => (if t191 = 501 then (if (bt184.1 == 3 && (bt184.2.1 == 4)) = true then ((cryostatlaw0_Num.f bt184.2.2).bind fun t192 => (some (t192 == 0))) else (some false)) else (some false))) else (some false))) else (some false))) else (some false)))))) else (none)))) else (none)) else (none)) = some r := by first | (rw [hji45] at H; exact H) | (simp only [hji45] at H ⊢; exact H)
                                                    have hji45w : (IntKind.i64.wrap (Int.tmod (IntKind.u64.wrap (a0)) 8)) = ji45 := (i64_w _).trans hji45
                                                    by_cases c46 : 0 ≤ (ji45)
                                                    · rw [if_pos c46] at H
                                                      have c46b0 : decide (0 ≤ (ji45)) = true := decide_eq_true c46
                                                      clear c46
                                                      by_cases c47 : (ji45) < (y170.length : Int)
                                                      · rw [if_pos c47] at H
                                                        have c47b0 : decide ((ji45) < (y170.length : Int)) = true := decide_eq_true c47
                                                        clear c47
                                                        replace H := Option.bind_eq_some_iff.mp H
                                                        obtain ⟨⟨t174, t175, t176⟩, A480, H⟩ := H
                                                        replace H : ((cryostatref1_PutPair.f t167).bind fun bt178 => (if bt178.1.size + 1 ≤ 9223372036854775807 then ((head_Best.f kj9 t167 (bt178.1 ++ (⟨#[120]⟩ : ByteArray))).bind fun bt180 => ((head_Best.f kj9 bt178.1 bt178.1).bind fun bt184 => ((head_May.f ((rd_T54 y160 (ji5)).f0) ((rd_T54 y160 (ji5)).f1)).bind fun t188 => (if t188 = true then (some false) else (if t165.toList = ([] : List UInt8) then ((cryostatlaw0_Num.f t166).bind fun t189 => (if t189 = 500 then ((cryostatlaw0_Num.f t176).bind fun t190 => (if t190 = 500 then ((cryostatlaw0_Num.f bt180.2.2).bind fun t191 => (if t191 = 501 then (if (bt184.1 == 3 && (bt184.2.1 == 4)) = true then ((cryostatlaw0_Num.f bt184.2.2).bind fun t192 => (some (t192 == 0))) else (some false)) else (some false))) else (some false))) else (some false))) else (some false)))))) else (none))) = some r := H
                                                        have A48 := Aside0.mk A480
                                                        clear A480
                                                        replace H := Option.bind_eq_some_iff.mp H
                                                        obtain ⟨⟨t178, t179⟩, A490, H⟩ := H
                                                        replace H : (if t178.size + 1 ≤ 9223372036854775807 then ((head_Best.f kj9 t167 (t178 ++ (⟨#[120]⟩ : ByteArray))).bind fun bt180 => ((head_Best.f kj9 t178 t178).bind fun bt184 => ((head_May.f ((rd_T54 y160 (ji5)).f0) ((rd_T54 y160 (ji5)).f1)).bind fun t188 => (if t188 = true then (some false) else (if t165.toList = ([] : List UInt8) then ((cryostatlaw0_Num.f t166).bind fun t189 => (if t189 = 500 then ((cryostatlaw0_Num.f t176).bind fun t190 => (if t190 = 500 then ((cryostatlaw0_Num.f bt180.2.2).bind fun t191 => (if t191 = 501 then (if (bt184.1 == 3 && (bt184.2.1 == 4)) = true then ((cryostatlaw0_Num.f bt184.2.2).bind fun t192 => (some (t192 == 0))) else (some false)) else (some false))) else (some false))) else (some false))) else (some false)))))) else (none)) = some r := H
                                                        have A49 := Aside0.mk A490
                                                        clear A490
                                                        by_cases c50 : t178.size + 1 ≤ 9223372036854775807
                                                        · rw [if_pos c50] at H
                                                          have c50b0 := eq_true c50
                                                          have c50b1 : decide (t178.size + 1 ≤ 9223372036854775807) = true := decide_eq_true c50
                                                          try have c50b2 : (9223372036854775807 < t178.size + 1) = False := eq_false (Nat.not_lt.2 c50)
                                                          replace H := Option.bind_eq_some_iff.mp H
                                                          obtain ⟨⟨t180, t181, t182⟩, A510, H⟩ := H
                                                          replace H : ((head_Best.f kj9 t178 t178).bind fun bt184 => ((head_May.f ((rd_T54 y160 (ji5)).f0) ((rd_T54 y160 (ji5)).f1)).bind fun t188 => (if t188 = true then (some false) else (if t165.toList = ([] : List UInt8) then ((cryostatlaw0_Num.f t166).bind fun t189 => (if t189 = 500 then ((cryostatlaw0_Num.f t176).bind fun t190 => (if t190 = 500 then ((cryostatlaw0_Num.f t182).bind fun t191 => (if t191 = 501 then (if (bt184.1 == 3 && (bt184.2.1 == 4)) = true then ((cryostatlaw0_Num.f bt184.2.2).bind fun t192 => (some (t192 == 0))) else (some false)) else (some false))) else (some false))) else (some false))) else (some false))))) = some r := H
                                                          have A51 := Aside0.mk A510
                                                          clear A510
                                                          replace H := Option.bind_eq_some_iff.mp H
                                                          obtain ⟨⟨t184, t185, t186⟩, A520, H⟩ := H
                                                          replace H : ((head_May.f ((rd_T54 y160 (ji5)).f0) ((rd_T54 y160 (ji5)).f1)).bind fun t188 => (if t188 = true then (some false) else (if t165.toList = ([] : List UInt8) then ((cryostatlaw0_Num.f t166).bind fun t189 => (if t189 = 500 then ((cryostatlaw0_Num.f t176).bind fun t190 => (if t190 = 500 then ((cryostatlaw0_Num.f t182).bind fun t191 => (if t191 = 501 then (if (t184 == 3 && (t185 == 4)) = true then ((cryostatlaw0_Num.f t186).bind fun t192 => (some (t192 == 0))) else (some false)) else (some false))) else (some false))) else (some false))) else (some false)))) = some r := H
                                                          have A52 := Aside0.mk A520
                                                          clear A520
                                                          replace H := Option.bind_eq_some_iff.mp H
                                                          obtain ⟨t188, A530, H⟩ := H
                                                          replace H : (if t188 = true then (some false) else (if t165.toList = ([] : List UInt8) then ((cryostatlaw0_Num.f t166).bind fun t189 => (if t189 = 500 then ((cryostatlaw0_Num.f t176).bind fun t190 => (if t190 = 500 then ((cryostatlaw0_Num.f t182).bind fun t191 => (if t191 = 501 then (if (t184 == 3 && (t185 == 4)) = true then ((cryostatlaw0_Num.f t186).bind fun t192 => (some (t192 == 0))) else (some false)) else (some false))) else (some false))) else (some false))) else (some false))) = some r := H
                                                          have A53 := Aside0.mk A530
                                                          clear A530
                                                          by_cases c54 : t188 = true
                                                          · subst c54
                                                            have H1 : (some false) = some r := by rw [if_pos rfl] at H; exact H
                                                            clear H
                                                            have H := H1
                                                            clear H1
                                                            exact Bool.noConfusion ((Option.some.inj H).trans hr.out)
                                                          · replace c54 := Bool.eq_false_iff.mpr c54
                                                            subst c54
                                                            have H1 : (if t165.toList = ([] : List UInt8) then ((cryostatlaw0_Num.f t166).bind fun t189 => (if t189 = 500 then ((cryostatlaw0_Num.f t176).bind fun t190 => (if t190 = 500 then ((cryostatlaw0_Num.f t182).bind fun t191 => (if t191 = 501 then (if (t184 == 3 && (t185 == 4)) = true then ((cryostatlaw0_Num.f t186).bind fun t192 => (some (t192 == 0))) else (some false)) else (some false))) else (some false))) else (some false))) else (some false)) = some r := by rw [if_neg (show ¬ (false = true) by decide)] at H; exact H
                                                            clear H
                                                            have H := H1
                                                            clear H1
                                                            by_cases c77 : t165.toList = ([] : List UInt8)
                                                            · rw [if_pos c77] at H
                                                              have c77b0 : (t165.toList == ([] : List UInt8)) = true := beq_iff_eq.mpr c77
                                                              have c77b1 : (t165.toList != ([] : List UInt8)) = false := bne_eq_false_iff_eq.mpr c77
                                                              clear c77
                                                              replace H := Option.bind_eq_some_iff.mp H
                                                              obtain ⟨t189, A780, H⟩ := H
                                                              replace H : (if t189 = 500 then ((cryostatlaw0_Num.f t176).bind fun t190 => (if t190 = 500 then ((cryostatlaw0_Num.f t182).bind fun t191 => (if t191 = 501 then (if (t184 == 3 && (t185 == 4)) = true then ((cryostatlaw0_Num.f t186).bind fun t192 => (some (t192 == 0))) else (some false)) else (some false))) else (some false))) else (some false)) = some r := H
                                                              have A78 := Aside0.mk A780
                                                              clear A780
                                                              by_cases c79 : t189 = 500
                                                              · rw [if_pos c79] at H
                                                                have c79b0 : (t189 == 500) = true := beq_iff_eq.mpr c79
                                                                have c79b1 : (t189 != 500) = false := bne_eq_false_iff_eq.mpr c79
                                                                clear c79
                                                                replace H := Option.bind_eq_some_iff.mp H
                                                                obtain ⟨t190, A800, H⟩ := H
                                                                replace H : (if t190 = 500 then ((cryostatlaw0_Num.f t182).bind fun t191 => (if t191 = 501 then (if (t184 == 3 && (t185 == 4)) = true then ((cryostatlaw0_Num.f t186).bind fun t192 => (some (t192 == 0))) else (some false)) else (some false))) else (some false)) = some r := H
                                                                have A80 := Aside0.mk A800
                                                                clear A800
                                                                by_cases c81 : t190 = 500
                                                                · rw [if_pos c81] at H
                                                                  have c81b0 : (t190 == 500) = true := beq_iff_eq.mpr c81
                                                                  have c81b1 : (t190 != 500) = false := bne_eq_false_iff_eq.mpr c81
                                                                  clear c81
                                                                  replace H := Option.bind_eq_some_iff.mp H
                                                                  obtain ⟨t191, A820, H⟩ := H
                                                                  replace H : (if t191 = 501 then (if (t184 == 3 && (t185 == 4)) = true then ((cryostatlaw0_Num.f t186).bind fun t192 => (some (t192 == 0))) else (some false)) else (some false)) = some r := H
                                                                  have A82 := Aside0.mk A820
                                                                  clear A820
                                                                  by_cases c83 : t191 = 501
                                                                  · rw [if_pos c83] at H
                                                                    have c83b0 : (t191 == 501) = true := beq_iff_eq.mpr c83
                                                                    have c83b1 : (t191 != 501) = false := bne_eq_false_iff_eq.mpr c83
                                                                    clear c83
                                                                    by_cases c84 : (t184 == 3 && (t185 == 4)) = true
                                                                    · rw [if_pos c84] at H
                                                                      have c84b0 : (t184 == 3 && (t185 == 4)) = true := c84
                                                                      (try (have c84b1 : decide (t184 = 3 && (t185 == 4)) = true := by simpa using c84))
                                                                      (try (have c84b2 : (t184 == 3 && (t185 == 4)) = true := by simpa using c84))
                                                                      clear c84
                                                                      have qq := c84b0
                                                                      simp only [Bool.and_eq_true, beq_iff_eq] at qq
                                                                      obtain ⟨q0, q1⟩ := qq
                                                                      replace q0 : t184 = (3 : Int) := q0
                                                                      replace q1 : t185 = (4 : Int) := q1
                                                                      subst q0 q1
                                                                      clear c84b0; (try clear c84b1); (try clear c84b2)
                                                                      replace H := Option.bind_eq_some_iff.mp H
                                                                      obtain ⟨t192, A850, H⟩ := H
                                                                      replace H : (some (t192 == 0)) = some r := H
                                                                      have A85 := Aside0.mk A850
                                                                      clear A850
                                                                      obtain rfl := Option.some.inj H
                                                                      try go_wp2
                                                                      have n0_ := Aside0.mk (blk_drew BK164.out)
                                                                      have n1_ := Aside0.mk (below_drew1 HB.out)
                                                                      clear BK164
                                                                      clear HB
                                                                      have BK164 := n0_
                                                                      have HB := n1_
                                                                      clear n0_ n1_
                                                                      refine start_ (n := 30) (S := fun w' => True) (ds := []) #[false, false, false, false, false, false, false, false, false, false, false, false, false, false, false, false, false, false, false, false, false, false, false, false, false, false, false, false, false, false] (by kernel_rfl) rfl rfl trivial (fun hHeld => ?_); refine with_tabW cryostatlaw5_HeadForms.tab10 cryostatlaw5_HeadForms.bits10 (fun HT_ HW_ => ?_)
                                                                      generalize wc.drew = w86 at BK164 HB hHeld ⊢
                                                                      refine pure_ (i := 0) (N := some 65) (v := ?_) (a' := ?_) #[true, false, false, false, false, false, false, false, false, false, false, false, false, false, false, false, false, false, false, false, false, false, false, false, false, false, false, false, false, false] rfl rfl (any_of HT_.out (by kernel_rfl)) (fun _ _ _ h => h) (Or.inl ⟨by rfl, ?_⟩) ?_ ?_
                                                                      rotate_left
                                                                      · intro w'
                                                                        go_simp
                                                                        with_reducible rfl
                                                                      rotate_left
                                                                      · simp only [Act.put, List.setIfInBounds_toArray, List.set_cons_zero, List.set_cons_succ, i64_w, i32_w]
                                                                        rfl
                                                                      refine pure_ (i := 1) (N := some 66) (v := ?_) (a' := ?_) #[true, true, false, false, false, false, false, false, false, false, false, false, false, false, false, false, false, false, false, false, false, false, false, false, false, false, false, false, false, false] rfl rfl (any_of HT_.out (by kernel_rfl)) (fun _ _ _ h => h) (Or.inl ⟨by rfl, ?_⟩) ?_ ?_
                                                                      rotate_left
                                                                      · intro w'
                                                                        go_simp
                                                                        with_reducible rfl
                                                                      rotate_left
                                                                      · simp only [Act.put, List.setIfInBounds_toArray, List.set_cons_zero, List.set_cons_succ, i64_w, i32_w]
                                                                        rfl
                                                                      refine pure_ (i := 2) (N := some 67) (v := ?_) (a' := ?_) #[true, true, true, false, false, false, false, false, false, false, false, false, false, false, false, false, false, false, false, false, false, false, false, false, false, false, false, false, false, false] rfl rfl (any_of HT_.out (by kernel_rfl)) (fun _ _ _ h => h) (Or.inl ⟨by rfl, ?_⟩) ?_ ?_
                                                                      rotate_left
                                                                      · intro w'
                                                                        go_simp
                                                                        with_reducible rfl
                                                                      rotate_left
                                                                      · simp only [Act.put, List.setIfInBounds_toArray, List.set_cons_zero, List.set_cons_succ, i64_w, i32_w]
                                                                        rfl
                                                                      refine pure_ (i := 3) (N := some 68) (v := ?_) (a' := ?_) #[true, true, true, true, false, false, false, false, false, false, false, false, false, false, false, false, false, false, false, false, false, false, false, false, false, false, false, false, false, false] rfl rfl (any_of HT_.out (by kernel_rfl)) (fun _ _ _ h => h) (Or.inl ⟨by rfl, ?_⟩) ?_ ?_
                                                                      rotate_left
                                                                      · intro w'
                                                                        go_simp
                                                                        with_reducible rfl
                                                                      rotate_left
                                                                      · simp only [Act.put, List.setIfInBounds_toArray, List.set_cons_zero, List.set_cons_succ, i64_w, i32_w]
                                                                        rfl
                                                                      refine pure_ (i := 4) (N := some 69) (v := ?_) (a' := ?_) #[true, true, true, true, true, false, false, false, false, false, false, false, false, false, false, false, false, false, false, false, false, false, false, false, false, false, false, false, false, false] rfl rfl (any_of HT_.out (by kernel_rfl)) (fun _ _ _ h => h) (Or.inl ⟨by rfl, ?_⟩) ?_ ?_
                                                                      rotate_left
                                                                      · intro w'
                                                                        go_simp
                                                                        with_reducible rfl
                                                                      rotate_left
                                                                      · simp only [Act.put, List.setIfInBounds_toArray, List.set_cons_zero, List.set_cons_succ, i64_w, i32_w]
                                                                        rfl
                                                                      refine pure_ (i := 5) (N := some 70) (v := ?_) (a' := ?_) #[true, true, true, true, true, true, false, false, false, false, false, false, false, false, false, false, false, false, false, false, false, false, false, false, false, false, false, false, false, false] rfl rfl (any_of HT_.out (by kernel_rfl)) (fun _ _ _ h => h) (Or.inl ⟨by rfl, ?_⟩) ?_ ?_
                                                                      rotate_left
                                                                      · intro w'
                                                                        go_simp
                                                                        with_reducible rfl
                                                                      rotate_left
                                                                      · simp only [Act.put, List.setIfInBounds_toArray, List.set_cons_zero, List.set_cons_succ, i64_w, i32_w]
                                                                        rfl
                                                                      refine pure_ (i := 6) (N := some 71) (v := ?_) (a' := ?_) #[true, true, true, true, true, true, true, false, false, false, false, false, false, false, false, false, false, false, false, false, false, false, false, false, false, false, false, false, false, false] rfl rfl (any_of HT_.out (by kernel_rfl)) (fun _ _ _ h => h) (Or.inl ⟨by rfl, ?_⟩) ?_ ?_
                                                                      rotate_left
                                                                      · intro w'
                                                                        go_simp
                                                                        with_reducible rfl
                                                                      rotate_left
                                                                      · simp only [Act.put, List.setIfInBounds_toArray, List.set_cons_zero, List.set_cons_succ, i64_w, i32_w]
                                                                        rfl
                                                                      refine pure_ (i := 7) (N := some 72) (v := ?_) (a' := ?_) #[true, true, true, true, true, true, true, true, false, false, false, false, false, false, false, false, false, false, false, false, false, false, false, false, false, false, false, false, false, false] rfl rfl (any_of HT_.out (by kernel_rfl)) (fun _ _ _ h => h) (Or.inl ⟨by rfl, ?_⟩) ?_ ?_
                                                                      rotate_left
                                                                      · intro w'
                                                                        go_simp
                                                                        with_reducible rfl
                                                                      rotate_left
                                                                      · simp only [Act.put, List.setIfInBounds_toArray, List.set_cons_zero, List.set_cons_succ, i64_w, i32_w]
                                                                        rfl
                                                                      refine pure_ (i := 8) (N := some 73) (v := ?_) (a' := ?_) #[true, true, true, true, true, true, true, true, true, false, false, false, false, false, false, false, false, false, false, false, false, false, false, false, false, false, false, false, false, false] rfl rfl (any_of HT_.out (by kernel_rfl)) (fun _ _ _ h => h) (Or.inl ⟨by rfl, ?_⟩) ?_ ?_
                                                                      rotate_left
                                                                      · intro w'
                                                                        go_simp
                                                                        with_reducible rfl
                                                                      rotate_left
                                                                      · simp only [Act.put, List.setIfInBounds_toArray, List.set_cons_zero, List.set_cons_succ, i64_w, i32_w]
                                                                        rfl
                                                                      refine pure_ (i := 9) (N := some 74) (v := ?_) (a' := ?_) #[true, true, true, true, true, true, true, true, true, true, false, false, false, false, false, false, false, false, false, false, false, false, false, false, false, false, false, false, false, false] rfl rfl (any_of HT_.out (by kernel_rfl)) (fun _ _ _ h => h) (Or.inl ⟨by rfl, ?_⟩) ?_ ?_
                                                                      rotate_left
                                                                      · intro w'
                                                                        go_simp
                                                                        with_reducible rfl
                                                                      rotate_left
                                                                      · simp only [Act.put, List.setIfInBounds_toArray, List.set_cons_zero, List.set_cons_succ, i64_w, i32_w]
                                                                        rfl
                                                                      refine pure_ (i := 10) (N := some 75) (v := ?_) (a' := ?_) #[true, true, true, true, true, true, true, true, true, true, true, false, false, false, false, false, false, false, false, false, false, false, false, false, false, false, false, false, false, false] rfl rfl (any_of HT_.out (by kernel_rfl)) (fun _ _ _ h => h) (Or.inl ⟨by rfl, ?_⟩) ?_ ?_
                                                                      rotate_left
                                                                      · intro w'
                                                                        go_simp
                                                                        with_reducible rfl
                                                                      rotate_left
                                                                      · simp only [Act.put, List.setIfInBounds_toArray, List.set_cons_zero, List.set_cons_succ, i64_w, i32_w]
                                                                        rfl
                                                                      refine pure_ (i := 11) (N := some 76) (v := ?_) (a' := ?_) #[true, true, true, true, true, true, true, true, true, true, true, true, false, false, false, false, false, false, false, false, false, false, false, false, false, false, false, false, false, false] rfl rfl (any_of HT_.out (by kernel_rfl)) (fun _ _ _ h => h) (Or.inl ⟨by rfl, ?_⟩) ?_ ?_
                                                                      rotate_left
                                                                      · intro w'
                                                                        go_simp
                                                                        with_reducible rfl
                                                                      rotate_left
                                                                      · simp only [Act.put, List.setIfInBounds_toArray, List.set_cons_zero, List.set_cons_succ, i64_w, i32_w]
                                                                        rfl
                                                                      refine pure_ (i := 12) (N := some 77) (v := ?_) (a' := ?_) #[true, true, true, true, true, true, true, true, true, true, true, true, true, false, false, false, false, false, false, false, false, false, false, false, false, false, false, false, false, false] rfl rfl (any_of HT_.out (by kernel_rfl)) (fun _ _ _ h => h) (Or.inl ⟨by rfl, ?_⟩) ?_ ?_
                                                                      rotate_left
                                                                      · intro w'
                                                                        go_simp
                                                                        with_reducible rfl
                                                                      rotate_left
                                                                      · simp only [Act.put, List.setIfInBounds_toArray, List.set_cons_zero, List.set_cons_succ, i64_w, i32_w]
                                                                        rfl
                                                                      refine pure_ (i := 13) (N := some 78) (v := ?_) (a' := ?_) #[true, true, true, true, true, true, true, true, true, true, true, true, true, true, false, false, false, false, false, false, false, false, false, false, false, false, false, false, false, false] rfl rfl (any_of HT_.out (by kernel_rfl)) (fun _ _ _ h => h) (Or.inl ⟨by rfl, ?_⟩) ?_ ?_
                                                                      rotate_left
                                                                      · intro w'
                                                                        go_simp
                                                                        with_reducible rfl
                                                                      rotate_left
                                                                      · simp only [Act.put, List.setIfInBounds_toArray, List.set_cons_zero, List.set_cons_succ, i64_w, i32_w]
                                                                        rfl
                                                                      refine pure_ (i := 14) (N := some 79) (v := ?_) (a' := ?_) #[true, true, true, true, true, true, true, true, true, true, true, true, true, true, true, false, false, false, false, false, false, false, false, false, false, false, false, false, false, false] rfl rfl (any_of HT_.out (by kernel_rfl)) (fun _ _ _ h => h) (Or.inl ⟨by rfl, ?_⟩) ?_ ?_
                                                                      rotate_left
                                                                      · intro w'
                                                                        go_simp
                                                                        with_reducible rfl
                                                                      rotate_left
                                                                      · simp only [Act.put, List.setIfInBounds_toArray, List.set_cons_zero, List.set_cons_succ, i64_w, i32_w]
                                                                        rfl
                                                                      refine pure_ (i := 15) (N := some 80) (v := ?_) (a' := ?_) #[true, true, true, true, true, true, true, true, true, true, true, true, true, true, true, true, false, false, false, false, false, false, false, false, false, false, false, false, false, false] rfl rfl (any_of HT_.out (by kernel_rfl)) (fun _ _ _ h => h) (Or.inl ⟨by rfl, ?_⟩) ?_ ?_
                                                                      rotate_left
                                                                      · intro w'
                                                                        go_simp
                                                                        with_reducible rfl
                                                                      rotate_left
                                                                      · simp only [Act.put, List.setIfInBounds_toArray, List.set_cons_zero, List.set_cons_succ, i64_w, i32_w]
                                                                        rfl
                                                                      refine pure_ (i := 16) (N := some 81) (v := ?_) (a' := ?_) #[true, true, true, true, true, true, true, true, true, true, true, true, true, true, true, true, true, false, false, false, false, false, false, false, false, false, false, false, false, false] rfl rfl (any_of HT_.out (by kernel_rfl)) (fun _ _ _ h => h) (Or.inl ⟨by rfl, ?_⟩) ?_ ?_
                                                                      rotate_left
                                                                      · intro w'
                                                                        go_simp
                                                                        with_reducible rfl
                                                                      rotate_left
                                                                      · simp only [Act.put, List.setIfInBounds_toArray, List.set_cons_zero, List.set_cons_succ, i64_w, i32_w]
                                                                        rfl
                                                                      refine pure_ (i := 17) (N := some 82) (v := ?_) (a' := ?_) #[true, true, true, true, true, true, true, true, true, true, true, true, true, true, true, true, true, true, false, false, false, false, false, false, false, false, false, false, false, false] rfl rfl (any_of HT_.out (by kernel_rfl)) (fun _ _ _ h => h) (Or.inl ⟨by rfl, ?_⟩) ?_ ?_
                                                                      rotate_left
                                                                      · intro w'
                                                                        go_simp
                                                                        with_reducible rfl
                                                                      rotate_left
                                                                      · simp only [Act.put, List.setIfInBounds_toArray, List.set_cons_zero, List.set_cons_succ, i64_w, i32_w]
                                                                        rfl
                                                                      refine pure_ (i := 18) (N := some 83) (v := ?_) (a' := ?_) #[true, true, true, true, true, true, true, true, true, true, true, true, true, true, true, true, true, true, true, false, false, false, false, false, false, false, false, false, false, false] rfl rfl (any_of HT_.out (by kernel_rfl)) (fun _ _ _ h => h) (Or.inl ⟨by rfl, ?_⟩) ?_ ?_
                                                                      rotate_left
                                                                      · intro w'
                                                                        go_simp
                                                                        with_reducible rfl
                                                                      rotate_left
                                                                      · simp only [Act.put, List.setIfInBounds_toArray, List.set_cons_zero, List.set_cons_succ, i64_w, i32_w]
                                                                        rfl
                                                                      refine pure_ (i := 19) (N := some 84) (v := ?_) (a' := ?_) #[true, true, true, true, true, true, true, true, true, true, true, true, true, true, true, true, true, true, true, true, false, false, false, false, false, false, false, false, false, false] rfl rfl (any_of HT_.out (by kernel_rfl)) (fun _ _ _ h => h) (Or.inl ⟨by rfl, ?_⟩) ?_ ?_
                                                                      rotate_left
                                                                      · intro w'
                                                                        go_simp
                                                                        with_reducible rfl
                                                                      rotate_left
                                                                      · simp only [Act.put, List.setIfInBounds_toArray, List.set_cons_zero, List.set_cons_succ, i64_w, i32_w]
                                                                        rfl
                                                                      refine pure_ (i := 20) (N := some 85) (v := ?_) (a' := ?_) #[true, true, true, true, true, true, true, true, true, true, true, true, true, true, true, true, true, true, true, true, true, false, false, false, false, false, false, false, false, false] rfl rfl (any_of HT_.out (by kernel_rfl)) (fun _ _ _ h => h) (Or.inl ⟨by rfl, ?_⟩) ?_ ?_
                                                                      rotate_left
                                                                      · intro w'
                                                                        go_simp
                                                                        with_reducible rfl
                                                                      rotate_left
                                                                      · simp only [Act.put, List.setIfInBounds_toArray, List.set_cons_zero, List.set_cons_succ, i64_w, i32_w]
                                                                        rfl
                                                                      refine pure_ (i := 21) (N := some 86) (v := ?_) (a' := ?_) #[true, true, true, true, true, true, true, true, true, true, true, true, true, true, true, true, true, true, true, true, true, true, false, false, false, false, false, false, false, false] rfl rfl (any_of HT_.out (by kernel_rfl)) (fun _ _ _ h => h) (Or.inl ⟨by rfl, ?_⟩) ?_ ?_
                                                                      rotate_left
                                                                      · intro w'
                                                                        go_simp
                                                                        with_reducible rfl
                                                                      rotate_left
                                                                      · simp only [Act.put, List.setIfInBounds_toArray, List.set_cons_zero, List.set_cons_succ, i64_w, i32_w]
                                                                        rfl
                                                                      refine pure_ (i := 22) (N := some 87) (v := ?_) (a' := ?_) #[true, true, true, true, true, true, true, true, true, true, true, true, true, true, true, true, true, true, true, true, true, true, true, false, false, false, false, false, false, false] rfl rfl (any_of HT_.out (by kernel_rfl)) (fun _ _ _ h => h) (Or.inl ⟨by rfl, ?_⟩) ?_ ?_
                                                                      rotate_left
                                                                      · intro w'
                                                                        go_simp
                                                                        with_reducible rfl
                                                                      rotate_left
                                                                      · simp only [Act.put, List.setIfInBounds_toArray, List.set_cons_zero, List.set_cons_succ, i64_w, i32_w]
                                                                        rfl
                                                                      refine pure_ (i := 23) (N := some 88) (v := ?_) (a' := ?_) #[true, true, true, true, true, true, true, true, true, true, true, true, true, true, true, true, true, true, true, true, true, true, true, true, false, false, false, false, false, false] rfl rfl (any_of HT_.out (by kernel_rfl)) (fun _ _ _ h => h) (Or.inl ⟨by rfl, ?_⟩) ?_ ?_
                                                                      rotate_left
                                                                      · intro w'
                                                                        go_simp
                                                                        with_reducible rfl
                                                                      rotate_left
                                                                      · simp only [Act.put, List.setIfInBounds_toArray, List.set_cons_zero, List.set_cons_succ, i64_w, i32_w]
                                                                        rfl
                                                                      refine pure_ (i := 24) (N := some 89) (v := ?_) (a' := ?_) #[true, true, true, true, true, true, true, true, true, true, true, true, true, true, true, true, true, true, true, true, true, true, true, true, true, false, false, false, false, false] rfl rfl (any_of HT_.out (by kernel_rfl)) (fun _ _ _ h => h) (Or.inl ⟨by rfl, ?_⟩) ?_ ?_
                                                                      rotate_left
                                                                      · intro w'
                                                                        go_simp
                                                                        with_reducible rfl
                                                                      rotate_left
                                                                      · simp only [Act.put, List.setIfInBounds_toArray, List.set_cons_zero, List.set_cons_succ, i64_w, i32_w]
                                                                        rfl
                                                                      refine pure_ (i := 25) (N := some 90) (v := ?_) (a' := ?_) #[true, true, true, true, true, true, true, true, true, true, true, true, true, true, true, true, true, true, true, true, true, true, true, true, true, true, false, false, false, false] rfl rfl (any_of HT_.out (by kernel_rfl)) (fun _ _ _ h => h) (Or.inl ⟨by rfl, ?_⟩) ?_ ?_
                                                                      rotate_left
                                                                      · intro w'
                                                                        go_simp
                                                                        with_reducible rfl
                                                                      rotate_left
                                                                      · simp only [Act.put, List.setIfInBounds_toArray, List.set_cons_zero, List.set_cons_succ, i64_w, i32_w]
                                                                        rfl
                                                                      refine pure_ (i := 26) (N := some 91) (v := ?_) (a' := ?_) #[true, true, true, true, true, true, true, true, true, true, true, true, true, true, true, true, true, true, true, true, true, true, true, true, true, true, true, false, false, false] rfl rfl (any_of HT_.out (by kernel_rfl)) (fun _ _ _ h => h) (Or.inl ⟨by rfl, ?_⟩) ?_ ?_
                                                                      rotate_left
                                                                      · intro w'
                                                                        go_simp
                                                                        with_reducible rfl
                                                                      rotate_left
                                                                      · simp only [Act.put, List.setIfInBounds_toArray, List.set_cons_zero, List.set_cons_succ, i64_w, i32_w]
                                                                        rfl
                                                                      refine pure_ (i := 27) (N := some 92) (v := ?_) (a' := ?_) #[true, true, true, true, true, true, true, true, true, true, true, true, true, true, true, true, true, true, true, true, true, true, true, true, true, true, true, true, false, false] rfl rfl (any_of HT_.out (by kernel_rfl)) (fun _ _ _ h => h) (Or.inl ⟨by rfl, ?_⟩) ?_ ?_
                                                                      rotate_left
                                                                      · intro w'
                                                                        go_simp
                                                                        with_reducible rfl
                                                                      rotate_left
                                                                      · simp only [Act.put, List.setIfInBounds_toArray, List.set_cons_zero, List.set_cons_succ, i64_w, i32_w]
                                                                        rfl
                                                                      refine one_ (i := 28) (N := some 93) #[true, true, true, true, true, true, true, true, true, true, true, true, true, true, true, true, true, true, true, true, true, true, true, true, true, true, true, true, true, false] rfl rfl (one_of HT_.out (by kernel_rfl)) (by decide) (fun K hK => ?_)
                                                                      refine Kd.R_lit_step Kd.string _ 9 ?hg (N := 93) ?hd (xs := ([(⟨#[]⟩ : ByteArray), t167.extract 0 31, t167 ++ (⟨#[120]⟩ : ByteArray), (⟨#[67, 114, 121, 111]⟩ : ByteArray) ++ (t167.extract 4 t167.size), ((t167.extract 0 4) ++ (⟨#[128]⟩ : ByteArray)) ++ (t167.extract 5 t167.size), ((t167.extract 0 8) ++ (⟨#[0, 0, 0, 0]⟩ : ByteArray)) ++ (t167.extract 12 t167.size), (t167.extract 0 31) ++ (⟨#[1]⟩ : ByteArray), ((t167.extract 0 12) ++ (⟨#[1]⟩ : ByteArray)) ++ (t167.extract 13 t167.size)] : List ByteArray)) (inner := [.string (⟨#[]⟩ : ByteArray), .string (t167.extract 0 31), .string (t167 ++ (⟨#[120]⟩ : ByteArray)), .string ((⟨#[67, 114, 121, 111]⟩ : ByteArray) ++ (t167.extract 4 t167.size)), .string (((t167.extract 0 4) ++ (⟨#[128]⟩ : ByteArray)) ++ (t167.extract 5 t167.size)), .string (((t167.extract 0 8) ++ (⟨#[0, 0, 0, 0]⟩ : ByteArray)) ++ (t167.extract 12 t167.size)), .string ((t167.extract 0 31) ++ (⟨#[1]⟩ : ByteArray)), .string (((t167.extract 0 12) ++ (⟨#[1]⟩ : ByteArray)) ++ (t167.extract 13 t167.size))]) (ok := fun _ => True) (okp := fun _ => True) ?hr ?hp (fun _ hk => hk) trivial (Below.refl _ _) (Nat.le_refl _) (by simp) ?_; (case hd => rfl); (case hg => rfl); (case hr => first | (go_simp; done) | (go_simp; rfl)); (case hp => exact (Reps.one (show Kd.M Kd.string _ _ _ (⟨#[]⟩ : ByteArray) [.string (⟨#[]⟩ : ByteArray)] from rfl) (Reps.one (show Kd.M Kd.string _ _ _ (t167.extract 0 31) [.string (t167.extract 0 31)] from rfl) (Reps.one (show Kd.M Kd.string _ _ _ (t167 ++ (⟨#[120]⟩ : ByteArray)) [.string (t167 ++ (⟨#[120]⟩ : ByteArray))] from rfl) (Reps.one (show Kd.M Kd.string _ _ _ ((⟨#[67, 114, 121, 111]⟩ : ByteArray) ++ (t167.extract 4 t167.size)) [.string ((⟨#[67, 114, 121, 111]⟩ : ByteArray) ++ (t167.extract 4 t167.size))] from rfl) (Reps.one (show Kd.M Kd.string _ _ _ (((t167.extract 0 4) ++ (⟨#[128]⟩ : ByteArray)) ++ (t167.extract 5 t167.size)) [.string (((t167.extract 0 4) ++ (⟨#[128]⟩ : ByteArray)) ++ (t167.extract 5 t167.size))] from rfl) (Reps.one (show Kd.M Kd.string _ _ _ (((t167.extract 0 8) ++ (⟨#[0, 0, 0, 0]⟩ : ByteArray)) ++ (t167.extract 12 t167.size)) [.string (((t167.extract 0 8) ++ (⟨#[0, 0, 0, 0]⟩ : ByteArray)) ++ (t167.extract 12 t167.size))] from rfl) (Reps.one (show Kd.M Kd.string _ _ _ ((t167.extract 0 31) ++ (⟨#[1]⟩ : ByteArray)) [.string ((t167.extract 0 31) ++ (⟨#[1]⟩ : ByteArray))] from rfl) (Reps.one (show Kd.M Kd.string _ _ _ (((t167.extract 0 12) ++ (⟨#[1]⟩ : ByteArray)) ++ (t167.extract 13 t167.size)) [.string (((t167.extract 0 12) ++ (⟨#[1]⟩ : ByteArray)) ++ (t167.extract 13 t167.size))] from rfl) (Reps.none _ _))))))))))
                                                                      intro v171 w87 ho88 hb hg_ hnew_
                                                                      clear hg_ hnew_
                                                                      (first | rw [← Ny170.out] at ho88 | (simp only [Int.reduceToNat] at ho88; rw [← Ny170.out] at ho88))
                                                                      have n0_ := Aside0.mk (Kd.R_lower ho88 (below_size (by repeat (first | (with_reducible first | exact HB.out | apply below_alloc | apply pw_below_drewN | apply below_drew1 | refine below_set ?_ GE164.out) | exact HB.out))))
                                                                      have n1_ := Aside0.mk (blk_below (g := gb164) (o := .cells #[.int .i64 ((rd_T54 y160 (ji5)).f0), .int .i64 ((rd_T54 y160 (ji5)).f1)] 54 (0, 0)) (by (with_reducible repeat (first | refine blk_drewN ?_ _ | refine blk_drew ?_ | refine blk_alloc ?_ _)); exact BK164.out) hb)
                                                                      have n2_ := Aside0.mk (below_step (by repeat (first | (with_reducible first | exact HB.out | apply below_alloc | apply pw_below_drewN | apply below_drew1 | refine below_set ?_ GE164.out) | exact HB.out)) hb)
                                                                      clear BK164
                                                                      clear HB
                                                                      have HO172 := n0_
                                                                      have BK164 := n1_
                                                                      have HB := n2_
                                                                      clear n0_ n1_ n2_
                                                                      clear hb ho88
                                                                      refine hK.out _ _ trivial (fun hHeld => ?_)
                                                                      clear hK K
                                                                      refine norm_ (a' := ?_) ?_ ?_
                                                                      rotate_left
                                                                      · show Act.put _ (some 93) _ = _
                                                                        simp only [Act.put, List.setIfInBounds_toArray, List.set_cons_zero, List.set_cons_succ, i64_w, i32_w]
                                                                        rfl
                                                                      refine pure_ (i := 29) (N := some 12) (v := ?_) (a' := ?_) #[true, true, true, true, true, true, true, true, true, true, true, true, true, true, true, true, true, true, true, true, true, true, true, true, true, true, true, true, true, true] rfl rfl (any_of HT_.out (by kernel_rfl)) (fun _ _ _ h => h) (Or.inl ⟨by rfl, ?_⟩) ?_ ?_
                                                                      rotate_left
                                                                      · intro w'
                                                                        go_simp
                                                                        with_reducible rfl
                                                                      rotate_left
                                                                      · simp only [Act.put, List.setIfInBounds_toArray, List.set_cons_zero, List.set_cons_succ, i64_w, i32_w]
                                                                        rfl
                                                                      refine done_ (done_of HT_.out (by kernel_rfl)) ?_
                                                                      obtain ⟨Ao89, co89, eo89⟩ := Kd.R_slice HO172.out
                                                                      subst eo89
                                                                      have p173 : 0 ≤ ((ji45) : Int) := of_decide_eq_true (by first | (with_reducible assumption) | assumption)
                                                                      have q173 : (ji45) < (y170.length : Int) := of_decide_eq_true (by first | (with_reducible assumption) | assumption)
                                                                      obtain ⟨ad173, e173, hx173_0⟩ := Kd.at_string (Kd.R_reads' HO172.out).2.2 (ji45) p173 q173
                                                                      cases e173
                                                                      replace p173 := eq_true p173
                                                                      replace q173 := eq_true q173
                                                                      try go_wp2_with (first | ((with_reducible refine gate_callee (f := 35) rfl ?_); refine goesL_ (some 102) rfl rfl Try.func35 (by kernel_rfl) rfl #[.string (rdOf ByteArray.empty y170 (ji45))] rfl (by (try simp only [List.map_toArray, List.map_cons, List.map_nil]); first | done | (simp only [hji45]; rfl) | rfl | (simp only [List.length_drop, List.length_take]; rfl)) ?_; (with_reducible refine (head_Get.calls (rdOf ByteArray.empty y170 (ji45)) t174 t175 t176 _ A48.out).mono ?_); rintro e w90 ⟨rfl, hb⟩; refine ⟨_, rfl, ?_⟩; have n0_ := Aside0.mk (Kd.R_below (by (with_reducible repeat (first | apply Kd.R_alloc | apply Kd.R_drewN | apply Kd.R_drew)); exact HO172.out) hb); have n1_ := Aside0.mk (blk_below (g := gb164) (o := .cells #[.int .i64 ((rd_T54 y160 (ji5)).f0), .int .i64 ((rd_T54 y160 (ji5)).f1)] 54 (0, 0)) (by (with_reducible repeat (first | refine blk_drewN ?_ _ | refine blk_drew ?_ | refine blk_alloc ?_ _)); exact BK164.out) hb); have n2_ := Aside0.mk (below_step (by repeat (first | (with_reducible first | exact HB.out | apply below_alloc | apply pw_below_drewN | apply below_drew1 | refine below_set ?_ GE164.out) | exact HB.out)) hb); clear HO172; clear BK164; clear HB; have HO172 := n0_; have BK164 := n1_; have HB := n2_; clear n0_ n1_ n2_; (try clear hb); (try clear hb2); (try clear hk); (try clear hi)) | ((with_reducible refine gate_dst (N := 13) rfl ?_); (try (refine gate_guard (by rfl) ?_; dsimp only)); refine box_event ?hg (N := 13) ?hd (cs := #[.int .i64 0, .int .i64 0]) (t := 54) ?hr ?_; (case hd => rfl); (case hg => rfl); (case hr => first | (go_simp; done) | (go_simp; rfl)); intro gb177 hg w91 hbox hb; have n0_ := Aside0.mk (Kd.R_below (by (with_reducible repeat (first | apply Kd.R_alloc | apply Kd.R_drewN | apply Kd.R_drew)); exact HO172.out) hb); have n1_ := Aside0.mk (blk_below (g := gb164) (o := .cells #[.int .i64 ((rd_T54 y160 (ji5)).f0), .int .i64 ((rd_T54 y160 (ji5)).f1)] 54 (0, 0)) (by (with_reducible repeat (first | refine blk_drewN ?_ _ | refine blk_drew ?_ | refine blk_alloc ?_ _)); exact BK164.out) hb); have n2_ := Aside0.mk (below_step (by repeat (first | (with_reducible first | exact HB.out | apply below_alloc | apply pw_below_drewN | apply below_drew1 | refine below_set ?_ GE164.out) | exact HB.out)) hb); have n3_ := Aside0.mk (hbox); have n4_ := Aside0.mk ((by rw [hg]; exact (below_size (by repeat (first | (with_reducible first | exact HB.out | apply below_alloc | apply pw_below_drewN | apply below_drew1 | refine below_set ?_ GE164.out) | exact HB.out))) : w.heap.size ≤ gb177)); have n5_ := Aside0.mk ((by rw [hg]; exact (below_size (by repeat (first | (with_reducible first | exact HB.out | apply below_alloc | apply pw_below_drewN | apply below_drew1 | refine below_set ?_ GE164.out) | exact HB.out))) : w.heap.size ≤ gb177)); have n6_ := Aside0.mk ((by rw [hg]; exact Nat.ne_of_lt (blk_lt (g := gb164) (o := .cells #[.int .i64 ((rd_T54 y160 (ji5)).f0), .int .i64 ((rd_T54 y160 (ji5)).f1)] 54 (0, 0)) (by (with_reducible repeat (first | refine blk_drewN ?_ _ | refine blk_drew ?_ | refine blk_alloc ?_ _)); exact BK164.out)) : gb164 ≠ gb177)); have n7_ := Aside0.mk ((by rw [hg]; exact Nat.ne_of_gt (blk_lt (g := gb164) (o := .cells #[.int .i64 ((rd_T54 y160 (ji5)).f0), .int .i64 ((rd_T54 y160 (ji5)).f1)] 54 (0, 0)) (by (with_reducible repeat (first | refine blk_drewN ?_ _ | refine blk_drew ?_ | refine blk_alloc ?_ _)); exact BK164.out)) : gb177 ≠ gb164)); clear HO172; clear BK164; clear HB; have HO172 := n0_; have BK164 := n1_; have HB := n2_; have BK177 := n3_; have GW177 := n4_; have GE177 := n5_; have NB164_177 := n6_; have NB177_164 := n7_; clear n0_ n1_ n2_ n3_ n4_ n5_ n6_ n7_; clear hb hbox hg; have hnb92 := NB177_164.out; have hnc92 := NB164_177.out; have hcz93_0 : w91.cell? ⟨gb177, 0, none⟩ = some (.int .i64 0) := (blk_cell BK177.out 0).trans rfl; have hcz93_1 : w91.cell? ⟨gb177, 1, none⟩ = some (.int .i64 0) := (blk_cell BK177.out 1).trans rfl; have hfz93_0 := blk_frozen BK177.out 0; have hfz93_1 := blk_frozen BK177.out 1) | ((with_reducible refine gate_callee (f := 17) rfl ?_); refine goesL_ (some 107) rfl rfl Try.func17 (by kernel_rfl) rfl #[.string t167] rfl (by (try simp only [List.map_toArray, List.map_cons, List.map_nil]); first | done | rfl | (simp only [List.length_drop, List.length_take]; rfl)) ?_; (with_reducible refine (cryostatref1_PutPair.calls t167 t178 t179 _ A49.out).mono ?_); rintro e w94 ⟨rfl, hb⟩; refine ⟨_, rfl, ?_⟩; have n0_ := Aside0.mk (Kd.R_below (by (with_reducible repeat (first | apply Kd.R_alloc | apply Kd.R_drewN | apply Kd.R_drew)); exact (Kd.R_mono (Kd.R_far (p := ⟨gb177, 1, none⟩) (Kd.R_far (p := ⟨gb177, 0, none⟩) (Kd.R_types HO172.out BK177.out (by decide)) (fun _ hk => hk.2) (.int .i64 t174)) (fun _ hk => hk.2) (.int .i64 t175)) (fun _ h_ => h_.1))) hb); have n1_ := Aside0.mk (blk_below (g := gb164) (o := .cells #[.int .i64 ((rd_T54 y160 (ji5)).f0), .int .i64 ((rd_T54 y160 (ji5)).f1)] 54 (0, 0)) (by (with_reducible repeat (first | refine blk_drewN ?_ _ | refine blk_drew ?_ | refine blk_alloc ?_ _)); refine blk_far ?_ NB164_177.out _; (with_reducible repeat (first | refine blk_drewN ?_ _ | refine blk_drew ?_ | refine blk_alloc ?_ _)); refine blk_far ?_ NB164_177.out _; (with_reducible repeat (first | refine blk_drewN ?_ _ | refine blk_drew ?_ | refine blk_alloc ?_ _)); exact BK164.out) hb); have n2_ := Aside0.mk (blk_below (g := gb177) (o := .cells #[.int .i64 t174, .int .i64 t175] 54 (0, 0)) (by (with_reducible repeat (first | refine blk_drewN ?_ _ | refine blk_drew ?_ | refine blk_alloc ?_ _)); refine blk_put (cs := #[.int .i64 t174, .int .i64 0]) ?_ 1 _ rfl; (with_reducible repeat (first | refine blk_drewN ?_ _ | refine blk_drew ?_ | refine blk_alloc ?_ _)); refine blk_put (cs := #[.int .i64 0, .int .i64 0]) ?_ 0 _ rfl; (with_reducible repeat (first | refine blk_drewN ?_ _ | refine blk_drew ?_ | refine blk_alloc ?_ _)); exact BK177.out) hb); have n3_ := Aside0.mk (below_step (by repeat (first | (with_reducible first | exact HB.out | apply below_alloc | apply pw_below_drewN | apply below_drew1 | refine below_set ?_ GE164.out | refine below_set ?_ GE177.out) | exact HB.out)) hb); clear HO172; clear BK164; clear BK177; clear HB; have HO172 := n0_; have BK164 := n1_; have BK177 := n2_; have HB := n3_; clear n0_ n1_ n2_ n3_; (try clear hb); (try clear hb2); (try clear hk); (try clear hi)) | ((with_reducible refine gate_callee (f := 37) rfl ?_); refine goesL_ (some 114) rfl rfl Try.func37 (by kernel_rfl) rfl #[.string t167, .string (t178 ++ (⟨#[120]⟩ : ByteArray))] rfl (by (try simp only [List.map_toArray, List.map_cons, List.map_nil]); first | done | rfl | (simp only [List.length_drop, List.length_take]; rfl)) ?_; (with_reducible refine (head_Best.calls kj9 t167 (t178 ++ (⟨#[120]⟩ : ByteArray)) t180 t181 t182 _ A51.out).mono ?_); rintro e w95 ⟨rfl, hb⟩; refine ⟨_, rfl, ?_⟩; have n0_ := Aside0.mk (Kd.R_below (by (with_reducible repeat (first | apply Kd.R_alloc | apply Kd.R_drewN | apply Kd.R_drew)); exact HO172.out) hb); have n1_ := Aside0.mk (blk_below (g := gb164) (o := .cells #[.int .i64 ((rd_T54 y160 (ji5)).f0), .int .i64 ((rd_T54 y160 (ji5)).f1)] 54 (0, 0)) (by (with_reducible repeat (first | refine blk_drewN ?_ _ | refine blk_drew ?_ | refine blk_alloc ?_ _)); exact BK164.out) hb); have n2_ := Aside0.mk (blk_below (g := gb177) (o := .cells #[.int .i64 t174, .int .i64 t175] 54 (0, 0)) (by (with_reducible repeat (first | refine blk_drewN ?_ _ | refine blk_drew ?_ | refine blk_alloc ?_ _)); exact BK177.out) hb); have n3_ := Aside0.mk (below_step (by repeat (first | (with_reducible first | exact HB.out | apply below_alloc | apply pw_below_drewN | apply below_drew1 | refine below_set ?_ GE164.out | refine below_set ?_ GE177.out) | exact HB.out)) hb); clear HO172; clear BK164; clear BK177; clear HB; have HO172 := n0_; have BK164 := n1_; have BK177 := n2_; have HB := n3_; clear n0_ n1_ n2_ n3_; (try clear hb); (try clear hb2); (try clear hk); (try clear hi)) | ((with_reducible refine gate_dst (N := 17) rfl ?_); (try (refine gate_guard (by rfl) ?_; dsimp only)); refine box_event ?hg (N := 17) ?hd (cs := #[.int .i64 0, .int .i64 0]) (t := 54) ?hr ?_; (case hd => rfl); (case hg => rfl); (case hr => first | (go_simp; done) | (go_simp; rfl)); intro gb183 hg w96 hbox hb; have n0_ := Aside0.mk (Kd.R_below (by (with_reducible repeat (first | apply Kd.R_alloc | apply Kd.R_drewN | apply Kd.R_drew)); exact HO172.out) hb); have n1_ := Aside0.mk (blk_below (g := gb164) (o := .cells #[.int .i64 ((rd_T54 y160 (ji5)).f0), .int .i64 ((rd_T54 y160 (ji5)).f1)] 54 (0, 0)) (by (with_reducible repeat (first | refine blk_drewN ?_ _ | refine blk_drew ?_ | refine blk_alloc ?_ _)); exact BK164.out) hb); have n2_ := Aside0.mk (blk_below (g := gb177) (o := .cells #[.int .i64 t174, .int .i64 t175] 54 (0, 0)) (by (with_reducible repeat (first | refine blk_drewN ?_ _ | refine blk_drew ?_ | refine blk_alloc ?_ _)); exact BK177.out) hb); have n3_ := Aside0.mk (below_step (by repeat (first | (with_reducible first | exact HB.out | apply below_alloc | apply pw_below_drewN | apply below_drew1 | refine below_set ?_ GE164.out | refine below_set ?_ GE177.out) | exact HB.out)) hb); have n4_ := Aside0.mk (hbox); have n5_ := Aside0.mk ((by rw [hg]; exact (below_size (by repeat (first | (with_reducible first | exact HB.out | apply below_alloc | apply pw_below_drewN | apply below_drew1 | refine below_set ?_ GE164.out | refine below_set ?_ GE177.out) | exact HB.out))) : w.heap.size ≤ gb183)); have n6_ := Aside0.mk ((by rw [hg]; exact (below_size (by repeat (first | (with_reducible first | exact HB.out | apply below_alloc | apply pw_below_drewN | apply below_drew1 | refine below_set ?_ GE164.out | refine below_set ?_ GE177.out) | exact HB.out))) : w.heap.size ≤ gb183)); have n7_ := Aside0.mk ((by rw [hg]; exact Nat.ne_of_lt (blk_lt (g := gb164) (o := .cells #[.int .i64 ((rd_T54 y160 (ji5)).f0), .int .i64 ((rd_T54 y160 (ji5)).f1)] 54 (0, 0)) (by (with_reducible repeat (first | refine blk_drewN ?_ _ | refine blk_drew ?_ | refine blk_alloc ?_ _)); exact BK164.out)) : gb164 ≠ gb183)); have n8_ := Aside0.mk ((by rw [hg]; exact Nat.ne_of_gt (blk_lt (g := gb164) (o := .cells #[.int .i64 ((rd_T54 y160 (ji5)).f0), .int .i64 ((rd_T54 y160 (ji5)).f1)] 54 (0, 0)) (by (with_reducible repeat (first | refine blk_drewN ?_ _ | refine blk_drew ?_ | refine blk_alloc ?_ _)); exact BK164.out)) : gb183 ≠ gb164)); have n9_ := Aside0.mk ((by rw [hg]; exact Nat.ne_of_lt (blk_lt (g := gb177) (o := .cells #[.int .i64 t174, .int .i64 t175] 54 (0, 0)) (by (with_reducible repeat (first | refine blk_drewN ?_ _ | refine blk_drew ?_ | refine blk_alloc ?_ _)); exact BK177.out)) : gb177 ≠ gb183)); have n10_ := Aside0.mk ((by rw [hg]; exact Nat.ne_of_gt (blk_lt (g := gb177) (o := .cells #[.int .i64 t174, .int .i64 t175] 54 (0, 0)) (by (with_reducible repeat (first | refine blk_drewN ?_ _ | refine blk_drew ?_ | refine blk_alloc ?_ _)); exact BK177.out)) : gb183 ≠ gb177)); clear HO172; clear BK164; clear BK177; clear HB; have HO172 := n0_; have BK164 := n1_; have BK177 := n2_; have HB := n3_; have BK183 := n4_; have GW183 := n5_; have GE183 := n6_; have NB164_183 := n7_; have NB183_164 := n8_; have NB177_183 := n9_; have NB183_177 := n10_; clear n0_ n1_ n2_ n3_ n4_ n5_ n6_ n7_ n8_ n9_ n10_; clear hb hbox hg; have hnb97 := NB183_164.out; have hnc97 := NB164_183.out; have hnb98 := NB183_177.out; have hnc98 := NB177_183.out; have hcz99_0 : w96.cell? ⟨gb183, 0, none⟩ = some (.int .i64 0) := (blk_cell BK183.out 0).trans rfl; have hcz99_1 : w96.cell? ⟨gb183, 1, none⟩ = some (.int .i64 0) := (blk_cell BK183.out 1).trans rfl; have hfz99_0 := blk_frozen BK183.out 0; have hfz99_1 := blk_frozen BK183.out 1) | ((with_reducible refine gate_callee (f := 37) rfl ?_); refine goesL_ (some 120) rfl rfl Try.func37 (by kernel_rfl) rfl #[.string t178, .string t178] rfl (by (try simp only [List.map_toArray, List.map_cons, List.map_nil]); first | done | rfl | (simp only [List.length_drop, List.length_take]; rfl)) ?_; (with_reducible refine (head_Best.calls kj9 t178 t178 (3 : Int) (4 : Int) t186 _ A52.out).mono ?_); rintro e w100 ⟨rfl, hb⟩; refine ⟨_, rfl, ?_⟩; have n0_ := Aside0.mk (Kd.R_below (by (with_reducible repeat (first | apply Kd.R_alloc | apply Kd.R_drewN | apply Kd.R_drew)); exact (Kd.R_mono (Kd.R_far (p := ⟨gb183, 1, none⟩) (Kd.R_far (p := ⟨gb183, 0, none⟩) (Kd.R_types HO172.out BK183.out (by decide)) (fun _ hk => hk.2) (.int .i64 t180)) (fun _ hk => hk.2) (.int .i64 t181)) (fun _ h_ => h_.1))) hb); have n1_ := Aside0.mk (blk_below (g := gb164) (o := .cells #[.int .i64 ((rd_T54 y160 (ji5)).f0), .int .i64 ((rd_T54 y160 (ji5)).f1)] 54 (0, 0)) (by (with_reducible repeat (first | refine blk_drewN ?_ _ | refine blk_drew ?_ | refine blk_alloc ?_ _)); refine blk_far ?_ NB164_183.out _; (with_reducible repeat (first | refine blk_drewN ?_ _ | refine blk_drew ?_ | refine blk_alloc ?_ _)); refine blk_far ?_ NB164_183.out _; (with_reducible repeat (first | refine blk_drewN ?_ _ | refine blk_drew ?_ | refine blk_alloc ?_ _)); exact BK164.out) hb); have n2_ := Aside0.mk (blk_below (g := gb177) (o := .cells #[.int .i64 t174, .int .i64 t175] 54 (0, 0)) (by (with_reducible repeat (first | refine blk_drewN ?_ _ | refine blk_drew ?_ | refine blk_alloc ?_ _)); refine blk_far ?_ NB177_183.out _; (with_reducible repeat (first | refine blk_drewN ?_ _ | refine blk_drew ?_ | refine blk_alloc ?_ _)); refine blk_far ?_ NB177_183.out _; (with_reducible repeat (first | refine blk_drewN ?_ _ | refine blk_drew ?_ | refine blk_alloc ?_ _)); exact BK177.out) hb); have n3_ := Aside0.mk (blk_below (g := gb183) (o := .cells #[.int .i64 t180, .int .i64 t181] 54 (0, 0)) (by (with_reducible repeat (first | refine blk_drewN ?_ _ | refine blk_drew ?_ | refine blk_alloc ?_ _)); refine blk_put (cs := #[.int .i64 t180, .int .i64 0]) ?_ 1 _ rfl; (with_reducible repeat (first | refine blk_drewN ?_ _ | refine blk_drew ?_ | refine blk_alloc ?_ _)); refine blk_put (cs := #[.int .i64 0, .int .i64 0]) ?_ 0 _ rfl; (with_reducible repeat (first | refine blk_drewN ?_ _ | refine blk_drew ?_ | refine blk_alloc ?_ _)); exact BK183.out) hb); have n4_ := Aside0.mk (below_step (by repeat (first | (with_reducible first | exact HB.out | apply below_alloc | apply pw_below_drewN | apply below_drew1 | refine below_set ?_ GE164.out | refine below_set ?_ GE177.out | refine below_set ?_ GE183.out) | exact HB.out)) hb); clear HO172; clear BK164; clear BK177; clear BK183; clear HB; have HO172 := n0_; have BK164 := n1_; have BK177 := n2_; have BK183 := n3_; have HB := n4_; clear n0_ n1_ n2_ n3_ n4_; (try clear hb); (try clear hb2); (try clear hk); (try clear hi)) | ((with_reducible refine gate_dst (N := 19) rfl ?_); (try (refine gate_guard (by rfl) ?_; dsimp only)); refine box_event ?hg (N := 19) ?hd (cs := #[.int .i64 0, .int .i64 0]) (t := 54) ?hr ?_; (case hd => rfl); (case hg => rfl); (case hr => first | (go_simp; done) | (go_simp; rfl)); intro gb187 hg w101 hbox hb; have n0_ := Aside0.mk (Kd.R_below (by (with_reducible repeat (first | apply Kd.R_alloc | apply Kd.R_drewN | apply Kd.R_drew)); exact HO172.out) hb); have n1_ := Aside0.mk (blk_below (g := gb164) (o := .cells #[.int .i64 ((rd_T54 y160 (ji5)).f0), .int .i64 ((rd_T54 y160 (ji5)).f1)] 54 (0, 0)) (by (with_reducible repeat (first | refine blk_drewN ?_ _ | refine blk_drew ?_ | refine blk_alloc ?_ _)); exact BK164.out) hb); have n2_ := Aside0.mk (blk_below (g := gb177) (o := .cells #[.int .i64 t174, .int .i64 t175] 54 (0, 0)) (by (with_reducible repeat (first | refine blk_drewN ?_ _ | refine blk_drew ?_ | refine blk_alloc ?_ _)); exact BK177.out) hb); have n3_ := Aside0.mk (blk_below (g := gb183) (o := .cells #[.int .i64 t180, .int .i64 t181] 54 (0, 0)) (by (with_reducible repeat (first | refine blk_drewN ?_ _ | refine blk_drew ?_ | refine blk_alloc ?_ _)); exact BK183.out) hb); have n4_ := Aside0.mk (below_step (by repeat (first | (with_reducible first | exact HB.out | apply below_alloc | apply pw_below_drewN | apply below_drew1 | refine below_set ?_ GE164.out | refine below_set ?_ GE177.out | refine below_set ?_ GE183.out) | exact HB.out)) hb); have n5_ := Aside0.mk (hbox); have n6_ := Aside0.mk ((by rw [hg]; exact (below_size (by repeat (first | (with_reducible first | exact HB.out | apply below_alloc | apply pw_below_drewN | apply below_drew1 | refine below_set ?_ GE164.out | refine below_set ?_ GE177.out | refine below_set ?_ GE183.out) | exact HB.out))) : w.heap.size ≤ gb187)); have n7_ := Aside0.mk ((by rw [hg]; exact (below_size (by repeat (first | (with_reducible first | exact HB.out | apply below_alloc | apply pw_below_drewN | apply below_drew1 | refine below_set ?_ GE164.out | refine below_set ?_ GE177.out | refine below_set ?_ GE183.out) | exact HB.out))) : w.heap.size ≤ gb187)); have n8_ := Aside0.mk ((by rw [hg]; exact Nat.ne_of_lt (blk_lt (g := gb164) (o := .cells #[.int .i64 ((rd_T54 y160 (ji5)).f0), .int .i64 ((rd_T54 y160 (ji5)).f1)] 54 (0, 0)) (by (with_reducible repeat (first | refine blk_drewN ?_ _ | refine blk_drew ?_ | refine blk_alloc ?_ _)); exact BK164.out)) : gb164 ≠ gb187)); have n9_ := Aside0.mk ((by rw [hg]; exact Nat.ne_of_gt (blk_lt (g := gb164) (o := .cells #[.int .i64 ((rd_T54 y160 (ji5)).f0), .int .i64 ((rd_T54 y160 (ji5)).f1)] 54 (0, 0)) (by (with_reducible repeat (first | refine blk_drewN ?_ _ | refine blk_drew ?_ | refine blk_alloc ?_ _)); exact BK164.out)) : gb187 ≠ gb164)); have n10_ := Aside0.mk ((by rw [hg]; exact Nat.ne_of_lt (blk_lt (g := gb177) (o := .cells #[.int .i64 t174, .int .i64 t175] 54 (0, 0)) (by (with_reducible repeat (first | refine blk_drewN ?_ _ | refine blk_drew ?_ | refine blk_alloc ?_ _)); exact BK177.out)) : gb177 ≠ gb187)); have n11_ := Aside0.mk ((by rw [hg]; exact Nat.ne_of_gt (blk_lt (g := gb177) (o := .cells #[.int .i64 t174, .int .i64 t175] 54 (0, 0)) (by (with_reducible repeat (first | refine blk_drewN ?_ _ | refine blk_drew ?_ | refine blk_alloc ?_ _)); exact BK177.out)) : gb187 ≠ gb177)); have n12_ := Aside0.mk ((by rw [hg]; exact Nat.ne_of_lt (blk_lt (g := gb183) (o := .cells #[.int .i64 t180, .int .i64 t181] 54 (0, 0)) (by (with_reducible repeat (first | refine blk_drewN ?_ _ | refine blk_drew ?_ | refine blk_alloc ?_ _)); exact BK183.out)) : gb183 ≠ gb187)); have n13_ := Aside0.mk ((by rw [hg]; exact Nat.ne_of_gt (blk_lt (g := gb183) (o := .cells #[.int .i64 t180, .int .i64 t181] 54 (0, 0)) (by (with_reducible repeat (first | refine blk_drewN ?_ _ | refine blk_drew ?_ | refine blk_alloc ?_ _)); exact BK183.out)) : gb187 ≠ gb183)); clear HO172; clear BK164; clear BK177; clear BK183; clear HB; have HO172 := n0_; have BK164 := n1_; have BK177 := n2_; have BK183 := n3_; have HB := n4_; have BK187 := n5_; have GW187 := n6_; have GE187 := n7_; have NB164_187 := n8_; have NB187_164 := n9_; have NB177_187 := n10_; have NB187_177 := n11_; have NB183_187 := n12_; have NB187_183 := n13_; clear n0_ n1_ n2_ n3_ n4_ n5_ n6_ n7_ n8_ n9_ n10_ n11_ n12_ n13_; clear hb hbox hg; have hnb102 := NB187_164.out; have hnc102 := NB164_187.out; have hnb103 := NB187_177.out; have hnc103 := NB177_187.out; have hnb104 := NB187_183.out; have hnc104 := NB183_187.out; have hcz105_0 : w101.cell? ⟨gb187, 0, none⟩ = some (.int .i64 0) := (blk_cell BK187.out 0).trans rfl; have hcz105_1 : w101.cell? ⟨gb187, 1, none⟩ = some (.int .i64 0) := (blk_cell BK187.out 1).trans rfl; have hfz105_0 := blk_frozen BK187.out 0; have hfz105_1 := blk_frozen BK187.out 1; have hcz106_0 : w101.cell? ⟨gb164, 0, none⟩ = some (.int .i64 ((rd_T54 y160 (ji5)).f0)) := (blk_cell BK164.out 0).trans rfl; have hcz106_1 : w101.cell? ⟨gb164, 1, none⟩ = some (.int .i64 ((rd_T54 y160 (ji5)).f1)) := (blk_cell BK164.out 1).trans rfl; have hfz106_0 := blk_frozen BK164.out 0; have hfz106_1 := blk_frozen BK164.out 1) | ((with_reducible refine gate_callee (f := 39) rfl ?_); refine goesL_ (some 124) rfl rfl Try.func39 (by kernel_rfl) rfl #[.agg #[.int .i64 ((rd_T54 y160 (ji5)).f0), .int .i64 ((rd_T54 y160 (ji5)).f1)]] rfl (by (try simp only [List.map_toArray, List.map_cons, List.map_nil]); first | done | (simp only [hji5]; rfl) | rfl | (simp only [List.length_drop, List.length_take]; rfl)) ?_; (with_reducible refine (head_May.calls ((rd_T54 y160 (ji5)).f0) ((rd_T54 y160 (ji5)).f1) false _ A53.out).mono ?_); rintro e w107 ⟨rfl, hb⟩; refine ⟨_, rfl, ?_⟩; have n0_ := Aside0.mk (Kd.R_below (by (with_reducible repeat (first | apply Kd.R_alloc | apply Kd.R_drewN | apply Kd.R_drew)); exact (Kd.R_mono (Kd.R_far (p := ⟨gb187, 1, none⟩) (Kd.R_far (p := ⟨gb187, 0, none⟩) (Kd.R_types HO172.out BK187.out (by decide)) (fun _ hk => hk.2) (.int .i64 (3 : Int))) (fun _ hk => hk.2) (.int .i64 (4 : Int))) (fun _ h_ => h_.1))) hb); have n1_ := Aside0.mk (blk_below (g := gb164) (o := .cells #[.int .i64 ((rd_T54 y160 (ji5)).f0), .int .i64 ((rd_T54 y160 (ji5)).f1)] 54 (0, 0)) (by (with_reducible repeat (first | refine blk_drewN ?_ _ | refine blk_drew ?_ | refine blk_alloc ?_ _)); refine blk_far ?_ NB164_187.out _; (with_reducible repeat (first | refine blk_drewN ?_ _ | refine blk_drew ?_ | refine blk_alloc ?_ _)); refine blk_far ?_ NB164_187.out _; (with_reducible repeat (first | refine blk_drewN ?_ _ | refine blk_drew ?_ | refine blk_alloc ?_ _)); exact BK164.out) hb); have n2_ := Aside0.mk (blk_below (g := gb177) (o := .cells #[.int .i64 t174, .int .i64 t175] 54 (0, 0)) (by (with_reducible repeat (first | refine blk_drewN ?_ _ | refine blk_drew ?_ | refine blk_alloc ?_ _)); refine blk_far ?_ NB177_187.out _; (with_reducible repeat (first | refine blk_drewN ?_ _ | refine blk_drew ?_ | refine blk_alloc ?_ _)); refine blk_far ?_ NB177_187.out _; (with_reducible repeat (first | refine blk_drewN ?_ _ | refine blk_drew ?_ | refine blk_alloc ?_ _)); exact BK177.out) hb); have n3_ := Aside0.mk (blk_below (g := gb183) (o := .cells #[.int .i64 t180, .int .i64 t181] 54 (0, 0)) (by (with_reducible repeat (first | refine blk_drewN ?_ _ | refine blk_drew ?_ | refine blk_alloc ?_ _)); refine blk_far ?_ NB183_187.out _; (with_reducible repeat (first | refine blk_drewN ?_ _ | refine blk_drew ?_ | refine blk_alloc ?_ _)); refine blk_far ?_ NB183_187.out _; (with_reducible repeat (first | refine blk_drewN ?_ _ | refine blk_drew ?_ | refine blk_alloc ?_ _)); exact BK183.out) hb); have n4_ := Aside0.mk (blk_below (g := gb187) (o := .cells #[.int .i64 (3 : Int), .int .i64 (4 : Int)] 54 (0, 0)) (by (with_reducible repeat (first | refine blk_drewN ?_ _ | refine blk_drew ?_ | refine blk_alloc ?_ _)); refine blk_put (cs := #[.int .i64 (3 : Int), .int .i64 0]) ?_ 1 _ rfl; (with_reducible repeat (first | refine blk_drewN ?_ _ | refine blk_drew ?_ | refine blk_alloc ?_ _)); refine blk_put (cs := #[.int .i64 0, .int .i64 0]) ?_ 0 _ rfl; (with_reducible repeat (first | refine blk_drewN ?_ _ | refine blk_drew ?_ | refine blk_alloc ?_ _)); exact BK187.out) hb); have n5_ := Aside0.mk (below_step (by repeat (first | (with_reducible first | exact HB.out | apply below_alloc | apply pw_below_drewN | apply below_drew1 | refine below_set ?_ GE164.out | refine below_set ?_ GE177.out | refine below_set ?_ GE183.out | refine below_set ?_ GE187.out) | exact HB.out)) hb); clear HO172; clear BK164; clear BK177; clear BK183; clear BK187; clear HB; have HO172 := n0_; have BK164 := n1_; have BK177 := n2_; have BK183 := n3_; have BK187 := n4_; have HB := n5_; clear n0_ n1_ n2_ n3_ n4_ n5_; (try clear hb); (try clear hb2); (try clear hk); (try clear hi)) | (go_at_call 22; (with_reducible refine (cryostatlaw0_Num.calls t166 t189 _ A78.out).mono ?_); rintro e w' ⟨rfl, ⟨nd, rfl⟩⟩) | (go_at_call 22; (with_reducible refine (cryostatlaw0_Num.calls t176 t190 _ A80.out).mono ?_); rintro e w' ⟨rfl, ⟨nd, rfl⟩⟩) | (go_at_call 22; (with_reducible refine (cryostatlaw0_Num.calls t182 t191 _ A82.out).mono ?_); rintro e w' ⟨rfl, ⟨nd, rfl⟩⟩; have hcz108_0 : w107.cell? ⟨gb187, 0, none⟩ = some (.int .i64 (3 : Int)) := (blk_cell BK187.out 0).trans rfl; have hcz108_1 : w107.cell? ⟨gb187, 1, none⟩ = some (.int .i64 (4 : Int)) := (blk_cell BK187.out 1).trans rfl; have hfz108_0 := blk_frozen BK187.out 0; have hfz108_1 := blk_frozen BK187.out 1) | (go_at_call 22; (with_reducible refine (cryostatlaw0_Num.calls t186 t192 _ A85.out).mono ?_); rintro e w' ⟨rfl, ⟨nd, rfl⟩⟩))
                                                                      go_ret
                                                                      exact ⟨by first | rfl | (simp [errW_none, errW_some] <;> rfl) | (simp only [← hji5, ← hji45]; first | rfl | (simp [errW_none, errW_some] <;> rfl)) | (simp [*, errW_none, errW_some] <;> rfl), by repeat (first | (with_reducible first | exact HB.out | apply below_alloc | apply pw_below_drewN | apply below_drew1 | refine below_set ?_ GE164.out | refine below_set ?_ GE177.out | refine below_set ?_ GE183.out | refine below_set ?_ GE187.out) | exact HB.out)⟩
                                                                    · rw [if_neg c84] at H
                                                                      have c84b0 : (t184 == 3 && (t185 == 4)) = false := by simpa using c84
                                                                      (try (have c84b1 : decide (t184 = 3 && (t185 == 4)) = false := by simpa using c84))
                                                                      (try (have c84b2 : (t184 == 3 && (t185 == 4)) = false := by simpa using c84))
                                                                      (try (have c84b3 : ¬ (t184 = 3 && (t185 == 4)) := by simpa using c84))
                                                                      clear c84
                                                                      exact Bool.noConfusion ((Option.some.inj H).trans hr.out)
                                                                  · rw [if_neg c83] at H
                                                                    have c83b0 : (t191 == 501) = false := beq_eq_false_iff_ne.mpr c83
                                                                    have c83b1 : (t191 != 501) = true := bne_iff_ne.mpr c83
                                                                    exact Bool.noConfusion ((Option.some.inj H).trans hr.out)
                                                                · rw [if_neg c81] at H
                                                                  have c81b0 : (t190 == 500) = false := beq_eq_false_iff_ne.mpr c81
                                                                  have c81b1 : (t190 != 500) = true := bne_iff_ne.mpr c81
                                                                  exact Bool.noConfusion ((Option.some.inj H).trans hr.out)
                                                              · rw [if_neg c79] at H
                                                                have c79b0 : (t189 == 500) = false := beq_eq_false_iff_ne.mpr c79
                                                                have c79b1 : (t189 != 500) = true := bne_iff_ne.mpr c79
                                                                exact Bool.noConfusion ((Option.some.inj H).trans hr.out)
                                                            · rw [if_neg c77] at H
                                                              have c77b0 : (t165.toList == ([] : List UInt8)) = false := beq_eq_false_iff_ne.mpr c77
                                                              have c77b1 : (t165.toList != ([] : List UInt8)) = true := bne_iff_ne.mpr c77
                                                              exact Bool.noConfusion ((Option.some.inj H).trans hr.out)
                                                        · rw [if_neg c50] at H
                                                          exact absurd H (by simp)
                                                      · rw [if_neg c47] at H
                                                        exact absurd H (by simp)
                                                    · rw [if_neg c46] at H
                                                      exact absurd H (by simp)
                                                  · rw [if_neg c44] at H
                                                    exact absurd H (by simp)
                                                · rw [if_neg c43] at H
                                                  exact absurd H (by simp)
                                              · rw [if_neg c42] at H
                                                exact absurd H (by simp)
                                            · rw [if_neg c40] at H
                                              exact absurd H (by simp)
                                          · rw [if_neg c39] at H
                                            exact absurd H (by simp)
                                        · rw [if_neg c36] at H
                                          exact absurd H (by simp)
                                      · rw [if_neg c35] at H
                                        exact absurd H (by simp)
                                    · rw [if_neg c34] at H
                                      exact absurd H (by simp)
                                  · rw [if_neg c33] at H
                                    exact absurd H (by simp)
                                · rw [if_neg c32] at H
                                  exact absurd H (by simp)
                              · rw [if_neg c31] at H
                                exact absurd H (by simp)
                            · rw [if_neg c30] at H
                              exact absurd H (by simp)
                          · rw [if_neg c29] at H
                            exact absurd H (by simp)
                        · rw [if_neg c27] at H
                          exact absurd H (by simp)
                      · rw [if_neg c26] at H
                        exact absurd H (by simp)
                    · rw [if_neg c25] at H
                      exact absurd H (by simp)
                  · rw [if_neg c24] at H
                    exact absurd H (by simp)
                · rw [if_neg c23] at H
                  exact absurd H (by simp)
              · rw [if_neg c22] at H
                exact absurd H (by simp)
      · rw [if_neg c7] at H
        exact absurd H (by simp)
    · rw [if_neg c6] at H
      exact absurd H (by simp)
  · replace c4 := Bool.eq_false_iff.mpr c4
    subst c4
    have H1 : (some false) = some r := by rw [if_neg (show ¬ (false = true) by decide)] at H; exact H
    clear H
    have H := H1
    clear H1
    exact Bool.noConfusion ((Option.some.inj H).trans hr.out)
/-- THE ONE PURE STATEMENT of cryostatlaw5_HeadForms: yours. -/
def cryostatlaw5_HeadForms.Pure : Prop := ∀ (a0 : Int) (a1 : Int), (Lit.int .i64 a0).wf = true → (Lit.int .i64 a1).wf = true → ∃ k, cryostatlaw5_HeadForms.f k a0 a1 = some true
theorem cryostatlaw5_HeadForms.walk (P : cryostatlaw5_HeadForms.Pure) (a0 : Int) (a1 : Int) (w : World) (w0 : (Lit.int .i64 a0).wf = true) (w1 : (Lit.int .i64 a1).wf = true) :
    Calls Try.prog 13 #[.int .i64 a0, .int .i64 a1] w fun e w' => e = .returned (.bool true) ∧ Below w.heap.size w w' := by
  obtain ⟨k, h⟩ := P a0 a1 w0 w1
  refine (cryostatlaw5_HeadForms.calls k a0 a1 true w ⟨rfl⟩ h).mono ?_
  rintro e w' ⟨rfl, hd⟩
  exact ⟨rfl, hd⟩

end Go.Proofs.Ytpadejamelppfaa.PHeadForms
