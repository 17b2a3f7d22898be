/- Contracts of the functions that the law cryostatlaw3.RecordForms reaches (printed for this claim by a tool of the kit, and pruned): each Go function's call comes to its Lean function's answer; those of the law package for the answer true alone. -/
-- printed by a program out of the translation, with contracts of this session's own for what the kit's print refuses
import Derived.Test.YtpadejamelppfaaPRecordFormsx0
import Derived.Test.YtpadejamelppfaaPRecordFormsx2
import Derived.Test.YtpadejamelppfaaPRecordFormsx3
import Derived.Test.YtpadejamelppfaaPRecordFormsx4
import Derived.Test.YtpadejamelppfaaORecordFormsx5
namespace Go.Proofs.Ytpadejamelppfaa.PRecordForms
open Go.RowKit Go.Proofs.YtpadejamelppfaaW.PrintWords Go.Proofs.YtpadejamelppfaaW.PrintLast Go.Proofs.YtpadejamelppfaaW.PrintMore
attribute [local go_sem] max2_int min2_int max_two min_two max_three min_three max_four min_four   -- for this text's walks alone
set_option linter.unusedVariables false
set_option linter.unusedSimpArgs false

/-! ### cryostatlaw3_RecordForms: function 9 -/
def cryostatlaw3_RecordForms.j0 : Nat → Int → ByteArray → Int → ByteArray → Bool → Int → Int → Int → ByteArray → Option (Bool)
  | 0, _, _, _, _, _, _, _, _, _ => none
  | k + 1, x0, x8, x9, x10, x71, x163000, x163001, x163002, x163003 => if x71 = true then (some false) else (if 0 ≤ 31 then (if 31 ≤ (x10.size : Int) then (if x10.size + 1 ≤ 9223372036854775807 then (if 1 ≤ (x10.size : Int) then (if 1 + (x10.extract 1 x10.size).size ≤ 9223372036854775807 then (if 4 ≤ (x10.size : Int) then (if 4 + (x10.extract 4 x10.size).size ≤ 9223372036854775807 then (if 0 ≤ 4 then (if (x10.extract 0 4).size + 1 ≤ 9223372036854775807 then (if 5 ≤ (x10.size : Int) then (if ((x10.extract 0 4) ++ (⟨#[48]⟩ : ByteArray)).size + (x10.extract 5 x10.size).size ≤ 9223372036854775807 then (if 0 ≤ 5 then (if (x10.extract 0 5).size + 1 ≤ 9223372036854775807 then (if 6 ≤ (x10.size : Int) then (if ((x10.extract 0 5) ++ (⟨#[5]⟩ : ByteArray)).size + (x10.extract 6 x10.size).size ≤ 9223372036854775807 then (if ((x10.extract 0 5) ++ (⟨#[4]⟩ : ByteArray)).size + (x10.extract 6 x10.size).size ≤ 9223372036854775807 then (if 0 ≤ 6 then (if (x10.extract 0 6).size + 1 ≤ 9223372036854775807 then (if 7 ≤ (x10.size : Int) then (if ((x10.extract 0 6) ++ (⟨#[25]⟩ : ByteArray)).size + (x10.extract 7 x10.size).size ≤ 9223372036854775807 then (if ((x10.extract 0 6) ++ (⟨#[2]⟩ : ByteArray)).size + (x10.extract 7 x10.size).size ≤ 9223372036854775807 then (if 0 ≤ 7 then (if (x10.extract 0 7).size + 1 ≤ 9223372036854775807 then (if 8 ≤ (x10.size : Int) then (if ((x10.extract 0 7) ++ (⟨#[1]⟩ : ByteArray)).size + (x10.extract 8 x10.size).size ≤ 9223372036854775807 then (if (x10.extract 0 31).size + 1 ≤ 9223372036854775807 then ((some (([(⟨#[]⟩ : ByteArray), x10.extract 0 31, x10 ++ (⟨#[120]⟩ : ByteArray), (⟨#[128]⟩ : ByteArray) ++ (x10.extract 1 x10.size), (⟨#[0, 0, 0, 0]⟩ : ByteArray) ++ (x10.extract 4 x10.size), ((x10.extract 0 4) ++ (⟨#[48]⟩ : ByteArray)) ++ (x10.extract 5 x10.size), ((x10.extract 0 5) ++ (⟨#[5]⟩ : ByteArray)) ++ (x10.extract 6 x10.size), ((x10.extract 0 5) ++ (⟨#[4]⟩ : ByteArray)) ++ (x10.extract 6 x10.size), ((x10.extract 0 6) ++ (⟨#[25]⟩ : ByteArray)) ++ (x10.extract 7 x10.size), ((x10.extract 0 6) ++ (⟨#[2]⟩ : ByteArray)) ++ (x10.extract 7 x10.size), ((x10.extract 0 7) ++ (⟨#[1]⟩ : ByteArray)) ++ (x10.extract 8 x10.size), (x10.extract 0 31) ++ (⟨#[1]⟩ : ByteArray)] : List ByteArray) : List ByteArray)).bind fun y168 => (if 0 ≤ (wrap64 (Int.tmod (IntKind.u64.wrap (x0)) 12)) then (if (wrap64 (Int.tmod (IntKind.u64.wrap (x0)) 12)) < (y168.length : Int) then ((record_Get.f k (rdOf ByteArray.empty y168 (wrap64 (Int.tmod (IntKind.u64.wrap (x0)) 12)))).bind fun bt172 => ((record_May.f x163000 x163001 x163002 x163003).bind fun t178 => (if t178 = true then (some false) else (if x8.toList = ([] : List UInt8) then ((cryostatlaw0_Num.f x9).bind fun t179 => (if t179 = 300 then ((cryostatlaw0_Num.f bt172.2.2.2.2).bind fun t180 => (some (t180 == 300))) else (some false))) else (some false))))) else (none)) else (none))) else (none)) else (none)) else (none)) else (none)) else (none)) else (none)) else (none)) else (none)) else (none)) else (none)) else (none)) else (none)) else (none)) else (none)) else (none)) else (none)) else (none)) else (none)) else (none)) else (none)) else (none)) else (none)) else (none)) else (none)) else (none)) else (none))
def cryostatlaw3_RecordForms.f (k : Nat) (a0 : Int) (a1 : Int) : Option (Bool) := (cryostatlaw3_awake.f k).bind fun t154 => (if t154 = true then (if 0 ≤ (wrap64 (24 + (wrap64 (1 + (Go.bits .and .i64 a1 1023))))) then (if (wrap64 (24 + (wrap64 (1 + (Go.bits .and .i64 a1 1023)))) : Int).toNat ≤ 281474976710656 then ((some (([(⟨0, 0, 0, (⟨#[]⟩ : ByteArray)⟩ : S40), (⟨wrap64 (-(wrap64 (1 + (Go.bits .and .i64 a1 1023)))), 0, 0, (⟨#[]⟩ : ByteArray)⟩ : S40), (⟨wrap64 (2147483647 + (wrap64 (1 + (Go.bits .and .i64 a1 1023)))), 0, 0, (⟨#[]⟩ : ByteArray)⟩ : S40), (⟨1, wrap64 (-(wrap64 (1 + (Go.bits .and .i64 a1 1023)))), 0, (⟨#[]⟩ : ByteArray)⟩ : S40), (⟨1, wrap64 (47 + (wrap64 (1 + (Go.bits .and .i64 a1 1023)))), 0, (⟨#[]⟩ : ByteArray)⟩ : S40), (⟨1, 0, wrap64 (-(wrap64 (1 + (Go.bits .and .i64 a1 1023)))), (⟨#[]⟩ : ByteArray)⟩ : S40), (⟨1, 0, wrap64 (4 + (wrap64 (1 + (Go.bits .and .i64 a1 1023)))), (⟨#[]⟩ : ByteArray)⟩ : S40), (⟨1, 0, 0, strOfNums (List.replicate (wrap64 (24 + (wrap64 (1 + (Go.bits .and .i64 a1 1023)))) : Int).toNat 0)⟩ : S40), (⟨1, 1, 4, (⟨#[]⟩ : ByteArray)⟩ : S40), (⟨1, 0, 4, (⟨#[120]⟩ : ByteArray)⟩ : S40)] : List (S40)) : List (S40))).bind fun y158 => (if 0 ≤ (wrap64 (Int.tmod (IntKind.u64.wrap (a0)) 10)) then (if (wrap64 (Int.tmod (IntKind.u64.wrap (a0)) 10)) < (y158.length : Int) then ((record_Put.f ((rd_T40 y158 (wrap64 (Int.tmod (IntKind.u64.wrap (a0)) 10))).f0) ((rd_T40 y158 (wrap64 (Int.tmod (IntKind.u64.wrap (a0)) 10))).f1) ((rd_T40 y158 (wrap64 (Int.tmod (IntKind.u64.wrap (a0)) 10))).f2) ((rd_T40 y158 (wrap64 (Int.tmod (IntKind.u64.wrap (a0)) 10))).f3)).bind fun bt163 => ((record_Put.f 1 2 3 (⟨#[97, 98, 99]⟩ : ByteArray)).bind fun bt165 => ((cryostatlaw0_Num.f bt165.2).bind fun t167 => (if t167 = 0 then (cryostatlaw3_RecordForms.j0 k a0 bt163.1 bt163.2 bt165.1 ((bt165.1.size : Int) != 32) ((rd_T40 y158 (wrap64 (Int.tmod (IntKind.u64.wrap (a0)) 10))).f0) ((rd_T40 y158 (wrap64 (Int.tmod (IntKind.u64.wrap (a0)) 10))).f1) ((rd_T40 y158 (wrap64 (Int.tmod (IntKind.u64.wrap (a0)) 10))).f2) ((rd_T40 y158 (wrap64 (Int.tmod (IntKind.u64.wrap (a0)) 10))).f3)) else (cryostatlaw3_RecordForms.j0 k a0 bt163.1 bt163.2 bt165.1 true ((rd_T40 y158 (wrap64 (Int.tmod (IntKind.u64.wrap (a0)) 10))).f0) ((rd_T40 y158 (wrap64 (Int.tmod (IntKind.u64.wrap (a0)) 10))).f1) ((rd_T40 y158 (wrap64 (Int.tmod (IntKind.u64.wrap (a0)) 10))).f2) ((rd_T40 y158 (wrap64 (Int.tmod (IntKind.u64.wrap (a0)) 10))).f3)))))) else (none)) else (none))) else (none)) else (none)) else (some false))
theorem cryostatlaw3_RecordForms.mono_l : ∀ k, (∀ y0 y1 y2 y3 y4 y5 y6 y7 y8, LeO (cryostatlaw3_RecordForms.j0 k y0 y1 y2 y3 y4 y5 y6 y7 y8) (cryostatlaw3_RecordForms.j0 (k + 1) y0 y1 y2 y3 y4 y5 y6 y7 y8))
  | 0 => fun _ _ _ _ _ _ _ _ _ r h => by simp [cryostatlaw3_RecordForms.j0] at h
  | k + 1 => by
    have ih0 := cryostatlaw3_RecordForms.mono_l k
    · intro y0 y1 y2 y3 y4 y5 y6 y7 y8
      unfold cryostatlaw3_RecordForms.j0
      repeat' first
      | (with_reducible exact ih0 _ _ _ _ _ _ _ _ _)
      | (with_reducible exact cryostatlaw3_awake.mono _)
      | (with_reducible exact record_Get.mono _ _)
      | (with_reducible exact LeO.refl _)
      | (with_reducible exact LeO.none _)
      | (with_reducible refine LeO.ite ?_ ?_)
      | (with_reducible refine LeO.bind ?_ (fun _ => ?_))
      | exact ih0 _ _ _ _ _ _ _ _ _
      | exact cryostatlaw3_awake.mono _
      | exact record_Get.mono _ _
      | exact LeO.none _
      | refine LeO.ite ?_ ?_
      | refine LeO.bind ?_ (fun _ => ?_)
theorem cryostatlaw3_RecordForms.mono : ∀ a0 a1 k, LeO (cryostatlaw3_RecordForms.f k a0 a1) (cryostatlaw3_RecordForms.f (k + 1) a0 a1) := by
  intro a0 a1 k
  have ih0 := cryostatlaw3_RecordForms.mono_l k
  unfold cryostatlaw3_RecordForms.f
  repeat' first
      | (with_reducible exact ih0 _ _ _ _ _ _ _ _ _)
      | (with_reducible exact cryostatlaw3_awake.mono _)
      | (with_reducible exact record_Get.mono _ _)
      | (with_reducible exact LeO.refl _)
      | (with_reducible exact LeO.none _)
      | (with_reducible refine LeO.ite ?_ ?_)
      | (with_reducible refine LeO.bind ?_ (fun _ => ?_))
      | exact ih0 _ _ _ _ _ _ _ _ _
      | exact cryostatlaw3_awake.mono _
      | exact record_Get.mono _ _
      | exact LeO.none _
      | refine LeO.ite ?_ ?_
      | refine LeO.bind ?_ (fun _ => ?_)
def cryostatlaw3_RecordForms.T10 : Bool × List (List Nat × List Nat) := (true, [([], []), ([0], [0]), ([], []), ([2], [2]), ([], []), ([4], [4]), ([5], [5]), ([], []), ([7], [7]), ([8], [8]), ([], []), ([10], [10]), ([11], [11]), ([], []), ([13], [13]), ([12, 14], [12, 14]), ([], []), ([16], [16]), ([17], [17]), ([], []), ([19], [19]), ([18, 20], [18, 20]), ([], []), ([22], [22]), ([23], [23]), ([], []), ([25], [25]), ([24, 26], [24, 26]), ([], []), ([28], [28]), ([29], [29]), ([], []), ([31], [31]), ([30, 32], [30, 32]), ([], []), ([34], [34]), ([35], [35]), ([], []), ([37], [37]), ([36, 38], [36, 38]), ([], []), ([40], [40]), ([41], [41]), ([], []), ([43], [43]), ([42, 44], [42, 44]), ([], []), ([46], [46]), ([47], [47]), ([1, 3, 6, 9, 15, 21, 27, 33, 39, 45, 48], [1, 3, 6, 9, 15, 21, 27, 33, 39, 45, 48]), ([49, 0, 1, 2, 3, 4, 5, 6, 7, 8, 9, 10, 11, 12, 13, 14, 15, 16, 17, 18, 19, 20, 21, 22, 23, 24, 25, 26, 27, 28, 29, 30, 31, 32, 33, 34, 35, 36, 37, 38, 39, 40, 41, 42, 43, 44, 45, 46, 47, 48, 49], [49])])
def cryostatlaw3_RecordForms.B10 : List Nat := [0, 1, 0, 4, 0, 16, 48, 0, 128, 384, 0, 1024, 3072, 0, 8192, 31744, 0, 65536, 196608, 0, 524288, 2031616, 0, 4194304, 12582912, 0, 33554432, 130023424, 0, 268435456, 805306368, 0, 2147483648, 8321499136, 0, 17179869184, 51539607552, 0, 137438953472, 532575944704, 0, 1099511627776, 3298534883328, 0, 8796093022208, 34084860461056, 0, 70368744177664, 211106232532992, 562949953421311, 1125899906842623]
theorem cryostatlaw3_RecordForms.tab10 : rtab .any (opsOf Try.f9 10) = cryostatlaw3_RecordForms.T10 := by kernel_rfl
theorem cryostatlaw3_RecordForms.bits10 : waitsOk cryostatlaw3_RecordForms.T10.2 cryostatlaw3_RecordForms.B10 = true := by kernel_rfl
set_option maxHeartbeats 8000000 in
set_option maxRecDepth 100000 in
theorem cryostatlaw3_RecordForms.calls (k : Nat) (a0 : Int) (a1 : Int) (r : Bool) (w : World) (hr : Aside0 (r = true)) (h : cryostatlaw3_RecordForms.f k a0 a1 = some r) :
    Calls Try.prog 9 #[.int .i64 a0, .int .i64 a1] w fun e w' => e = .returned (.bool r) ∧ Below w.heap.size w w' := by
  have hu40 := Try.underlying40
  have HB := Aside0.mk (Below.refl w.heap.size w)
  have H : ((cryostatlaw3_awake.f k).bind fun t154 => (if t154 = true then (if 0 ≤ (wrap64 (24 + (wrap64 (1 + (Go.bits .and .i64 a1 1023))))) then (if (wrap64 (24 + (wrap64 (1 + (Go.bits .and .i64 a1 1023)))) : Int).toNat ≤ 281474976710656 then ((some (([(⟨0, 0, 0, (⟨#[]⟩ : ByteArray)⟩ : S40), (⟨wrap64 (-(wrap64 (1 + (Go.bits .and .i64 a1 1023)))), 0, 0, (⟨#[]⟩ : ByteArray)⟩ : S40), (⟨wrap64 (2147483647 + (wrap64 (1 + (Go.bits .and .i64 a1 1023)))), 0, 0, (⟨#[]⟩ : ByteArray)⟩ : S40), (⟨1, wrap64 (-(wrap64 (1 + (Go.bits .and .i64 a1 1023)))), 0, (⟨#[]⟩ : ByteArray)⟩ : S40), (⟨1, wrap64 (47 + (wrap64 (1 + (Go.bits .and .i64 a1 1023)))), 0, (⟨#[]⟩ : ByteArray)⟩ : S40), (⟨1, 0, wrap64 (-(wrap64 (1 + (Go.bits .and .i64 a1 1023)))), (⟨#[]⟩ : ByteArray)⟩ : S40), (⟨1, 0, wrap64 (4 + (wrap64 (1 + (Go.bits .and .i64 a1 1023)))), (⟨#[]⟩ : ByteArray)⟩ : S40), (⟨1, 0, 0, strOfNums (List.replicate (wrap64 (24 + (wrap64 (1 + (Go.bits .and .i64 a1 1023)))) : Int).toNat 0)⟩ : S40), (⟨1, 1, 4, (⟨#[]⟩ : ByteArray)⟩ : S40), (⟨1, 0, 4, (⟨#[120]⟩ : ByteArray)⟩ : S40)] : List (S40)) : List (S40))).bind fun y158 => (if 0 ≤ (wrap64 (Int.tmod (IntKind.u64.wrap (a0)) 10)) then (if (wrap64 (Int.tmod (IntKind.u64.wrap (a0)) 10)) < (y158.length : Int) then ((record_Put.f ((rd_T40 y158 (wrap64 (Int.tmod (IntKind.u64.wrap (a0)) 10))).f0) ((rd_T40 y158 (wrap64 (Int.tmod (IntKind.u64.wrap (a0)) 10))).f1) ((rd_T40 y158 (wrap64 (Int.tmod (IntKind.u64.wrap (a0)) 10))).f2) ((rd_T40 y158 (wrap64 (Int.tmod (IntKind.u64.wrap (a0)) 10))).f3)).bind fun bt163 => ((record_Put.f 1 2 3 (⟨#[97, 98, 99]⟩ : ByteArray)).bind fun bt165 => ((cryostatlaw0_Num.f bt165.2).bind fun t167 => (if t167 = 0 then (cryostatlaw3_RecordForms.j0 k a0 bt163.1 bt163.2 bt165.1 ((bt165.1.size : Int) != 32) ((rd_T40 y158 (wrap64 (Int.tmod (IntKind.u64.wrap (a0)) 10))).f0) ((rd_T40 y158 (wrap64 (Int.tmod (IntKind.u64.wrap (a0)) 10))).f1) ((rd_T40 y158 (wrap64 (Int.tmod (IntKind.u64.wrap (a0)) 10))).f2) ((rd_T40 y158 (wrap64 (Int.tmod (IntKind.u64.wrap (a0)) 10))).f3)) else (cryostatlaw3_RecordForms.j0 k a0 bt163.1 bt163.2 bt165.1 true ((rd_T40 y158 (wrap64 (Int.tmod (IntKind.u64.wrap (a0)) 10))).f0) ((rd_T40 y158 (wrap64 (Int.tmod (IntKind.u64.wrap (a0)) 10))).f1) ((rd_T40 y158 (wrap64 (Int.tmod (IntKind.u64.wrap (a0)) 10))).f2) ((rd_T40 y158 (wrap64 (Int.tmod (IntKind.u64.wrap (a0)) 10))).f3)))))) else (none)) else (none))) else (none)) else (none)) else (some false))) = some r := h
  clear h
  replace H := Option.bind_eq_some_iff.mp H
  obtain ⟨t154, A30, H⟩ := H
  replace H : (if t154 = true then (if 0 ≤ (wrap64 (24 + (wrap64 (1 + (Go.bits .and .i64 a1 1023))))) then (if (wrap64 (24 + (wrap64 (1 + (Go.bits .and .i64 a1 1023)))) : Int).toNat ≤ 281474976710656 then ((some (([(⟨0, 0, 0, (⟨#[]⟩ : ByteArray)⟩ : S40), (⟨wrap64 (-(wrap64 (1 + (Go.bits .and .i64 a1 1023)))), 0, 0, (⟨#[]⟩ : ByteArray)⟩ : S40), (⟨wrap64 (2147483647 + (wrap64 (1 + (Go.bits .and .i64 a1 1023)))), 0, 0, (⟨#[]⟩ : ByteArray)⟩ : S40), (⟨1, wrap64 (-(wrap64 (1 + (Go.bits .and .i64 a1 1023)))), 0, (⟨#[]⟩ : ByteArray)⟩ : S40), (⟨1, wrap64 (47 + (wrap64 (1 + (Go.bits .and .i64 a1 1023)))), 0, (⟨#[]⟩ : ByteArray)⟩ : S40), (⟨1, 0, wrap64 (-(wrap64 (1 + (Go.bits .and .i64 a1 1023)))), (⟨#[]⟩ : ByteArray)⟩ : S40), (⟨1, 0, wrap64 (4 + (wrap64 (1 + (Go.bits .and .i64 a1 1023)))), (⟨#[]⟩ : ByteArray)⟩ : S40), (⟨1, 0, 0, strOfNums (List.replicate (wrap64 (24 + (wrap64 (1 + (Go.bits .and .i64 a1 1023)))) : Int).toNat 0)⟩ : S40), (⟨1, 1, 4, (⟨#[]⟩ : ByteArray)⟩ : S40), (⟨1, 0, 4, (⟨#[120]⟩ : ByteArray)⟩ : S40)] : List (S40)) : List (S40))).bind fun y158 => (if 0 ≤ (wrap64 (Int.tmod (IntKind.u64.wrap (a0)) 10)) then (if (wrap64 (Int.tmod (IntKind.u64.wrap (a0)) 10)) < (y158.length : Int) then ((record_Put.f ((rd_T40 y158 (wrap64 (Int.tmod (IntKind.u64.wrap (a0)) 10))).f0) ((rd_T40 y158 (wrap64 (Int.tmod (IntKind.u64.wrap (a0)) 10))).f1) ((rd_T40 y158 (wrap64 (Int.tmod (IntKind.u64.wrap (a0)) 10))).f2) ((rd_T40 y158 (wrap64 (Int.tmod (IntKind.u64.wrap (a0)) 10))).f3)).bind fun bt163 => ((record_Put.f 1 2 3 (⟨#[97, 98, 99]⟩ : ByteArray)).bind fun bt165 => ((cryostatlaw0_Num.f bt165.2).bind fun t167 => (if t167 = 0 then (cryostatlaw3_RecordForms.j0 k a0 bt163.1 bt163.2 bt165.1 ((bt165.1.size : Int) != 32) ((rd_T40 y158 (wrap64 (Int.tmod (IntKind.u64.wrap (a0)) 10))).f0) ((rd_T40 y158 (wrap64 (Int.tmod (IntKind.u64.wrap (a0)) 10))).f1) ((rd_T40 y158 (wrap64 (Int.tmod (IntKind.u64.wrap (a0)) 10))).f2) ((rd_T40 y158 (wrap64 (Int.tmod (IntKind.u64.wrap (a0)) 10))).f3)) else (cryostatlaw3_RecordForms.j0 k a0 bt163.1 bt163.2 bt165.1 true ((rd_T40 y158 (wrap64 (Int.tmod (IntKind.u64.wrap (a0)) 10))).f0) ((rd_T40 y158 (wrap64 (Int.tmod (IntKind.u64.wrap (a0)) 10))).f1) ((rd_T40 y158 (wrap64 (Int.tmod (IntKind.u64.wrap (a0)) 10))).f2) ((rd_T40 y158 (wrap64 (Int.tmod (IntKind.u64.wrap (a0)) 10))).f3)))))) else (none)) else (none))) else (none)) else (none)) else (some false)) = some r := H
  have A3 := Aside0.mk A30
  clear A30
  by_cases c4 : t154 = true
  · subst c4
    have H1 : (if 0 ≤ (wrap64 (24 + (wrap64 (1 + (Go.bits .and .i64 a1 1023))))) then (if (wrap64 (24 + (wrap64 (1 + (Go.bits .and .i64 a1 1023)))) : Int).toNat ≤ 281474976710656 then ((some (([(⟨0, 0, 0, (⟨#[]⟩ : ByteArray)⟩ : S40), (⟨wrap64 (-(wrap64 (1 + (Go.bits .and .i64 a1 1023)))), 0, 0, (⟨#[]⟩ : ByteArray)⟩ : S40), (⟨wrap64 (2147483647 + (wrap64 (1 + (Go.bits .and .i64 a1 1023)))), 0, 0, (⟨#[]⟩ : ByteArray)⟩ : S40), (⟨1, wrap64 (-(wrap64 (1 + (Go.bits .and .i64 a1 1023)))), 0, (⟨#[]⟩ : ByteArray)⟩ : S40), (⟨1, wrap64 (47 + (wrap64 (1 + (Go.bits .and .i64 a1 1023)))), 0, (⟨#[]⟩ : ByteArray)⟩ : S40), (⟨1, 0, wrap64 (-(wrap64 (1 + (Go.bits .and .i64 a1 1023)))), (⟨#[]⟩ : ByteArray)⟩ : S40), (⟨1, 0, wrap64 (4 + (wrap64 (1 + (Go.bits .and .i64 a1 1023)))), (⟨#[]⟩ : ByteArray)⟩ : S40), (⟨1, 0, 0, strOfNums (List.replicate (wrap64 (24 + (wrap64 (1 + (Go.bits .and .i64 a1 1023)))) : Int).toNat 0)⟩ : S40), (⟨1, 1, 4, (⟨#[]⟩ : ByteArray)⟩ : S40), (⟨1, 0, 4, (⟨#[120]⟩ : ByteArray)⟩ : S40)] : List (S40)) : List (S40))).bind fun y158 => (if 0 ≤ (wrap64 (Int.tmod (IntKind.u64.wrap (a0)) 10)) then (if (wrap64 (Int.tmod (IntKind.u64.wrap (a0)) 10)) < (y158.length : Int) then ((record_Put.f ((rd_T40 y158 (wrap64 (Int.tmod (IntKind.u64.wrap (a0)) 10))).f0) ((rd_T40 y158 (wrap64 (Int.tmod (IntKind.u64.wrap (a0)) 10))).f1) ((rd_T40 y158 (wrap64 (Int.tmod (IntKind.u64.wrap (a0)) 10))).f2) ((rd_T40 y158 (wrap64 (Int.tmod (IntKind.u64.wrap (a0)) 10))).f3)).bind fun bt163 => ((record_Put.f 1 2 3 (⟨#[97, 98, 99]⟩ : ByteArray)).bind fun bt165 => ((cryostatlaw0_Num.f bt165.2).bind fun t167 => (if t167 = 0 then (cryostatlaw3_RecordForms.j0 k a0 bt163.1 bt163.2 bt165.1 ((bt165.1.size : Int) != 32) ((rd_T40 y158 (wrap64 (Int.tmod (IntKind.u64.wrap (a0)) 10))).f0) ((rd_T40 y158 (wrap64 (Int.tmod (IntKind.u64.wrap (a0)) 10))).f1) ((rd_T40 y158 (wrap64 (Int.tmod (IntKind.u64.wrap (a0)) 10))).f2) ((rd_T40 y158 (wrap64 (Int.tmod (IntKind.u64.wrap (a0)) 10))).f3)) else (cryostatlaw3_RecordForms.j0 k a0 bt163.1 bt163.2 bt165.1 true ((rd_T40 y158 (wrap64 (Int.tmod (IntKind.u64.wrap (a0)) 10))).f0) ((rd_T40 y158 (wrap64 (Int.tmod (IntKind.u64.wrap (a0)) 10))).f1) ((rd_T40 y158 (wrap64 (Int.tmod (IntKind.u64.wrap (a0)) 10))).f2) ((rd_T40 y158 (wrap64 (Int.tmod (IntKind.u64.wrap (a0)) 10))).f3)))))) else (none)) else (none))) else (none)) else (none)) = some r := by rw [if_pos rfl] at H; exact H
    clear H
    have H := H1
    clear H1
    obtain ⟨ji5, hji5⟩ : ∃ j_ : Int, (wrap64 (24 + (wrap64 (1 + (Go.bits .and .i64 a1 1023))))) = j_ := ⟨_, rfl⟩
    replace H : (if 0 ≤ (ji5) then (if (ji5 : Int).toNat ≤ 281474976710656 then ((some (([(⟨0, 0, 0, (⟨#[]⟩ : ByteArray)⟩ : S40), (⟨wrap64 (-(wrap64 (1 + (Go.bits .and .i64 a1 1023)))), 0, 0, (⟨#[]⟩ : ByteArray)⟩ : S40), (⟨wrap64 (2147483647 + (wrap64 (1 + (Go.bits .and .i64 a1 1023)))), 0, 0, (⟨#[]⟩ : ByteArray)⟩ : S40), (⟨1, wrap64 (-(wrap64 (1 + (Go.bits .and .i64 a1 1023)))), 0, (⟨#[]⟩ : ByteArray)⟩ : S40), (⟨1, wrap64 (47 + (wrap64 (1 + (Go.bits .and .i64 a1 1023)))), 0, (⟨#[]⟩ : ByteArray)⟩ : S40), (⟨1, 0, wrap64 (-(wrap64 (1 + (Go.bits .and .i64 a1 1023)))), (⟨#[]⟩ : ByteArray)⟩ : S40), (⟨1, 0, wrap64 (4 + (wrap64 (1 + (Go.bits .and .i64 a1 1023)))), (⟨#[]⟩ : ByteArray)⟩ : S40), (⟨1, 0, 0, strOfNums (List.replicate (ji5 : Int).toNat 0)⟩ : S40), (⟨1, 1, 4, (⟨#[]⟩ : ByteArray)⟩ : S40), (⟨1, 0, 4, (⟨#[120]⟩ : ByteArray)⟩ : S40)] : List (S40)) : List (S40))).bind fun y158 => (if 0 ≤ (wrap64 (Int.tmod (IntKind.u64.wrap (a0)) 10)) then (if (wrap64 (Int.tmod (IntKind.u64.wrap (a0)) 10)) < (y158.length : Int) then ((record_Put.f ((rd_T40 y158 (wrap64 (Int.tmod (IntKind.u64.wrap (a0)) 10))).f0) ((rd_T40 y158 (wrap64 (Int.tmod (IntKind.u64.wrap (a0)) 10))).f1) ((rd_T40 y158 (wrap64 (Int.tmod (IntKind.u64.wrap (a0)) 10))).f2) ((rd_T40 y158 (wrap64 (Int.tmod (IntKind.u64.wrap (a0)) 10))).f3)).bind fun bt163 => ((record_Put.f 1 2 3 (⟨#[97, 98, 99]⟩ : ByteArray)).bind fun bt165 => ((cryostatlaw0_Num.f bt165.2).bind fun t167 => (if t167 = 0 then (cryostatlaw3_RecordForms.j0 k a0 bt163.1 bt163.2 bt165.1 ((bt165.1.size : Int) != 32) ((rd_T40 y158 (wrap64 (Int.tmod (IntKind.u64.wrap (a0)) 10))).f0) ((rd_T40 y158 (wrap64 (Int.tmod (IntKind.u64.wrap (a0)) 10))).f1) ((rd_T40 y158 (wrap64 (Int.tmod (IntKind.u64.wrap (a0)) 10))).f2) ((rd_T40 y158 (wrap64 (Int.tmod (IntKind.u64.wrap (a0)) 10))).f3)) else (cryostatlaw3_RecordForms.j0 k a0 bt163.1 bt163.2 bt165.1 true ((rd_T40 y158 (wrap64 (Int.tmod (IntKind.u64.wrap (a0)) 10))).f0) ((rd_T40 y158 (wrap64 (Int.tmod (IntKind.u64.wrap (a0)) 10))).f1) ((rd_T40 y158 (wrap64 (Int.tmod (IntKind.u64.wrap (a0)) 10))).f2) ((rd_T40 y158 (wrap64 (Int.tmod (IntKind.u64.wrap (a0)) 10))).f3)))))) else (none)) else (none))) else (none)) else (none)) = some r := by first | (rw [hji5] at H; exact H) | (simp only [hji5] at H ⊢; exact H)
    (try rw [hji5] at A3)
    have hji5w : (IntKind.i64.wrap (24 + (wrap64 (1 + (Go.bits .and .i64 a1 1023))))) = ji5 := (i64_w _).trans hji5
    by_cases c6 : 0 ≤ (ji5)
    · rw [if_pos c6] at H
      have c6b0 := eq_true c6
      have c6b1 : decide (0 ≤ (ji5)) = true := decide_eq_true c6
      clear c6
      by_cases c7 : (ji5 : Int).toNat ≤ 281474976710656
      · rw [if_pos c7] at H
        have c7b0 := eq_true c7
        have c7b1 : decide ((ji5 : Int).toNat ≤ 281474976710656) = true := decide_eq_true c7
        clear c7
        obtain ⟨y155, hy155⟩ : ∃ y_ : List Int, y_ = (List.replicate (ji5 : Int).toNat 0) := ⟨_, rfl⟩
        replace H : ((some (([(⟨0, 0, 0, (⟨#[]⟩ : ByteArray)⟩ : S40), (⟨wrap64 (-(wrap64 (1 + (Go.bits .and .i64 a1 1023)))), 0, 0, (⟨#[]⟩ : ByteArray)⟩ : S40), (⟨wrap64 (2147483647 + (wrap64 (1 + (Go.bits .and .i64 a1 1023)))), 0, 0, (⟨#[]⟩ : ByteArray)⟩ : S40), (⟨1, wrap64 (-(wrap64 (1 + (Go.bits .and .i64 a1 1023)))), 0, (⟨#[]⟩ : ByteArray)⟩ : S40), (⟨1, wrap64 (47 + (wrap64 (1 + (Go.bits .and .i64 a1 1023)))), 0, (⟨#[]⟩ : ByteArray)⟩ : S40), (⟨1, 0, wrap64 (-(wrap64 (1 + (Go.bits .and .i64 a1 1023)))), (⟨#[]⟩ : ByteArray)⟩ : S40), (⟨1, 0, wrap64 (4 + (wrap64 (1 + (Go.bits .and .i64 a1 1023)))), (⟨#[]⟩ : ByteArray)⟩ : S40), (⟨1, 0, 0, strOfNums y155⟩ : S40), (⟨1, 1, 4, (⟨#[]⟩ : ByteArray)⟩ : S40), (⟨1, 0, 4, (⟨#[120]⟩ : ByteArray)⟩ : S40)] : List (S40)) : List (S40))).bind fun y158 => (if 0 ≤ (wrap64 (Int.tmod (IntKind.u64.wrap (a0)) 10)) then (if (wrap64 (Int.tmod (IntKind.u64.wrap (a0)) 10)) < (y158.length : Int) then ((record_Put.f ((rd_T40 y158 (wrap64 (Int.tmod (IntKind.u64.wrap (a0)) 10))).f0) ((rd_T40 y158 (wrap64 (Int.tmod (IntKind.u64.wrap (a0)) 10))).f1) ((rd_T40 y158 (wrap64 (Int.tmod (IntKind.u64.wrap (a0)) 10))).f2) ((rd_T40 y158 (wrap64 (Int.tmod (IntKind.u64.wrap (a0)) 10))).f3)).bind fun bt163 => ((record_Put.f 1 2 3 (⟨#[97, 98, 99]⟩ : ByteArray)).bind fun bt165 => ((cryostatlaw0_Num.f bt165.2).bind fun t167 => (if t167 = 0 then (cryostatlaw3_RecordForms.j0 k a0 bt163.1 bt163.2 bt165.1 ((bt165.1.size : Int) != 32) ((rd_T40 y158 (wrap64 (Int.tmod (IntKind.u64.wrap (a0)) 10))).f0) ((rd_T40 y158 (wrap64 (Int.tmod (IntKind.u64.wrap (a0)) 10))).f1) ((rd_T40 y158 (wrap64 (Int.tmod (IntKind.u64.wrap (a0)) 10))).f2) ((rd_T40 y158 (wrap64 (Int.tmod (IntKind.u64.wrap (a0)) 10))).f3)) else (cryostatlaw3_RecordForms.j0 k a0 bt163.1 bt163.2 bt165.1 true ((rd_T40 y158 (wrap64 (Int.tmod (IntKind.u64.wrap (a0)) 10))).f0) ((rd_T40 y158 (wrap64 (Int.tmod (IntKind.u64.wrap (a0)) 10))).f1) ((rd_T40 y158 (wrap64 (Int.tmod (IntKind.u64.wrap (a0)) 10))).f2) ((rd_T40 y158 (wrap64 (Int.tmod (IntKind.u64.wrap (a0)) 10))).f3)))))) else (none)) else (none))) = some r := by first | (rw [hy155]; with_reducible exact H) | (have H2_ := (Option.bind_some _ _).symm.trans H; rw [hy155]; with_reducible exact H2_) | (have H2_ := (Option.bind_some _ _).symm.trans H; with_reducible exact H2_) | with_reducible exact H | (rw [hy155]; exact H) | exact H
        have Ny155 := Aside0.mk hy155
        clear hy155
        obtain ⟨y158, hy158⟩ : ∃ y_ : List (S40), y_ = (([(⟨0, 0, 0, (⟨#[]⟩ : ByteArray)⟩ : S40), (⟨wrap64 (-(wrap64 (1 + (Go.bits .and .i64 a1 1023)))), 0, 0, (⟨#[]⟩ : ByteArray)⟩ : S40), (⟨wrap64 (2147483647 + (wrap64 (1 + (Go.bits .and .i64 a1 1023)))), 0, 0, (⟨#[]⟩ : ByteArray)⟩ : S40), (⟨1, wrap64 (-(wrap64 (1 + (Go.bits .and .i64 a1 1023)))), 0, (⟨#[]⟩ : ByteArray)⟩ : S40), (⟨1, wrap64 (47 + (wrap64 (1 + (Go.bits .and .i64 a1 1023)))), 0, (⟨#[]⟩ : ByteArray)⟩ : S40), (⟨1, 0, wrap64 (-(wrap64 (1 + (Go.bits .and .i64 a1 1023)))), (⟨#[]⟩ : ByteArray)⟩ : S40), (⟨1, 0, wrap64 (4 + (wrap64 (1 + (Go.bits .and .i64 a1 1023)))), (⟨#[]⟩ : ByteArray)⟩ : S40), (⟨1, 0, 0, strOfNums y155⟩ : S40), (⟨1, 1, 4, (⟨#[]⟩ : ByteArray)⟩ : S40), (⟨1, 0, 4, (⟨#[120]⟩ : ByteArray)⟩ : S40)] : List (S40))) := ⟨_, rfl⟩
        replace H : (if 0 ≤ (wrap64 (Int.tmod (IntKind.u64.wrap (a0)) 10)) then (if (wrap64 (Int.tmod (IntKind.u64.wrap (a0)) 10)) < (y158.length : Int) then ((record_Put.f ((rd_T40 y158 (wrap64 (Int.tmod (IntKind.u64.wrap (a0)) 10))).f0) ((rd_T40 y158 (wrap64 (Int.tmod (IntKind.u64.wrap (a0)) 10))).f1) ((rd_T40 y158 (wrap64 (Int.tmod (IntKind.u64.wrap (a0)) 10))).f2) ((rd_T40 y158 (wrap64 (Int.tmod (IntKind.u64.wrap (a0)) 10))).f3)).bind fun bt163 => ((record_Put.f 1 2 3 (⟨#[97, 98, 99]⟩ : ByteArray)).bind fun bt165 => ((cryostatlaw0_Num.f bt165.2).bind fun t167 => (if t167 = 0 then (cryostatlaw3_RecordForms.j0 k a0 bt163.1 bt163.2 bt165.1 ((bt165.1.size : Int) != 32) ((rd_T40 y158 (wrap64 (Int.tmod (IntKind.u64.wrap (a0)) 10))).f0) ((rd_T40 y158 (wrap64 (Int.tmod (IntKind.u64.wrap (a0)) 10))).f1) ((rd_T40 y158 (wrap64 (Int.tmod (IntKind.u64.wrap (a0)) 10))).f2) ((rd_T40 y158 (wrap64 (Int.tmod (IntKind.u64.wrap (a0)) 10))).f3)) else (cryostatlaw3_RecordForms.j0 k a0 bt163.1 bt163.2 bt165.1 true ((rd_T40 y158 (wrap64 (Int.tmod (IntKind.u64.wrap (a0)) 10))).f0) ((rd_T40 y158 (wrap64 (Int.tmod (IntKind.u64.wrap (a0)) 10))).f1) ((rd_T40 y158 (wrap64 (Int.tmod (IntKind.u64.wrap (a0)) 10))).f2) ((rd_T40 y158 (wrap64 (Int.tmod (IntKind.u64.wrap (a0)) 10))).f3)))))) else (none)) else (none)) = some r := by first | (rw [hy158]; with_reducible exact H) | (have H2_ := (Option.bind_some _ _).symm.trans H; rw [hy158]; with_reducible exact H2_) | (have H2_ := (Option.bind_some _ _).symm.trans H; with_reducible exact H2_) | with_reducible exact H | (rw [hy158]; exact H) | exact H
        have Ny158 := Aside0.mk hy158
        clear hy158
        obtain ⟨ji8, hji8⟩ : ∃ j_ : Int, (wrap64 (Int.tmod (IntKind.u64.wrap (a0)) 10)) = j_ := ⟨_, rfl⟩
        replace H : (if 0 ≤ (ji8) then (if (ji8) < (y158.length : Int) then ((record_Put.f ((rd_T40 y158 (ji8)).f0) ((rd_T40 y158 (ji8)).f1) ((rd_T40 y158 (ji8)).f2) ((rd_T40 y158 (ji8)).f3)).bind fun bt163 => ((record_Put.f 1 2 3 (⟨#[97, 98, 99]⟩ : ByteArray)).bind fun bt165 => ((cryostatlaw0_Num.f bt165.2).bind fun t167 => (if t167 = 0 then (cryostatlaw3_RecordForms.j0 k a0 bt163.1 bt163.2 bt165.1 ((bt165.1.size : Int) != 32) ((rd_T40 y158 (ji8)).f0) ((rd_T40 y158 (ji8)).f1) ((rd_T40 y158 (ji8)).f2) ((rd_T40 y158 (ji8)).f3)) else (cryostatlaw3_RecordForms.j0 k a0 bt163.1 bt163.2 bt165.1 true ((rd_T40 y158 (ji8)).f0) ((rd_T40 y158 (ji8)).f1) ((rd_T40 y158 (ji8)).f2) ((rd_T40 y158 (ji8)).f3)))))) else (none)) else (none)) = some r := by first | (rw [hji8] at H; exact H) | (simp only [hji8] at H ⊢; exact H)
        (try rw [hji8] at A3)
        have hji8w : (IntKind.i64.wrap (Int.tmod (IntKind.u64.wrap (a0)) 10)) = ji8 := (i64_w _).trans hji8
        by_cases c9 : 0 ≤ (ji8)
        · rw [if_pos c9] at H
          have c9b0 : decide (0 ≤ (ji8)) = true := decide_eq_true c9
          clear c9
          by_cases c10 : (ji8) < (y158.length : Int)
          · rw [if_pos c10] at H
            have c10b0 : decide ((ji8) < (y158.length : Int)) = true := decide_eq_true c10
            clear c10
            replace H := Option.bind_eq_some_iff.mp H
            obtain ⟨⟨t163, t164⟩, A110, H⟩ := H
            replace H : ((record_Put.f 1 2 3 (⟨#[97, 98, 99]⟩ : ByteArray)).bind fun bt165 => ((cryostatlaw0_Num.f bt165.2).bind fun t167 => (if t167 = 0 then (cryostatlaw3_RecordForms.j0 k a0 t163 t164 bt165.1 ((bt165.1.size : Int) != 32) ((rd_T40 y158 (ji8)).f0) ((rd_T40 y158 (ji8)).f1) ((rd_T40 y158 (ji8)).f2) ((rd_T40 y158 (ji8)).f3)) else (cryostatlaw3_RecordForms.j0 k a0 t163 t164 bt165.1 true ((rd_T40 y158 (ji8)).f0) ((rd_T40 y158 (ji8)).f1) ((rd_T40 y158 (ji8)).f2) ((rd_T40 y158 (ji8)).f3))))) = some r := H
            have A11 := Aside0.mk A110
            clear A110
            replace H := Option.bind_eq_some_iff.mp H
            obtain ⟨⟨t165, t166⟩, A120, H⟩ := H
            replace H : ((cryostatlaw0_Num.f t166).bind fun t167 => (if t167 = 0 then (cryostatlaw3_RecordForms.j0 k a0 t163 t164 t165 ((t165.size : Int) != 32) ((rd_T40 y158 (ji8)).f0) ((rd_T40 y158 (ji8)).f1) ((rd_T40 y158 (ji8)).f2) ((rd_T40 y158 (ji8)).f3)) else (cryostatlaw3_RecordForms.j0 k a0 t163 t164 t165 true ((rd_T40 y158 (ji8)).f0) ((rd_T40 y158 (ji8)).f1) ((rd_T40 y158 (ji8)).f2) ((rd_T40 y158 (ji8)).f3)))) = some r := H
            have A12 := Aside0.mk A120
            clear A120
            have HC13 := Aside0.mk H
            clear H
            go_enter Try.func9, Try.ntmps9
            go_upto_region 8 with (first | ((with_reducible refine gate_callee (f := 32) rfl ?_); refine goesL_ (some 15) rfl rfl Try.func32 (by kernel_rfl) rfl #[] rfl (by (try simp only [List.map_toArray, List.map_cons, List.map_nil]); first | done | rfl | (simp only [List.length_drop, List.length_take]; rfl)) ?_; (with_reducible refine (cryostatlaw3_awake.calls k  true _ ⟨rfl⟩ A3.out).mono ?_); rintro e w14 ⟨rfl, hb⟩; refine ⟨_, rfl, ?_⟩; have n0_ := Aside0.mk (below_step (by repeat (first | (with_reducible first | exact HB.out | apply below_alloc | apply pw_below_drewN | apply below_drew1) | exact HB.out)) hb); clear HB; have HB := n0_; clear n0_; (try clear hb); (try clear hb2); (try clear hk); (try clear hi)) | ((with_reducible refine gate_dst (N := 41) rfl ?_); (try (refine gate_guard (by rfl) ?_; dsimp only)); refine Kd.R_make (Kd.int .u8) _ 5 rfl (N := 41) rfl 34 _ _ rfl ji5 rfl rfl Try.underlying34 (.int .u8 0) 1 info5 rfl (by decide) (by omega) 0 (ok := fun _ => True) (okp := fun _ => True) rfl (fun _ hk => hk) trivial (of_decide_eq_true (by first | (with_reducible assumption) | assumption)) (Nat.le_trans (Nat.mul_le_mul_right _ (of_decide_eq_true (by first | (with_reducible assumption) | assumption) : ji5.toNat ≤ 281474976710656)) (by omega)) (Below.refl _ _) (Nat.le_refl _) ?_; intro v156 w15 ho16 hb hg_ hnew_; clear hg_ hnew_; (first | rw [← Ny155.out] at ho16 | (simp only [Int.reduceToNat] at ho16; rw [← Ny155.out] at ho16)); have n0_ := Aside0.mk (Kd.R_lower ho16 (below_size (by repeat (first | (with_reducible first | exact HB.out | apply below_alloc | apply pw_below_drewN | apply below_drew1) | exact HB.out)))); have n1_ := Aside0.mk (below_step (by repeat (first | (with_reducible first | exact HB.out | apply below_alloc | apply pw_below_drewN | apply below_drew1) | exact HB.out)) hb); clear HB; have HO157 := n0_; have HB := n1_; clear n0_ n1_; clear hb ho16; have hcv17 := own_string (P := Try.prog) Try.underlying34 Try.underlying5 Try.underlying9 (Kd.own_of_R HO157.out)) | ((with_reducible refine gate_dst (N := 46) rfl ?_); (try (refine gate_guard (by rfl) ?_; dsimp only)); refine Kd.R_lit k40 _ 40 ?hg (N := 46) ?hd (xs := ([(⟨0, 0, 0, (⟨#[]⟩ : ByteArray)⟩ : S40), (⟨wrap64 (-(wrap64 (1 + (Go.bits .and .i64 a1 1023)))), 0, 0, (⟨#[]⟩ : ByteArray)⟩ : S40), (⟨wrap64 (2147483647 + (wrap64 (1 + (Go.bits .and .i64 a1 1023)))), 0, 0, (⟨#[]⟩ : ByteArray)⟩ : S40), (⟨1, wrap64 (-(wrap64 (1 + (Go.bits .and .i64 a1 1023)))), 0, (⟨#[]⟩ : ByteArray)⟩ : S40), (⟨1, wrap64 (47 + (wrap64 (1 + (Go.bits .and .i64 a1 1023)))), 0, (⟨#[]⟩ : ByteArray)⟩ : S40), (⟨1, 0, wrap64 (-(wrap64 (1 + (Go.bits .and .i64 a1 1023)))), (⟨#[]⟩ : ByteArray)⟩ : S40), (⟨1, 0, wrap64 (4 + (wrap64 (1 + (Go.bits .and .i64 a1 1023)))), (⟨#[]⟩ : ByteArray)⟩ : S40), (⟨1, 0, 0, strOfNums y155⟩ : S40), (⟨1, 1, 4, (⟨#[]⟩ : ByteArray)⟩ : S40), (⟨1, 0, 4, (⟨#[120]⟩ : ByteArray)⟩ : S40)] : List (S40))) (inner := [.int .i64 0, .int .i64 0, .int .i64 0, .string (⟨#[]⟩ : ByteArray), .int .i64 (wrap64 (-(wrap64 (1 + (Go.bits .and .i64 a1 1023))))), .int .i64 0, .int .i64 0, .string (⟨#[]⟩ : ByteArray), .int .i64 (wrap64 (2147483647 + (wrap64 (1 + (Go.bits .and .i64 a1 1023))))), .int .i64 0, .int .i64 0, .string (⟨#[]⟩ : ByteArray), .int .i64 1, .int .i64 (wrap64 (-(wrap64 (1 + (Go.bits .and .i64 a1 1023))))), .int .i64 0, .string (⟨#[]⟩ : ByteArray), .int .i64 1, .int .i64 (wrap64 (47 + (wrap64 (1 + (Go.bits .and .i64 a1 1023))))), .int .i64 0, .string (⟨#[]⟩ : ByteArray), .int .i64 1, .int .i64 0, .int .i64 (wrap64 (-(wrap64 (1 + (Go.bits .and .i64 a1 1023))))), .string (⟨#[]⟩ : ByteArray), .int .i64 1, .int .i64 0, .int .i64 (wrap64 (4 + (wrap64 (1 + (Go.bits .and .i64 a1 1023))))), .string (⟨#[]⟩ : ByteArray), .int .i64 1, .int .i64 0, .int .i64 0, .string (strOfNums y155), .int .i64 1, .int .i64 1, .int .i64 4, .string (⟨#[]⟩ : ByteArray), .int .i64 1, .int .i64 0, .int .i64 4, .string (⟨#[120]⟩ : ByteArray)]) (ok := fun _ => True) (okp := fun _ => True) ?hr ?hp (fun _ hk => hk) trivial (Below.refl _ _) (Nat.le_refl _) (by simp) ?_; (case hd => rfl); (case hg => rfl); (case hr => first | (go_simp; done) | (go_simp; rfl)); (case hp => exact (Reps.c4 (show Kd.M k40 _ _ _ (⟨0, 0, 0, (⟨#[]⟩ : ByteArray)⟩ : S40) [.int .i64 0, .int .i64 0, .int .i64 0, .string (⟨#[]⟩ : ByteArray)] from (k40_mkM _ _ _ (⟨0, 0, 0, (⟨#[]⟩ : ByteArray)⟩ : S40) )) (Reps.c4 (show Kd.M k40 _ _ _ (⟨wrap64 (-(wrap64 (1 + (Go.bits .and .i64 a1 1023)))), 0, 0, (⟨#[]⟩ : ByteArray)⟩ : S40) [.int .i64 (wrap64 (-(wrap64 (1 + (Go.bits .and .i64 a1 1023))))), .int .i64 0, .int .i64 0, .string (⟨#[]⟩ : ByteArray)] from (k40_mkM _ _ _ (⟨wrap64 (-(wrap64 (1 + (Go.bits .and .i64 a1 1023)))), 0, 0, (⟨#[]⟩ : ByteArray)⟩ : S40) )) (Reps.c4 (show Kd.M k40 _ _ _ (⟨wrap64 (2147483647 + (wrap64 (1 + (Go.bits .and .i64 a1 1023)))), 0, 0, (⟨#[]⟩ : ByteArray)⟩ : S40) [.int .i64 (wrap64 (2147483647 + (wrap64 (1 + (Go.bits .and .i64 a1 1023))))), .int .i64 0, .int .i64 0, .string (⟨#[]⟩ : ByteArray)] from (k40_mkM _ _ _ (⟨wrap64 (2147483647 + (wrap64 (1 + (Go.bits .and .i64 a1 1023)))), 0, 0, (⟨#[]⟩ : ByteArray)⟩ : S40) )) (Reps.c4 (show Kd.M k40 _ _ _ (⟨1, wrap64 (-(wrap64 (1 + (Go.bits .and .i64 a1 1023)))), 0, (⟨#[]⟩ : ByteArray)⟩ : S40) [.int .i64 1, .int .i64 (wrap64 (-(wrap64 (1 + (Go.bits .and .i64 a1 1023))))), .int .i64 0, .string (⟨#[]⟩ : ByteArray)] from (k40_mkM _ _ _ (⟨1, wrap64 (-(wrap64 (1 + (Go.bits .and .i64 a1 1023)))), 0, (⟨#[]⟩ : ByteArray)⟩ : S40) )) (Reps.c4 (show Kd.M k40 _ _ _ (⟨1, wrap64 (47 + (wrap64 (1 + (Go.bits .and .i64 a1 1023)))), 0, (⟨#[]⟩ : ByteArray)⟩ : S40) [.int .i64 1, .int .i64 (wrap64 (47 + (wrap64 (1 + (Go.bits .and .i64 a1 1023))))), .int .i64 0, .string (⟨#[]⟩ : ByteArray)] from (k40_mkM _ _ _ (⟨1, wrap64 (47 + (wrap64 (1 + (Go.bits .and .i64 a1 1023)))), 0, (⟨#[]⟩ : ByteArray)⟩ : S40) )) (Reps.c4 (show Kd.M k40 _ _ _ (⟨1, 0, wrap64 (-(wrap64 (1 + (Go.bits .and .i64 a1 1023)))), (⟨#[]⟩ : ByteArray)⟩ : S40) [.int .i64 1, .int .i64 0, .int .i64 (wrap64 (-(wrap64 (1 + (Go.bits .and .i64 a1 1023))))), .string (⟨#[]⟩ : ByteArray)] from (k40_mkM _ _ _ (⟨1, 0, wrap64 (-(wrap64 (1 + (Go.bits .and .i64 a1 1023)))), (⟨#[]⟩ : ByteArray)⟩ : S40) )) (Reps.c4 (show Kd.M k40 _ _ _ (⟨1, 0, wrap64 (4 + (wrap64 (1 + (Go.bits .and .i64 a1 1023)))), (⟨#[]⟩ : ByteArray)⟩ : S40) [.int .i64 1, .int .i64 0, .int .i64 (wrap64 (4 + (wrap64 (1 + (Go.bits .and .i64 a1 1023))))), .string (⟨#[]⟩ : ByteArray)] from (k40_mkM _ _ _ (⟨1, 0, wrap64 (4 + (wrap64 (1 + (Go.bits .and .i64 a1 1023)))), (⟨#[]⟩ : ByteArray)⟩ : S40) )) (Reps.c4 (show Kd.M k40 _ _ _ (⟨1, 0, 0, strOfNums y155⟩ : S40) [.int .i64 1, .int .i64 0, .int .i64 0, .string (strOfNums y155)] from (k40_mkM _ _ _ (⟨1, 0, 0, strOfNums y155⟩ : S40) )) (Reps.c4 (show Kd.M k40 _ _ _ (⟨1, 1, 4, (⟨#[]⟩ : ByteArray)⟩ : S40) [.int .i64 1, .int .i64 1, .int .i64 4, .string (⟨#[]⟩ : ByteArray)] from (k40_mkM _ _ _ (⟨1, 1, 4, (⟨#[]⟩ : ByteArray)⟩ : S40) )) (Reps.c4 (show Kd.M k40 _ _ _ (⟨1, 0, 4, (⟨#[120]⟩ : ByteArray)⟩ : S40) [.int .i64 1, .int .i64 0, .int .i64 4, .string (⟨#[120]⟩ : ByteArray)] from (k40_mkM _ _ _ (⟨1, 0, 4, (⟨#[120]⟩ : ByteArray)⟩ : S40) )) (Reps.none _ _)))))))))))); intro v159 w18 ho19 hb hg_ hnew_; clear hg_ hnew_; (first | rw [← Ny158.out] at ho19 | (simp only [Int.reduceToNat] at ho19; rw [← Ny158.out] at ho19)); have n0_ := Aside0.mk (Kd.R_below (by (with_reducible repeat (first | apply Kd.R_alloc | apply Kd.R_drewN | apply Kd.R_drew)); exact HO157.out) hb); have n1_ := Aside0.mk (Kd.R_lower ho19 (below_size (by repeat (first | (with_reducible first | exact HB.out | apply below_alloc | apply pw_below_drewN | apply below_drew1) | exact HB.out)))); have n2_ := Aside0.mk (below_step (by repeat (first | (with_reducible first | exact HB.out | apply below_alloc | apply pw_below_drewN | apply below_drew1) | exact HB.out)) hb); clear HO157; clear HB; have HO157 := n0_; have HO160 := n1_; have HB := n2_; clear n0_ n1_ n2_; clear hb ho19; obtain ⟨Ao20, co20, eo20⟩ := Kd.R_slice HO160.out; subst eo20; have p161 : 0 ≤ ((ji8) : Int) := of_decide_eq_true (by first | (with_reducible assumption) | assumption); have q161 : (ji8) < (y158.length : Int) := of_decide_eq_true (by first | (with_reducible assumption) | assumption); obtain ⟨ad161, e161, hx161_0, hx161_1, hx161_2, hx161_3⟩ := at_T40 (Kd.R_reads' HO160.out).2.2 (ji8) p161 q161; cases e161; replace p161 := eq_true p161; replace q161 := eq_true q161) | ((with_reducible refine gate_dst (N := 7) rfl ?_); (try (refine gate_guard (by rfl) ?_; dsimp only)); refine box_event ?hg (N := 7) ?hd (cs := #[.int .i64 0, .int .i64 0, .int .i64 0, .string (⟨#[]⟩ : ByteArray)]) (t := 40) ?hr ?_; (case hd => rfl); (case hg => rfl); (case hr => first | (go_simp; done) | (go_simp; rfl)); intro gb162 hg w21 hbox hb; have n0_ := Aside0.mk (Kd.R_below (by (with_reducible repeat (first | apply Kd.R_alloc | apply Kd.R_drewN | apply Kd.R_drew)); exact HO157.out) hb); have n1_ := Aside0.mk (Kd.R_below (Kd.R_elderB (by (with_reducible repeat (first | apply Kd.R_alloc | apply Kd.R_drewN | apply Kd.R_drew)); exact HO160.out) gb162 (Nat.le_of_eq hg.symm)) hb); have n2_ := Aside0.mk (below_step (by repeat (first | (with_reducible first | exact HB.out | apply below_alloc | apply pw_below_drewN | apply below_drew1) | exact HB.out)) hb); have n3_ := Aside0.mk (hbox); have n4_ := Aside0.mk ((by rw [hg]; exact (below_size (by repeat (first | (with_reducible first | exact HB.out | apply below_alloc | apply pw_below_drewN | apply below_drew1) | exact HB.out))) : w.heap.size ≤ gb162)); have n5_ := Aside0.mk ((by rw [hg]; exact (below_size (by repeat (first | (with_reducible first | exact HB.out | apply below_alloc | apply pw_below_drewN | apply below_drew1) | exact HB.out))) : w.heap.size ≤ gb162)); clear HO157; clear HO160; clear HB; have HO157 := n0_; have HO160 := n1_; have HB := n2_; have BK162 := n3_; have GW162 := n4_; have GE162 := n5_; clear n0_ n1_ n2_ n3_ n4_ n5_; clear hb hbox hg; have hcz22_0 : w21.cell? ⟨gb162, 0, none⟩ = some (.int .i64 0) := (blk_cell BK162.out 0).trans rfl; have hcz22_1 : w21.cell? ⟨gb162, 1, none⟩ = some (.int .i64 0) := (blk_cell BK162.out 1).trans rfl; have hcz22_2 : w21.cell? ⟨gb162, 2, none⟩ = some (.int .i64 0) := (blk_cell BK162.out 2).trans rfl; have hcz22_3 : w21.cell? ⟨gb162, 3, none⟩ = some (.string (⟨#[]⟩ : ByteArray)) := (blk_cell BK162.out 3).trans rfl; have hfz22_0 := blk_frozen BK162.out 0; have hfz22_1 := blk_frozen BK162.out 1; have hfz22_2 := blk_frozen BK162.out 2; have hfz22_3 := blk_frozen BK162.out 3) | ((with_reducible refine gate_callee (f := 26) rfl ?_); refine goesL_ (some 56) rfl rfl Try.func26 (by kernel_rfl) rfl #[.agg #[.int .i64 ((rd_T40 y158 (ji8)).f0), .int .i64 ((rd_T40 y158 (ji8)).f1), .int .i64 ((rd_T40 y158 (ji8)).f2), .string ((rd_T40 y158 (ji8)).f3)]] rfl (by (try simp only [List.map_toArray, List.map_cons, List.map_nil]); first | done | (simp only [hji8]; rfl) | rfl | (simp only [List.length_drop, List.length_take]; rfl)) ?_; (with_reducible refine (record_Put.calls ((rd_T40 y158 (ji8)).f0) ((rd_T40 y158 (ji8)).f1) ((rd_T40 y158 (ji8)).f2) ((rd_T40 y158 (ji8)).f3) t163 t164 _ A11.out).mono ?_); rintro e w23 ⟨rfl, hb⟩; refine ⟨_, rfl, ?_⟩; have n0_ := Aside0.mk (Kd.R_below (by (with_reducible repeat (first | apply Kd.R_alloc | apply Kd.R_drewN | apply Kd.R_drew)); exact (Kd.R_mono (Kd.R_far (p := ⟨gb162, 3, none⟩) (Kd.R_far (p := ⟨gb162, 2, none⟩) (Kd.R_far (p := ⟨gb162, 1, none⟩) (Kd.R_far (p := ⟨gb162, 0, none⟩) (Kd.R_types HO157.out BK162.out (by decide)) (fun _ hk => hk.2) (.int .i64 ((rd_T40 y158 (ji8)).f0))) (fun _ hk => hk.2) (.int .i64 ((rd_T40 y158 (ji8)).f1))) (fun _ hk => hk.2) (.int .i64 ((rd_T40 y158 (ji8)).f2))) (fun _ hk => hk.2) (.string ((rd_T40 y158 (ji8)).f3))) (fun _ h_ => h_.1))) hb); have n1_ := Aside0.mk (Kd.R_below (by (with_reducible repeat (first | apply Kd.R_alloc | apply Kd.R_drewN | apply Kd.R_drew)); exact (Kd.R_mono (Kd.R_far (p := ⟨gb162, 3, none⟩) (Kd.R_far (p := ⟨gb162, 2, none⟩) (Kd.R_far (p := ⟨gb162, 1, none⟩) (Kd.R_far (p := ⟨gb162, 0, none⟩) (Kd.R_mono HO160.out (fun k_ hk => (⟨hk, hk.2⟩ : _ ∧ k_ ≠ gb162))) (fun _ hk => hk.2) (.int .i64 ((rd_T40 y158 (ji8)).f0))) (fun _ hk => hk.2) (.int .i64 ((rd_T40 y158 (ji8)).f1))) (fun _ hk => hk.2) (.int .i64 ((rd_T40 y158 (ji8)).f2))) (fun _ hk => hk.2) (.string ((rd_T40 y158 (ji8)).f3))) (fun _ h_ => h_.1))) hb); have n2_ := Aside0.mk (blk_below (g := gb162) (o := .cells #[.int .i64 ((rd_T40 y158 (ji8)).f0), .int .i64 ((rd_T40 y158 (ji8)).f1), .int .i64 ((rd_T40 y158 (ji8)).f2), .string ((rd_T40 y158 (ji8)).f3)] 40 (0, 0)) (by (with_reducible repeat (first | refine blk_drewN ?_ _ | refine blk_drew ?_ | refine blk_alloc ?_ _)); refine blk_put (cs := #[.int .i64 ((rd_T40 y158 (ji8)).f0), .int .i64 ((rd_T40 y158 (ji8)).f1), .int .i64 ((rd_T40 y158 (ji8)).f2), .string (⟨#[]⟩ : ByteArray)]) ?_ 3 _ rfl; (with_reducible repeat (first | refine blk_drewN ?_ _ | refine blk_drew ?_ | refine blk_alloc ?_ _)); refine blk_put (cs := #[.int .i64 ((rd_T40 y158 (ji8)).f0), .int .i64 ((rd_T40 y158 (ji8)).f1), .int .i64 0, .string (⟨#[]⟩ : ByteArray)]) ?_ 2 _ rfl; (with_reducible repeat (first | refine blk_drewN ?_ _ | refine blk_drew ?_ | refine blk_alloc ?_ _)); refine blk_put (cs := #[.int .i64 ((rd_T40 y158 (ji8)).f0), .int .i64 0, .int .i64 0, .string (⟨#[]⟩ : ByteArray)]) ?_ 1 _ rfl; (with_reducible repeat (first | refine blk_drewN ?_ _ | refine blk_drew ?_ | refine blk_alloc ?_ _)); refine blk_put (cs := #[.int .i64 0, .int .i64 0, .int .i64 0, .string (⟨#[]⟩ : ByteArray)]) ?_ 0 _ rfl; (with_reducible repeat (first | refine blk_drewN ?_ _ | refine blk_drew ?_ | refine blk_alloc ?_ _)); exact BK162.out) hb); have n3_ := Aside0.mk (below_step (by repeat (first | (with_reducible first | exact HB.out | apply below_alloc | apply pw_below_drewN | apply below_drew1 | refine below_set ?_ GE162.out) | exact HB.out)) hb); clear HO157; clear HO160; clear BK162; clear HB; have HO157 := n0_; have HO160 := n1_; have BK162 := n2_; have HB := n3_; clear n0_ n1_ n2_ n3_; (try clear hb); (try clear hb2); (try clear hk); (try clear hi)) | ((with_reducible refine gate_callee (f := 26) rfl ?_); refine goesL_ (some 61) rfl rfl Try.func26 (by kernel_rfl) rfl #[.agg #[.int .i64 1, .int .i64 2, .int .i64 3, .string (⟨#[97, 98, 99]⟩ : ByteArray)]] rfl (by (try simp only [List.map_toArray, List.map_cons, List.map_nil]); first | done | rfl | (simp only [List.length_drop, List.length_take]; rfl)) ?_; (with_reducible refine (record_Put.calls 1 2 3 (⟨#[97, 98, 99]⟩ : ByteArray) t165 t166 _ A12.out).mono ?_); rintro e w24 ⟨rfl, hb⟩; refine ⟨_, rfl, ?_⟩; have n0_ := Aside0.mk (Kd.R_below (by (with_reducible repeat (first | apply Kd.R_alloc | apply Kd.R_drewN | apply Kd.R_drew)); exact HO157.out) hb); have n1_ := Aside0.mk (Kd.R_below (by (with_reducible repeat (first | apply Kd.R_alloc | apply Kd.R_drewN | apply Kd.R_drew)); exact HO160.out) hb); have n2_ := Aside0.mk (blk_below (g := gb162) (o := .cells #[.int .i64 ((rd_T40 y158 (ji8)).f0), .int .i64 ((rd_T40 y158 (ji8)).f1), .int .i64 ((rd_T40 y158 (ji8)).f2), .string ((rd_T40 y158 (ji8)).f3)] 40 (0, 0)) (by (with_reducible repeat (first | refine blk_drewN ?_ _ | refine blk_drew ?_ | refine blk_alloc ?_ _)); exact BK162.out) hb); have n3_ := Aside0.mk (below_step (by repeat (first | (with_reducible first | exact HB.out | apply below_alloc | apply pw_below_drewN | apply below_drew1 | refine below_set ?_ GE162.out) | exact HB.out)) hb); clear HO157; clear HO160; clear BK162; clear HB; have HO157 := n0_; have HO160 := n1_; have BK162 := n2_; have HB := n3_; clear n0_ n1_ n2_ n3_; (try clear hb); (try clear hb2); (try clear hk); (try clear hi)))
            (try simp only [Act.put, List.setIfInBounds_toArray, List.set_cons_zero, List.set_cons_succ])
            go_cut [71] (fun v71 wc => ∃ (kq : Nat) (x71_12 : Bool), v71 = .bool x71_12 ∧ Aside0 (cryostatlaw3_RecordForms.j0 kq a0 t163 t164 t165 x71_12 ((rd_T40 y158 (ji8)).f0) ((rd_T40 y158 (ji8)).f1) ((rd_T40 y158 (ji8)).f2) ((rd_T40 y158 (ji8)).f3) = some r) ∧ Aside0 (kq ≤ k) ∧ Aside0 (wc.heap[gb162]? = some (.cells #[.int .i64 ((rd_T40 y158 (ji8)).f0), .int .i64 ((rd_T40 y158 (ji8)).f1), .int .i64 ((rd_T40 y158 (ji8)).f2), .string ((rd_T40 y158 (ji8)).f3)] 40 (0, 0))) ∧ Aside0 (Below w.heap.size w wc))
            case first =>
              have H := HC13.out
              clear HC13
              replace H := Option.bind_eq_some_iff.mp H
              obtain ⟨t167, A250, H⟩ := H
              replace H : (if t167 = 0 then (cryostatlaw3_RecordForms.j0 k a0 t163 t164 t165 ((t165.size : Int) != 32) ((rd_T40 y158 (ji8)).f0) ((rd_T40 y158 (ji8)).f1) ((rd_T40 y158 (ji8)).f2) ((rd_T40 y158 (ji8)).f3)) else (cryostatlaw3_RecordForms.j0 k a0 t163 t164 t165 true ((rd_T40 y158 (ji8)).f0) ((rd_T40 y158 (ji8)).f1) ((rd_T40 y158 (ji8)).f2) ((rd_T40 y158 (ji8)).f3))) = some r := H
              have A25 := Aside0.mk A250
              clear A250
              by_cases c26 : t167 = 0
              · rw [if_pos c26] at H
                have c26b0 : (t167 == 0) = true := beq_iff_eq.mpr c26
                have c26b1 : (t167 != 0) = false := bne_eq_false_iff_eq.mpr c26
                clear c26
                (first | rw [c26b0] | (simp only [i64_w, i32_w]; rw [c26b0]) | skip)
                have H' := Aside0.mk H
                clear H
                go_wp2_with (first | ((with_reducible refine gate_callee (f := 22) rfl ?_); refine goesL_ (some 65) rfl rfl Try.func22 (by kernel_rfl) rfl #[.int .i64 t166] rfl (by (try simp only [List.map_toArray, List.map_cons, List.map_nil]); first | done | rfl | (simp only [List.length_drop, List.length_take]; rfl)) ?_; (with_reducible refine (cryostatlaw0_Num.calls t166 t167 _ A25.out).mono ?_); rintro e w' ⟨rfl, ⟨nd, rfl⟩⟩; refine ⟨_, rfl, ?_⟩))
                go_meet
                case rel => exact ⟨_, (((t165.size : Int) != 32)), (by first | rfl | (simp; done) | (simp [*]; done)), H', ⟨by first | omega | exact Nat.le_refl _⟩, ⟨by (with_reducible repeat (first | refine blk_drewN ?_ _ | refine blk_drew ?_ | refine blk_alloc ?_ _)); exact BK162.out⟩, ⟨by repeat (first | (with_reducible first | exact HB.out | apply below_alloc | apply pw_below_drewN | apply below_drew1 | refine below_set ?_ GE162.out) | exact HB.out)⟩⟩
              · rw [if_neg c26] at H
                have c26b0 : (t167 == 0) = false := beq_eq_false_iff_ne.mpr c26
                have c26b1 : (t167 != 0) = true := bne_iff_ne.mpr c26
                (first | rw [c26b0] | (simp only [i64_w, i32_w]; rw [c26b0]) | skip)
                have H' := Aside0.mk H
                clear H
                go_wp2_with (first | ((with_reducible refine gate_callee (f := 22) rfl ?_); refine goesL_ (some 65) rfl rfl Try.func22 (by kernel_rfl) rfl #[.int .i64 t166] rfl (by (try simp only [List.map_toArray, List.map_cons, List.map_nil]); first | done | rfl | (simp only [List.length_drop, List.length_take]; rfl)) ?_; (with_reducible refine (cryostatlaw0_Num.calls t166 t167 _ A25.out).mono ?_); rintro e w' ⟨rfl, ⟨nd, rfl⟩⟩; refine ⟨_, rfl, ?_⟩))
                go_meet
                case rel => exact ⟨_, (true), (by first | rfl | (simp; done) | (simp [*]; done)), H', ⟨by first | omega | exact Nat.le_refl _⟩, ⟨by (with_reducible repeat (first | refine blk_drewN ?_ _ | refine blk_drew ?_ | refine blk_alloc ?_ _)); exact BK162.out⟩, ⟨by repeat (first | (with_reducible first | exact HB.out | apply below_alloc | apply pw_below_drewN | apply below_drew1 | refine below_set ?_ GE162.out) | exact HB.out)⟩⟩
            case rest =>
              clear HC13
              try clear c1
              try clear p1
              try clear q1
              try clear hx1
              try clear hcv1
              try clear c2
              try clear p2
              try clear c3
              try clear c4
              try clear c6
              try clear c6b0
              try clear c6b1
              try clear p6
              try clear c7
              try clear c7b0
              try clear c7b1
              try clear c9
              try clear c9b0
              try clear c10
              try clear c10b0
              try clear p16
              try clear q16
              try clear hx16
              try clear hcv17
              try clear c22
              try clear c26
              try clear c26b0
              try clear c26b1
              try clear hcz22_0
              try clear hcz22_1
              try clear hcz22_2
              try clear hcz22_3
              try clear hfz22_0
              try clear hfz22_1
              try clear hfz22_2
              try clear hfz22_3
              try clear hx161_0
              try clear hx161_1
              try clear hx161_2
              try clear hx161_3
              try clear p161
              try clear q161
              obtain ⟨kq, x71_12, rfl, HA, HJ12, BK162, HB⟩ := hcut
              cases kq with
              | zero => exact absurd HA.out (by simp [cryostatlaw3_RecordForms.j0])
              | succ kj12 =>
                have H := HA.out
                clear HA
                simp only [cryostatlaw3_RecordForms.j0] at H
                by_cases c27 : x71_12 = true
                · subst c27
                  have H1 : (some false) = some r := by rw [if_pos rfl] at H; exact H
                  clear H
                  have H := H1
                  clear H1
                  exact Bool.noConfusion ((Option.some.inj H).trans hr.out)
                · replace c27 := Bool.eq_false_iff.mpr c27
                  subst c27
                  have H1 : (if 0 ≤ 31 then (if 31 ≤ (t165.size : Int) then (if t165.size + 1 ≤ 9223372036854775807 then (if 1 ≤ (t165.size : Int) then (if 1 + (t165.extract 1 t165.size).size ≤ 9223372036854775807 then (if 4 ≤ (t165.size : Int) then (if 4 + (t165.extract 4 t165.size).size ≤ 9223372036854775807 then (if 0 ≤ 4 then (if (t165.extract 0 4).size + 1 ≤ 9223372036854775807 then (if 5 ≤ (t165.size : Int) then (if ((t165.extract 0 4) ++ (⟨#[48]⟩ : ByteArray)).size + (t165.extract 5 t165.size).size ≤ 9223372036854775807 then (if 0 ≤ 5 then (if (t165.extract 0 5).size + 1 ≤ 9223372036854775807 then (if 6 ≤ (t165.size : Int) then (if ((t165.extract 0 5) ++ (⟨#[5]⟩ : ByteArray)).size + (t165.extract 6 t165.size).size ≤ 9223372036854775807 then (if ((t165.extract 0 5) ++ (⟨#[4]⟩ : ByteArray)).size + (t165.extract 6 t165.size).size ≤ 9223372036854775807 then (if 0 ≤ 6 then (if (t165.extract 0 6).size + 1 ≤ 9223372036854775807 then (if 7 ≤ (t165.size : Int) then (if ((t165.extract 0 6) ++ (⟨#[25]⟩ : ByteArray)).size + (t165.extract 7 t165.size).size ≤ 9223372036854775807 then (if ((t165.extract 0 6) ++ (⟨#[2]⟩ : ByteArray)).size + (t165.extract 7 t165.size).size ≤ 9223372036854775807 then (if 0 ≤ 7 then (if (t165.extract 0 7).size + 1 ≤ 9223372036854775807 then (if 8 ≤ (t165.size : Int) then (if ((t165.extract 0 7) ++ (⟨#[1]⟩ : ByteArray)).size + (t165.extract 8 t165.size).size ≤ 9223372036854775807 then (if (t165.extract 0 31).size + 1 ≤ 9223372036854775807 then ((some (([(⟨#[]⟩ : ByteArray), t165.extract 0 31, t165 ++ (⟨#[120]⟩ : ByteArray), (⟨#[128]⟩ : ByteArray) ++ (t165.extract 1 t165.size), (⟨#[0, 0, 0, 0]⟩ : ByteArray) ++ (t165.extract 4 t165.size), ((t165.extract 0 4) ++ (⟨#[48]⟩ : ByteArray)) ++ (t165.extract 5 t165.size), ((t165.extract 0 5) ++ (⟨#[5]⟩ : ByteArray)) ++ (t165.extract 6 t165.size), ((t165.extract 0 5) ++ (⟨#[4]⟩ : ByteArray)) ++ (t165.extract 6 t165.size), ((t165.extract 0 6) ++ (⟨#[25]⟩ : ByteArray)) ++ (t165.extract 7 t165.size), ((t165.extract 0 6) ++ (⟨#[2]⟩ : ByteArray)) ++ (t165.extract 7 t165.size), ((t165.extract 0 7) ++ (⟨#[1]⟩ : ByteArray)) ++ (t165.extract 8 t165.size), (t165.extract 0 31) ++ (⟨#[1]⟩ : ByteArray)] : List ByteArray) : List ByteArray)).bind fun y168 => (if 0 ≤ (wrap64 (Int.tmod (IntKind.u64.wrap (a0)) 12)) then (if (wrap64 (Int.tmod (IntKind.u64.wrap (a0)) 12)) < (y168.length : Int) then ((record_Get.f kj12 (rdOf ByteArray.empty y168 (wrap64 (Int.tmod (IntKind.u64.wrap (a0)) 12)))).bind fun bt172 => ((record_May.f ((rd_T40 y158 (ji8)).f0) ((rd_T40 y158 (ji8)).f1) ((rd_T40 y158 (ji8)).f2) ((rd_T40 y158 (ji8)).f3)).bind fun t178 => (if t178 = true then (some false) else (if t163.toList = ([] : List UInt8) then ((cryostatlaw0_Num.f t164).bind fun t179 => (if t179 = 300 then ((cryostatlaw0_Num.f bt172.2.2.2.2).bind fun t180 => (some (t180 == 300))) else (some false))) else (some false))))) else (none)) else (none))) else (none)) else (none)) else (none)) else (none)) else (none)) else (none)) else (none)) else (none)) else (none)) else (none)) else (none)) else (none)) else (none)) else (none)) else (none)) else (none)) else (none)) else (none)) else (none)) else (none)) else (none)) else (none)) else (none)) else (none)) else (none)) else (none)) = some r := by rw [if_neg (show ¬ (false = true) by decide)] at H; exact H
                  clear H
                  have H := H1
                  clear H1
                  by_cases c28 : 0 ≤ 31
                  · rw [if_pos c28] at H
                    have c28b0 := eq_true c28
                    have c28b1 : decide (0 ≤ 31) = true := decide_eq_true c28
                    clear c28
                    by_cases c29 : 31 ≤ (t165.size : Int)
                    · rw [if_pos c29] at H
                      have c29b0 := eq_true c29
                      have c29b1 : decide (31 ≤ (t165.size : Int)) = true := decide_eq_true c29
                      clear c29
                      by_cases c30 : t165.size + 1 ≤ 9223372036854775807
                      · rw [if_pos c30] at H
                        have c30b0 := eq_true c30
                        have c30b1 : decide (t165.size + 1 ≤ 9223372036854775807) = true := decide_eq_true c30
                        try have c30b2 : (9223372036854775807 < t165.size + 1) = False := eq_false (Nat.not_lt.2 c30)
                        by_cases c31 : 1 ≤ (t165.size : Int)
                        · rw [if_pos c31] at H
                          have c31b0 := eq_true c31
                          have c31b1 : decide (1 ≤ (t165.size : Int)) = true := decide_eq_true c31
                          clear c31
                          by_cases c32 : 1 + (t165.extract 1 t165.size).size ≤ 9223372036854775807
                          · rw [if_pos c32] at H
                            have c32b0 := eq_true c32
                            have c32b1 : decide (1 + (t165.extract 1 t165.size).size ≤ 9223372036854775807) = true := decide_eq_true c32
                            try have c32b2 : (9223372036854775807 < 1 + (t165.extract 1 t165.size).size) = False := eq_false (Nat.not_lt.2 c32)
                            have c32b3 := c32
                            (try simp only [ByteArray.size_append, ByteArray.size_extract, Nat.min_self, Nat.sub_zero] at c32b3)
                            replace c32b3 := eq_false (Nat.not_lt.2 c32b3)
                            by_cases c33 : 4 ≤ (t165.size : Int)
                            · rw [if_pos c33] at H
                              have c33b0 := eq_true c33
                              have c33b1 : decide (4 ≤ (t165.size : Int)) = true := decide_eq_true c33
                              clear c33
                              by_cases c34 : 4 + (t165.extract 4 t165.size).size ≤ 9223372036854775807
                              · rw [if_pos c34] at H
                                have c34b0 := eq_true c34
                                have c34b1 : decide (4 + (t165.extract 4 t165.size).size ≤ 9223372036854775807) = true := decide_eq_true c34
                                try have c34b2 : (9223372036854775807 < 4 + (t165.extract 4 t165.size).size) = False := eq_false (Nat.not_lt.2 c34)
                                have c34b3 := c34
                                (try simp only [ByteArray.size_append, ByteArray.size_extract, Nat.min_self, Nat.sub_zero] at c34b3)
                                replace c34b3 := eq_false (Nat.not_lt.2 c34b3)
                                by_cases c35 : 0 ≤ 4
                                · rw [if_pos c35] at H
                                  have c35b0 := eq_true c35
                                  have c35b1 : decide (0 ≤ 4) = true := decide_eq_true c35
                                  clear c35
                                  have c36b0 := eq_true (of_decide_eq_true (by first | (with_reducible assumption) | assumption) : 4 ≤ (t165.size : Int))
                                  by_cases c37 : (t165.extract 0 4).size + 1 ≤ 9223372036854775807
                                  · rw [if_pos c37] at H
                                    have c37b0 := eq_true c37
                                    have c37b1 : decide ((t165.extract 0 4).size + 1 ≤ 9223372036854775807) = true := decide_eq_true c37
                                    try have c37b2 : (9223372036854775807 < (t165.extract 0 4).size + 1) = False := eq_false (Nat.not_lt.2 c37)
                                    have c37b3 := c37
                                    (try simp only [ByteArray.size_append, ByteArray.size_extract, Nat.min_self, Nat.sub_zero] at c37b3)
                                    replace c37b3 := eq_false (Nat.not_lt.2 c37b3)
                                    by_cases c38 : 5 ≤ (t165.size : Int)
                                    · rw [if_pos c38] at H
                                      have c38b0 := eq_true c38
                                      have c38b1 : decide (5 ≤ (t165.size : Int)) = true := decide_eq_true c38
                                      clear c38
                                      by_cases c39 : ((t165.extract 0 4) ++ (⟨#[48]⟩ : ByteArray)).size + (t165.extract 5 t165.size).size ≤ 9223372036854775807
                                      · rw [if_pos c39] at H
                                        have c39b0 := eq_true c39
                                        have c39b1 : decide (((t165.extract 0 4) ++ (⟨#[48]⟩ : ByteArray)).size + (t165.extract 5 t165.size).size ≤ 9223372036854775807) = true := decide_eq_true c39
                                        try have c39b2 : (9223372036854775807 < ((t165.extract 0 4) ++ (⟨#[48]⟩ : ByteArray)).size + (t165.extract 5 t165.size).size) = False := eq_false (Nat.not_lt.2 c39)
                                        have c39b3 := c39
                                        (try simp only [ByteArray.size_append, ByteArray.size_extract, Nat.min_self, Nat.sub_zero] at c39b3)
                                        (try simp only [show (⟨#[48]⟩ : ByteArray).size = 1 from rfl] at c39b3)
                                        replace c39b3 := eq_false (Nat.not_lt.2 c39b3)
                                        by_cases c40 : 0 ≤ 5
                                        · rw [if_pos c40] at H
                                          have c40b0 := eq_true c40
                                          have c40b1 : decide (0 ≤ 5) = true := decide_eq_true c40
                                          clear c40
                                          have c41b0 := eq_true (of_decide_eq_true (by first | (with_reducible assumption) | assumption) : 5 ≤ (t165.size : Int))
                                          by_cases c42 : (t165.extract 0 5).size + 1 ≤ 9223372036854775807
                                          · rw [if_pos c42] at H
                                            have c42b0 := eq_true c42
                                            have c42b1 : decide ((t165.extract 0 5).size + 1 ≤ 9223372036854775807) = true := decide_eq_true c42
                                            try have c42b2 : (9223372036854775807 < (t165.extract 0 5).size + 1) = False := eq_false (Nat.not_lt.2 c42)
                                            have c42b3 := c42
                                            (try simp only [ByteArray.size_append, ByteArray.size_extract, Nat.min_self, Nat.sub_zero] at c42b3)
                                            replace c42b3 := eq_false (Nat.not_lt.2 c42b3)
                                            by_cases c43 : 6 ≤ (t165.size : Int)
                                            · rw [if_pos c43] at H
                                              have c43b0 := eq_true c43
                                              have c43b1 : decide (6 ≤ (t165.size : Int)) = true := decide_eq_true c43
                                              clear c43
                                              by_cases c44 : ((t165.extract 0 5) ++ (⟨#[5]⟩ : ByteArray)).size + (t165.extract 6 t165.size).size ≤ 9223372036854775807
                                              · rw [if_pos c44] at H
                                                have c44b0 := eq_true c44
                                                have c44b1 : decide (((t165.extract 0 5) ++ (⟨#[5]⟩ : ByteArray)).size + (t165.extract 6 t165.size).size ≤ 9223372036854775807) = true := decide_eq_true c44
                                                try have c44b2 : (9223372036854775807 < ((t165.extract 0 5) ++ (⟨#[5]⟩ : ByteArray)).size + (t165.extract 6 t165.size).size) = False := eq_false (Nat.not_lt.2 c44)
                                                have c44b3 := c44
                                                (try simp only [ByteArray.size_append, ByteArray.size_extract, Nat.min_self, Nat.sub_zero] at c44b3)
                                                (try simp only [show (⟨#[5]⟩ : ByteArray).size = 1 from rfl] at c44b3)
                                                replace c44b3 := eq_false (Nat.not_lt.2 c44b3)
                                                have c45b0 := eq_true (of_decide_eq_true (by first | (with_reducible assumption) | assumption) : 0 ≤ 5)
                                                have c46b0 := eq_true (of_decide_eq_true (by first | (with_reducible assumption) | assumption) : 5 ≤ (t165.size : Int))
                                                have c47b0 := eq_true (of_decide_eq_true (by first | (with_reducible assumption) | assumption) : 6 ≤ (t165.size : Int))
                                                by_cases c48 : ((t165.extract 0 5) ++ (⟨#[4]⟩ : ByteArray)).size + (t165.extract 6 t165.size).size ≤ 9223372036854775807
                                                · rw [if_pos c48] at H
                                                  have c48b0 := eq_true c48
                                                  have c48b1 : decide (((t165.extract 0 5) ++ (⟨#[4]⟩ : ByteArray)).size + (t165.extract 6 t165.size).size ≤ 9223372036854775807) = true := decide_eq_true c48
                                                  try have c48b2 : (9223372036854775807 < ((t165.extract 0 5) ++ (⟨#[4]⟩ : ByteArray)).size + (t165.extract 6 t165.size).size) = False := eq_false (Nat.not_lt.2 c48)
                                                  have c48b3 := c48
                                                  (try simp only [ByteArray.size_append, ByteArray.size_extract, Nat.min_self, Nat.sub_zero] at c48b3)
                                                  (try simp only [show (⟨#[4]⟩ : ByteArray).size = 1 from rfl] at c48b3)
                                                  replace c48b3 := eq_false (Nat.not_lt.2 c48b3)
                                                  by_cases c49 : 0 ≤ 6
                                                  · rw [if_pos c49] at H
                                                    have c49b0 := eq_true c49
                                                    have c49b1 : decide (0 ≤ 6) = true := decide_eq_true c49
                                                    clear c49
                                                    have c50b0 := eq_true (of_decide_eq_true (by first | (with_reducible assumption) | assumption) : 6 ≤ (t165.size : Int))
                                                    by_cases c51 : (t165.extract 0 6).size + 1 ≤ 9223372036854775807
                                                    · rw [if_pos c51] at H
                                                      have c51b0 := eq_true c51
                                                      have c51b1 : decide ((t165.extract 0 6).size + 1 ≤ 9223372036854775807) = true := decide_eq_true c51
                                                      try have c51b2 : (9223372036854775807 < (t165.extract 0 6).size + 1) = False := eq_false (Nat.not_lt.2 c51)
                                                      have c51b3 := c51
                                                      (try simp only [ByteArray.size_append, ByteArray.size_extract, Nat.min_self, Nat.sub_zero] at c51b3)
                                                      replace c51b3 := eq_false (Nat.not_lt.2 c51b3)
                                                      by_cases c52 : 7 ≤ (t165.size : Int)
                                                      · rw [if_pos c52] at H
                                                        have c52b0 := eq_true c52
                                                        have c52b1 : decide (7 ≤ (t165.size : Int)) = true := decide_eq_true c52
                                                        clear c52
                                                        by_cases c53 : ((t165.extract 0 6) ++ (⟨#[25]⟩ : ByteArray)).size + (t165.extract 7 t165.size).size ≤ 9223372036854775807
                                                        · rw [if_pos c53] at H
                                                          have c53b0 := eq_true c53
                                                          have c53b1 : decide (((t165.extract 0 6) ++ (⟨#[25]⟩ : ByteArray)).size + (t165.extract 7 t165.size).size ≤ 9223372036854775807) = true := decide_eq_true c53
                                                          try have c53b2 : (9223372036854775807 < ((t165.extract 0 6) ++ (⟨#[25]⟩ : ByteArray)).size + (t165.extract 7 t165.size).size) = False := eq_false (Nat.not_lt.2 c53)
                                                          have c53b3 := c53
                                                          (try simp only [ByteArray.size_append, ByteArray.size_extract, Nat.min_self, Nat.sub_zero] at c53b3)
                                                          (try simp only [show (⟨#[25]⟩ : ByteArray).size = 1 from rfl] at c53b3)
                                                          replace c53b3 := eq_false (Nat.not_lt.2 c53b3)
                                                          have c54b0 := eq_true (of_decide_eq_true (by first | (with_reducible assumption) | assumption) : 0 ≤ 6)
                                                          have c55b0 := eq_true (of_decide_eq_true (by first | (with_reducible assumption) | assumption) : 6 ≤ (t165.size : Int))
                                                          have c56b0 := eq_true (of_decide_eq_true (by first | (with_reducible assumption) | assumption) : 7 ≤ (t165.size : Int))
                                                          by_cases c57 : ((t165.extract 0 6) ++ (⟨#[2]⟩ : ByteArray)).size + (t165.extract 7 t165.size).size ≤ 9223372036854775807
                                                          · rw [if_pos c57] at H
                                                            have c57b0 := eq_true c57
                                                            have c57b1 : decide (((t165.extract 0 6) ++ (⟨#[2]⟩ : ByteArray)).size + (t165.extract 7 t165.size).size ≤ 9223372036854775807) = true := decide_eq_true c57
                                                            try have c57b2 : (9223372036854775807 < ((t165.extract 0 6) ++ (⟨#[2]⟩ : ByteArray)).size + (t165.extract 7 t165.size).size) = False := eq_false (Nat.not_lt.2 c57)
                                                            have c57b3 := c57
                                                            (try simp only [ByteArray.size_append, ByteArray.size_extract, Nat.min_self, Nat.sub_zero] at c57b3)
                                                            (try simp only [show (⟨#[2]⟩ : ByteArray).size = 1 from rfl] at c57b3)
                                                            replace c57b3 := eq_false (Nat.not_lt.2 c57b3)
                                                            by_cases c58 : 0 ≤ 7
                                                            · rw [if_pos c58] at H
                                                              have c58b0 := eq_true c58
                                                              have c58b1 : decide (0 ≤ 7) = true := decide_eq_true c58
                                                              clear c58
                                                              have c59b0 := eq_true (of_decide_eq_true (by first | (with_reducible assumption) | assumption) : 7 ≤ (t165.size : Int))
                                                              by_cases c60 : (t165.extract 0 7).size + 1 ≤ 9223372036854775807
                                                              · rw [if_pos c60] at H
                                                                have c60b0 := eq_true c60
                                                                have c60b1 : decide ((t165.extract 0 7).size + 1 ≤ 9223372036854775807) = true := decide_eq_true c60
                                                                try have c60b2 : (9223372036854775807 < (t165.extract 0 7).size + 1) = False := eq_false (Nat.not_lt.2 c60)
                                                                have c60b3 := c60
                                                                (try simp only [ByteArray.size_append, ByteArray.size_extract, Nat.min_self, Nat.sub_zero] at c60b3)
                                                                replace c60b3 := eq_false (Nat.not_lt.2 c60b3)
                                                                by_cases c61 : 8 ≤ (t165.size : Int)
                                                                · rw [if_pos c61] at H
                                                                  have c61b0 := eq_true c61
                                                                  have c61b1 : decide (8 ≤ (t165.size : Int)) = true := decide_eq_true c61
                                                                  clear c61
                                                                  by_cases c62 : ((t165.extract 0 7) ++ (⟨#[1]⟩ : ByteArray)).size + (t165.extract 8 t165.size).size ≤ 9223372036854775807
                                                                  · rw [if_pos c62] at H
                                                                    have c62b0 := eq_true c62
                                                                    have c62b1 : decide (((t165.extract 0 7) ++ (⟨#[1]⟩ : ByteArray)).size + (t165.extract 8 t165.size).size ≤ 9223372036854775807) = true := decide_eq_true c62
                                                                    try have c62b2 : (9223372036854775807 < ((t165.extract 0 7) ++ (⟨#[1]⟩ : ByteArray)).size + (t165.extract 8 t165.size).size) = False := eq_false (Nat.not_lt.2 c62)
                                                                    have c62b3 := c62
                                                                    (try simp only [ByteArray.size_append, ByteArray.size_extract, Nat.min_self, Nat.sub_zero] at c62b3)
                                                                    (try simp only [show (⟨#[1]⟩ : ByteArray).size = 1 from rfl] at c62b3)
                                                                    replace c62b3 := eq_false (Nat.not_lt.2 c62b3)
                                                                    have c63b0 := eq_true (of_decide_eq_true (by first | (with_reducible assumption) | assumption) : 0 ≤ 31)
                                                                    have c64b0 := eq_true (of_decide_eq_true (by first | (with_reducible assumption) | assumption) : 31 ≤ (t165.size : Int))
                                                                    by_cases c65 : (t165.extract 0 31).size + 1 ≤ 9223372036854775807
                                                                    · rw [if_pos c65] at H
                                                                      have c65b0 := eq_true c65
                                                                      have c65b1 : decide ((t165.extract 0 31).size + 1 ≤ 9223372036854775807) = true := decide_eq_true c65
                                                                      try have c65b2 : (9223372036854775807 < (t165.extract 0 31).size + 1) = False := eq_false (Nat.not_lt.2 c65)
                                                                      have c65b3 := c65
                                                                      (try simp only [ByteArray.size_append, ByteArray.size_extract, Nat.min_self, Nat.sub_zero] at c65b3)
                                                                      replace c65b3 := eq_false (Nat.not_lt.2 c65b3)
                                                                      obtain ⟨y168, hy168⟩ : ∃ y_ : List ByteArray, y_ = (([(⟨#[]⟩ : ByteArray), t165.extract 0 31, t165 ++ (⟨#[120]⟩ : ByteArray), (⟨#[128]⟩ : ByteArray) ++ (t165.extract 1 t165.size), (⟨#[0, 0, 0, 0]⟩ : ByteArray) ++ (t165.extract 4 t165.size), ((t165.extract 0 4) ++ (⟨#[48]⟩ : ByteArray)) ++ (t165.extract 5 t165.size), ((t165.extract 0 5) ++ (⟨#[5]⟩ : ByteArray)) ++ (t165.extract 6 t165.size), ((t165.extract 0 5) ++ (⟨#[4]⟩ : ByteArray)) ++ (t165.extract 6 t165.size), ((t165.extract 0 6) ++ (⟨#[25]⟩ : ByteArray)) ++ (t165.extract 7 t165.size), ((t165.extract 0 6) ++ (⟨#[2]⟩ : ByteArray)) ++ (t165.extract 7 t165.size), ((t165.extract 0 7) ++ (⟨#[1]⟩ : ByteArray)) ++ (t165.extract 8 t165.size), (t165.extract 0 31) ++ (⟨#[1]⟩ : ByteArray)] : List ByteArray)) := ⟨_, rfl⟩
                                                                      replace H : (if 0 ≤ (wrap64 (Int.tmod (IntKind.u64.wrap (a0)) 12)) then (if (wrap64 (Int.tmod (IntKind.u64.wrap (a0)) 12)) < (y168.length : Int) then ((record_Get.f kj12 (rdOf ByteArray.empty y168 (wrap64 (Int.tmod (IntKind.u64.wrap (a0)) 12)))).bind fun bt172 => ((record_May.f ((rd_T40 y158 (ji8)).f0) ((rd_T40 y158 (ji8)).f1) ((rd_T40 y158 (ji8)).f2) ((rd_T40 y158 (ji8)).f3)).bind fun t178 => (if t178 = true then (some false) else (if t163.toList = ([] : List UInt8) then ((cryostatlaw0_Num.f t164).bind fun t179 => (if t179 = 300 then ((cryostatlaw0_Num.f bt172.2.2.2.2).bind fun t180 => (some (t180 == 300))) else (some false))) else (some false))))) else (none)) else (none)) = some r := by first | (rw [hy168]; with_reducible exact H) | (have H2_ := (Option.bind_some _ _).symm.trans H; rw [hy168]; with_reducible exact H2_) | (have H2_ := (Option.bind_some _ _).symm.trans H; with_reducible exact H2_) | with_reducible exact H | (rw [hy168]; exact H) | exact H
                                                                      have Ny168 := Aside0.mk hy168
                                                                      clear hy168
                                                                      obtain ⟨ji66, hji66⟩ : ∃ j_ : Int, (wrap64 (Int.tmod (IntKind.u64.wrap (a0)) 12)) = j_ := ⟨_, rfl⟩
                                                                      replace H : (if 0 ≤ (ji66) then (if (ji66) < (y168.length : Int) then ((record_Get.f kj12 (rdOf ByteArray.empty y168 (ji66))).bind fun bt172 => ((record_May.f ((rd_T40 y158 (ji8)).f0) ((rd_T40 y158 (ji8)).f1) ((rd_T40 y158 (ji8)).f2) ((rd_T40 y158 (ji8)).f3)).bind fun t178 => (if t178 = true then (some false) else (if t163.toList = ([] : List UInt8) then ((cryostatlaw0_Num.f t164).bind fun t179 => (if t179 = 300 then ((cryostatlaw0_Num.f bt172.2.2.2.2).bind fun t180 => (some (t180 == 300))) else (some false))) else (some false))))) else (none)) else (none)) = some r := by first | (rw [hji66] at H; exact H) | (simp only [hji66] at H ⊢; exact H)
                                                                      have hji66w : (IntKind.i64.wrap (Int.tmod (IntKind.u64.wrap (a0)) 12)) = ji66 := (i64_w _).trans hji66
                                                                      by_cases c67 : 0 ≤ (ji66)
                                                                      · rw [if_pos c67] at H
                                                                        have c67b0 : decide (0 ≤ (ji66)) = true := decide_eq_true c67
                                                                        clear c67
                                                                        by_cases c68 : (ji66) < (y168.length : Int)
                                                                        · rw [if_pos c68] at H
                                                                          have c68b0 : decide ((ji66) < (y168.length : Int)) = true := decide_eq_true c68
                                                                          clear c68
                                                                          replace H := Option.bind_eq_some_iff.mp H
                                                                          obtain ⟨⟨t172, t173, t174, t175, t176⟩, A690, H⟩ := H
                                                                          replace H : ((record_May.f ((rd_T40 y158 (ji8)).f0) ((rd_T40 y158 (ji8)).f1) ((rd_T40 y158 (ji8)).f2) ((rd_T40 y158 (ji8)).f3)).bind fun t178 => (if t178 = true then (some false) else (if t163.toList = ([] : List UInt8) then ((cryostatlaw0_Num.f t164).bind fun t179 => (if t179 = 300 then ((cryostatlaw0_Num.f t176).bind fun t180 => (some (t180 == 300))) else (some false))) else (some false)))) = some r := H
                                                                          have A69 := Aside0.mk A690
                                                                          clear A690
                                                                          replace H := Option.bind_eq_some_iff.mp H
                                                                          obtain ⟨t178, A700, H⟩ := H
                                                                          replace H : (if t178 = true then (some false) else (if t163.toList = ([] : List UInt8) then ((cryostatlaw0_Num.f t164).bind fun t179 => (if t179 = 300 then ((cryostatlaw0_Num.f t176).bind fun t180 => (some (t180 == 300))) else (some false))) else (some false))) = some r := H
                                                                          have A70 := Aside0.mk A700
                                                                          clear A700
                                                                          by_cases c71 : t178 = true
                                                                          · subst c71
                                                                            have H1 : (some false) = some r := by rw [if_pos rfl] at H; exact H
                                                                            clear H
                                                                            have H := H1
                                                                            clear H1
                                                                            exact Bool.noConfusion ((Option.some.inj H).trans hr.out)
                                                                          · replace c71 := Bool.eq_false_iff.mpr c71
                                                                            subst c71
                                                                            have H1 : (if t163.toList = ([] : List UInt8) then ((cryostatlaw0_Num.f t164).bind fun t179 => (if t179 = 300 then ((cryostatlaw0_Num.f t176).bind fun t180 => (some (t180 == 300))) else (some false))) else (some false)) = some r := by rw [if_neg (show ¬ (false = true) by decide)] at H; exact H
                                                                            clear H
                                                                            have H := H1
                                                                            clear H1
                                                                            by_cases c82 : t163.toList = ([] : List UInt8)
                                                                            · rw [if_pos c82] at H
                                                                              have c82b0 : (t163.toList == ([] : List UInt8)) = true := beq_iff_eq.mpr c82
                                                                              have c82b1 : (t163.toList != ([] : List UInt8)) = false := bne_eq_false_iff_eq.mpr c82
                                                                              clear c82
                                                                              replace H := Option.bind_eq_some_iff.mp H
                                                                              obtain ⟨t179, A830, H⟩ := H
                                                                              replace H : (if t179 = 300 then ((cryostatlaw0_Num.f t176).bind fun t180 => (some (t180 == 300))) else (some false)) = some r := H
                                                                              have A83 := Aside0.mk A830
                                                                              clear A830
                                                                              by_cases c84 : t179 = 300
                                                                              · rw [if_pos c84] at H
                                                                                have c84b0 : (t179 == 300) = true := beq_iff_eq.mpr c84
                                                                                have c84b1 : (t179 != 300) = false := bne_eq_false_iff_eq.mpr c84
                                                                                clear c84
                                                                                replace H := Option.bind_eq_some_iff.mp H
                                                                                obtain ⟨t180, A850, H⟩ := H
                                                                                replace H : (some (t180 == 300)) = some r := H
                                                                                have A85 := Aside0.mk A850
                                                                                clear A850
                                                                                obtain rfl := Option.some.inj H
                                                                                try go_wp2
                                                                                have n0_ := Aside0.mk (blk_drew BK162.out)
                                                                                have n1_ := Aside0.mk (below_drew1 HB.out)
                                                                                clear BK162
                                                                                clear HB
                                                                                have BK162 := n0_
                                                                                have HB := n1_
                                                                                clear n0_ n1_
                                                                                refine start_ (n := 51) (S := fun w' => True) (ds := []) #[false, false, false, false, false, false, false, false, false, false, false, false, false, false, false, false, false, false, false, false, false, false, false, false, false, false, false, false, false, false, false, false, false, false, false, false, false, false, false, false, false, false, false, false, false, false, false, false, false, false, false] (by kernel_rfl) rfl rfl trivial (fun hHeld => ?_); refine with_tabW cryostatlaw3_RecordForms.tab10 cryostatlaw3_RecordForms.bits10 (fun HT_ HW_ => ?_)
                                                                                generalize wc.drew = w86 at BK162 HB hHeld ⊢
                                                                                refine pure_ (i := 0) (N := some 72) (v := ?_) (a' := ?_) #[true, false, false, false, false, false, false, false, false, false, false, false, false, false, false, false, false, false, false, false, false, false, false, false, false, false, false, false, false, false, false, false, false, false, false, false, false, false, false, false, false, false, false, false, false, false, false, false, false, false, false] rfl rfl (any_of HT_.out (by kernel_rfl)) (fun _ _ _ h => h) (Or.inl ⟨by rfl, ?_⟩) ?_ ?_
                                                                                rotate_left
                                                                                · intro w'
                                                                                  go_simp
                                                                                  with_reducible rfl
                                                                                rotate_left
                                                                                · simp only [Act.put, List.setIfInBounds_toArray, List.set_cons_zero, List.set_cons_succ, i64_w, i32_w]
                                                                                  rfl
                                                                                refine pure_ (i := 1) (N := some 73) (v := ?_) (a' := ?_) #[true, true, false, false, false, false, false, false, false, false, false, false, false, false, false, false, false, false, false, false, false, false, false, false, false, false, false, false, false, false, false, false, false, false, false, false, false, false, false, false, false, false, false, false, false, false, false, false, false, false, false] rfl rfl (any_of HT_.out (by kernel_rfl)) (fun _ _ _ h => h) (Or.inl ⟨by rfl, ?_⟩) ?_ ?_
                                                                                rotate_left
                                                                                · intro w'
                                                                                  go_simp
                                                                                  with_reducible rfl
                                                                                rotate_left
                                                                                · simp only [Act.put, List.setIfInBounds_toArray, List.set_cons_zero, List.set_cons_succ, i64_w, i32_w]
                                                                                  rfl
                                                                                refine pure_ (i := 2) (N := some 74) (v := ?_) (a' := ?_) #[true, true, true, false, false, false, false, false, false, false, false, false, false, false, false, false, false, false, false, false, false, false, false, false, false, false, false, false, false, false, false, false, false, false, false, false, false, false, false, false, false, false, false, false, false, false, false, false, false, false, false] rfl rfl (any_of HT_.out (by kernel_rfl)) (fun _ _ _ h => h) (Or.inl ⟨by rfl, ?_⟩) ?_ ?_
                                                                                rotate_left
                                                                                · intro w'
                                                                                  go_simp
                                                                                  with_reducible rfl
                                                                                rotate_left
                                                                                · simp only [Act.put, List.setIfInBounds_toArray, List.set_cons_zero, List.set_cons_succ, i64_w, i32_w]
                                                                                  rfl
                                                                                refine pure_ (i := 3) (N := some 75) (v := ?_) (a' := ?_) #[true, true, true, true, false, false, false, false, false, false, false, false, false, false, false, false, false, false, false, false, false, false, false, false, false, false, false, false, false, false, false, false, false, false, false, false, false, false, false, false, false, false, false, false, false, false, false, false, false, false, false] rfl rfl (any_of HT_.out (by kernel_rfl)) (fun _ _ _ h => h) (Or.inl ⟨by rfl, ?_⟩) ?_ ?_
                                                                                rotate_left
                                                                                · intro w'
                                                                                  go_simp
                                                                                  with_reducible rfl
                                                                                rotate_left
                                                                                · simp only [Act.put, List.setIfInBounds_toArray, List.set_cons_zero, List.set_cons_succ, i64_w, i32_w]
                                                                                  rfl
                                                                                refine pure_ (i := 4) (N := some 76) (v := ?_) (a' := ?_) #[true, true, true, true, true, false, false, false, false, false, false, false, false, false, false, false, false, false, false, false, false, false, false, false, false, false, false, false, false, false, false, false, false, false, false, false, false, false, false, false, false, false, false, false, false, false, false, false, false, false, false] rfl rfl (any_of HT_.out (by kernel_rfl)) (fun _ _ _ h => h) (Or.inl ⟨by rfl, ?_⟩) ?_ ?_
                                                                                rotate_left
                                                                                · intro w'
                                                                                  go_simp
                                                                                  with_reducible rfl
                                                                                rotate_left
                                                                                · simp only [Act.put, List.setIfInBounds_toArray, List.set_cons_zero, List.set_cons_succ, i64_w, i32_w]
                                                                                  rfl
                                                                                refine pure_ (i := 5) (N := some 77) (v := ?_) (a' := ?_) #[true, true, true, true, true, true, false, false, false, false, false, false, false, false, false, false, false, false, false, false, false, false, false, false, false, false, false, false, false, false, false, false, false, false, false, false, false, false, false, false, false, false, false, false, false, false, false, false, false, false, false] rfl rfl (any_of HT_.out (by kernel_rfl)) (fun _ _ _ h => h) (Or.inl ⟨by rfl, ?_⟩) ?_ ?_
                                                                                rotate_left
                                                                                · intro w'
                                                                                  go_simp
                                                                                  with_reducible rfl
                                                                                rotate_left
                                                                                · simp only [Act.put, List.setIfInBounds_toArray, List.set_cons_zero, List.set_cons_succ, i64_w, i32_w]
                                                                                  rfl
                                                                                refine pure_ (i := 6) (N := some 78) (v := ?_) (a' := ?_) #[true, true, true, true, true, true, true, false, false, false, false, false, false, false, false, false, false, false, false, false, false, false, false, false, false, false, false, false, false, false, false, false, false, false, false, false, false, false, false, false, false, false, false, false, false, false, false, false, false, false, false] rfl rfl (any_of HT_.out (by kernel_rfl)) (fun _ _ _ h => h) (Or.inl ⟨by rfl, ?_⟩) ?_ ?_
                                                                                rotate_left
                                                                                · intro w'
                                                                                  go_simp
                                                                                  with_reducible rfl
                                                                                rotate_left
                                                                                · simp only [Act.put, List.setIfInBounds_toArray, List.set_cons_zero, List.set_cons_succ, i64_w, i32_w]
                                                                                  rfl
                                                                                refine pure_ (i := 7) (N := some 79) (v := ?_) (a' := ?_) #[true, true, true, true, true, true, true, true, false, false, false, false, false, false, false, false, false, false, false, false, false, false, false, false, false, false, false, false, false, false, false, false, false, false, false, false, false, false, false, false, false, false, false, false, false, false, false, false, false, false, false] rfl rfl (any_of HT_.out (by kernel_rfl)) (fun _ _ _ h => h) (Or.inl ⟨by rfl, ?_⟩) ?_ ?_
                                                                                rotate_left
                                                                                · intro w'
                                                                                  go_simp
                                                                                  with_reducible rfl
                                                                                rotate_left
                                                                                · simp only [Act.put, List.setIfInBounds_toArray, List.set_cons_zero, List.set_cons_succ, i64_w, i32_w]
                                                                                  rfl
                                                                                refine pure_ (i := 8) (N := some 80) (v := ?_) (a' := ?_) #[true, true, true, true, true, true, true, true, true, false, false, false, false, false, false, false, false, false, false, false, false, false, false, false, false, false, false, false, false, false, false, false, false, false, false, false, false, false, false, false, false, false, false, false, false, false, false, false, false, false, false] rfl rfl (any_of HT_.out (by kernel_rfl)) (fun _ _ _ h => h) (Or.inl ⟨by rfl, ?_⟩) ?_ ?_
                                                                                rotate_left
                                                                                · intro w'
                                                                                  go_simp
                                                                                  with_reducible rfl
                                                                                rotate_left
                                                                                · simp only [Act.put, List.setIfInBounds_toArray, List.set_cons_zero, List.set_cons_succ, i64_w, i32_w]
                                                                                  rfl
                                                                                refine pure_ (i := 9) (N := some 81) (v := ?_) (a' := ?_) #[true, true, true, true, true, true, true, true, true, true, false, false, false, false, false, false, false, false, false, false, false, false, false, false, false, false, false, false, false, false, false, false, false, false, false, false, false, false, false, false, false, false, false, false, false, false, false, false, false, false, false] rfl rfl (any_of HT_.out (by kernel_rfl)) (fun _ _ _ h => h) (Or.inl ⟨by rfl, ?_⟩) ?_ ?_
                                                                                rotate_left
                                                                                · intro w'
                                                                                  go_simp
                                                                                  with_reducible rfl
                                                                                rotate_left
                                                                                · simp only [Act.put, List.setIfInBounds_toArray, List.set_cons_zero, List.set_cons_succ, i64_w, i32_w]
                                                                                  rfl
                                                                                refine pure_ (i := 10) (N := some 82) (v := ?_) (a' := ?_) #[true, true, true, true, true, true, true, true, true, true, true, false, false, false, false, false, false, false, false, false, false, false, false, false, false, false, false, false, false, false, false, false, false, false, false, false, false, false, false, false, false, false, false, false, false, false, false, false, false, false, false] rfl rfl (any_of HT_.out (by kernel_rfl)) (fun _ _ _ h => h) (Or.inl ⟨by rfl, ?_⟩) ?_ ?_
                                                                                rotate_left
                                                                                · intro w'
                                                                                  go_simp
                                                                                  with_reducible rfl
                                                                                rotate_left
                                                                                · simp only [Act.put, List.setIfInBounds_toArray, List.set_cons_zero, List.set_cons_succ, i64_w, i32_w]
                                                                                  rfl
                                                                                refine pure_ (i := 11) (N := some 83) (v := ?_) (a' := ?_) #[true, true, true, true, true, true, true, true, true, true, true, true, false, false, false, false, false, false, false, false, false, false, false, false, false, false, false, false, false, false, false, false, false, false, false, false, false, false, false, false, false, false, false, false, false, false, false, false, false, false, false] rfl rfl (any_of HT_.out (by kernel_rfl)) (fun _ _ _ h => h) (Or.inl ⟨by rfl, ?_⟩) ?_ ?_
                                                                                rotate_left
                                                                                · intro w'
                                                                                  go_simp
                                                                                  with_reducible rfl
                                                                                rotate_left
                                                                                · simp only [Act.put, List.setIfInBounds_toArray, List.set_cons_zero, List.set_cons_succ, i64_w, i32_w]
                                                                                  rfl
                                                                                refine pure_ (i := 12) (N := some 84) (v := ?_) (a' := ?_) #[true, true, true, true, true, true, true, true, true, true, true, true, true, false, false, false, false, false, false, false, false, false, false, false, false, false, false, false, false, false, false, false, false, false, false, false, false, false, false, false, false, false, false, false, false, false, false, false, false, false, false] rfl rfl (any_of HT_.out (by kernel_rfl)) (fun _ _ _ h => h) (Or.inl ⟨by rfl, ?_⟩) ?_ ?_
                                                                                rotate_left
                                                                                · intro w'
                                                                                  go_simp
                                                                                  with_reducible rfl
                                                                                rotate_left
                                                                                · simp only [Act.put, List.setIfInBounds_toArray, List.set_cons_zero, List.set_cons_succ, i64_w, i32_w]
                                                                                  rfl
                                                                                refine pure_ (i := 13) (N := some 85) (v := ?_) (a' := ?_) #[true, true, true, true, true, true, true, true, true, true, true, true, true, true, false, false, false, false, false, false, false, false, false, false, false, false, false, false, false, false, false, false, false, false, false, false, false, false, false, false, false, false, false, false, false, false, false, false, false, false, false] rfl rfl (any_of HT_.out (by kernel_rfl)) (fun _ _ _ h => h) (Or.inl ⟨by rfl, ?_⟩) ?_ ?_
                                                                                rotate_left
                                                                                · intro w'
                                                                                  go_simp
                                                                                  with_reducible rfl
                                                                                rotate_left
                                                                                · simp only [Act.put, List.setIfInBounds_toArray, List.set_cons_zero, List.set_cons_succ, i64_w, i32_w]
                                                                                  rfl
                                                                                refine pure_ (i := 14) (N := some 86) (v := ?_) (a' := ?_) #[true, true, true, true, true, true, true, true, true, true, true, true, true, true, true, false, false, false, false, false, false, false, false, false, false, false, false, false, false, false, false, false, false, false, false, false, false, false, false, false, false, false, false, false, false, false, false, false, false, false, false] rfl rfl (any_of HT_.out (by kernel_rfl)) (fun _ _ _ h => h) (Or.inl ⟨by rfl, ?_⟩) ?_ ?_
                                                                                rotate_left
                                                                                · intro w'
                                                                                  go_simp
                                                                                  with_reducible rfl
                                                                                rotate_left
                                                                                · simp only [Act.put, List.setIfInBounds_toArray, List.set_cons_zero, List.set_cons_succ, i64_w, i32_w]
                                                                                  rfl
                                                                                refine pure_ (i := 15) (N := some 87) (v := ?_) (a' := ?_) #[true, true, true, true, true, true, true, true, true, true, true, true, true, true, true, true, false, false, false, false, false, false, false, false, false, false, false, false, false, false, false, false, false, false, false, false, false, false, false, false, false, false, false, false, false, false, false, false, false, false, false] rfl rfl (any_of HT_.out (by kernel_rfl)) (fun _ _ _ h => h) (Or.inl ⟨by rfl, ?_⟩) ?_ ?_
                                                                                rotate_left
                                                                                · intro w'
                                                                                  go_simp
                                                                                  with_reducible rfl
                                                                                rotate_left
                                                                                · simp only [Act.put, List.setIfInBounds_toArray, List.set_cons_zero, List.set_cons_succ, i64_w, i32_w]
                                                                                  rfl
                                                                                refine pure_ (i := 16) (N := some 88) (v := ?_) (a' := ?_) #[true, true, true, true, true, true, true, true, true, true, true, true, true, true, true, true, true, false, false, false, false, false, false, false, false, false, false, false, false, false, false, false, false, false, false, false, false, false, false, false, false, false, false, false, false, false, false, false, false, false, false] rfl rfl (any_of HT_.out (by kernel_rfl)) (fun _ _ _ h => h) (Or.inl ⟨by rfl, ?_⟩) ?_ ?_
                                                                                rotate_left
                                                                                · intro w'
                                                                                  go_simp
                                                                                  with_reducible rfl
                                                                                rotate_left
                                                                                · simp only [Act.put, List.setIfInBounds_toArray, List.set_cons_zero, List.set_cons_succ, i64_w, i32_w]
                                                                                  rfl
                                                                                refine pure_ (i := 17) (N := some 89) (v := ?_) (a' := ?_) #[true, true, true, true, true, true, true, true, true, true, true, true, true, true, true, true, true, true, false, false, false, false, false, false, false, false, false, false, false, false, false, false, false, false, false, false, false, false, false, false, false, false, false, false, false, false, false, false, false, false, false] rfl rfl (any_of HT_.out (by kernel_rfl)) (fun _ _ _ h => h) (Or.inl ⟨by rfl, ?_⟩) ?_ ?_
                                                                                rotate_left
                                                                                · intro w'
                                                                                  go_simp
                                                                                  with_reducible rfl
                                                                                rotate_left
                                                                                · simp only [Act.put, List.setIfInBounds_toArray, List.set_cons_zero, List.set_cons_succ, i64_w, i32_w]
                                                                                  rfl
                                                                                refine pure_ (i := 18) (N := some 90) (v := ?_) (a' := ?_) #[true, true, true, true, true, true, true, true, true, true, true, true, true, true, true, true, true, true, true, false, false, false, false, false, false, false, false, false, false, false, false, false, false, false, false, false, false, false, false, false, false, false, false, false, false, false, false, false, false, false, false] rfl rfl (any_of HT_.out (by kernel_rfl)) (fun _ _ _ h => h) (Or.inl ⟨by rfl, ?_⟩) ?_ ?_
                                                                                rotate_left
                                                                                · intro w'
                                                                                  go_simp
                                                                                  with_reducible rfl
                                                                                rotate_left
                                                                                · simp only [Act.put, List.setIfInBounds_toArray, List.set_cons_zero, List.set_cons_succ, i64_w, i32_w]
                                                                                  rfl
                                                                                refine pure_ (i := 19) (N := some 91) (v := ?_) (a' := ?_) #[true, true, true, true, true, true, true, true, true, true, true, true, true, true, true, true, true, true, true, true, false, false, false, false, false, false, false, false, false, false, false, false, false, false, false, false, false, false, false, false, false, false, false, false, false, false, false, false, false, false, false] rfl rfl (any_of HT_.out (by kernel_rfl)) (fun _ _ _ h => h) (Or.inl ⟨by rfl, ?_⟩) ?_ ?_
                                                                                rotate_left
                                                                                · intro w'
                                                                                  go_simp
                                                                                  with_reducible rfl
                                                                                rotate_left
                                                                                · simp only [Act.put, List.setIfInBounds_toArray, List.set_cons_zero, List.set_cons_succ, i64_w, i32_w]
                                                                                  rfl
                                                                                refine pure_ (i := 20) (N := some 92) (v := ?_) (a' := ?_) #[true, true, true, true, true, true, true, true, true, true, true, true, true, true, true, true, true, true, true, true, true, false, false, false, false, false, false, false, false, false, false, false, false, false, false, false, false, false, false, false, false, false, false, false, false, false, false, false, false, false, false] rfl rfl (any_of HT_.out (by kernel_rfl)) (fun _ _ _ h => h) (Or.inl ⟨by rfl, ?_⟩) ?_ ?_
                                                                                rotate_left
                                                                                · intro w'
                                                                                  go_simp
                                                                                  with_reducible rfl
                                                                                rotate_left
                                                                                · simp only [Act.put, List.setIfInBounds_toArray, List.set_cons_zero, List.set_cons_succ, i64_w, i32_w]
                                                                                  rfl
                                                                                refine pure_ (i := 21) (N := some 93) (v := ?_) (a' := ?_) #[true, true, true, true, true, true, true, true, true, true, true, true, true, true, true, true, true, true, true, true, true, true, false, false, false, false, false, false, false, false, false, false, false, false, false, false, false, false, false, false, false, false, false, false, false, false, false, false, false, false, false] rfl rfl (any_of HT_.out (by kernel_rfl)) (fun _ _ _ h => h) (Or.inl ⟨by rfl, ?_⟩) ?_ ?_
                                                                                rotate_left
                                                                                · intro w'
                                                                                  go_simp
                                                                                  with_reducible rfl
                                                                                rotate_left
                                                                                · simp only [Act.put, List.setIfInBounds_toArray, List.set_cons_zero, List.set_cons_succ, i64_w, i32_w]
                                                                                  rfl
                                                                                refine pure_ (i := 22) (N := some 94) (v := ?_) (a' := ?_) #[true, true, true, true, true, true, true, true, true, true, true, true, true, true, true, true, true, true, true, true, true, true, true, false, false, false, false, false, false, false, false, false, false, false, false, false, false, false, false, false, false, false, false, false, false, false, false, false, false, false, false] rfl rfl (any_of HT_.out (by kernel_rfl)) (fun _ _ _ h => h) (Or.inl ⟨by rfl, ?_⟩) ?_ ?_
                                                                                rotate_left
                                                                                · intro w'
                                                                                  go_simp
                                                                                  with_reducible rfl
                                                                                rotate_left
                                                                                · simp only [Act.put, List.setIfInBounds_toArray, List.set_cons_zero, List.set_cons_succ, i64_w, i32_w]
                                                                                  rfl
                                                                                refine pure_ (i := 23) (N := some 95) (v := ?_) (a' := ?_) #[true, true, true, true, true, true, true, true, true, true, true, true, true, true, true, true, true, true, true, true, true, true, true, true, false, false, false, false, false, false, false, false, false, false, false, false, false, false, false, false, false, false, false, false, false, false, false, false, false, false, false] rfl rfl (any_of HT_.out (by kernel_rfl)) (fun _ _ _ h => h) (Or.inl ⟨by rfl, ?_⟩) ?_ ?_
                                                                                rotate_left
                                                                                · intro w'
                                                                                  go_simp
                                                                                  with_reducible rfl
                                                                                rotate_left
                                                                                · simp only [Act.put, List.setIfInBounds_toArray, List.set_cons_zero, List.set_cons_succ, i64_w, i32_w]
                                                                                  rfl
                                                                                refine pure_ (i := 24) (N := some 96) (v := ?_) (a' := ?_) #[true, true, true, true, true, true, true, true, true, true, true, true, true, true, true, true, true, true, true, true, true, true, true, true, true, false, false, false, false, false, false, false, false, false, false, false, false, false, false, false, false, false, false, false, false, false, false, false, false, false, false] rfl rfl (any_of HT_.out (by kernel_rfl)) (fun _ _ _ h => h) (Or.inl ⟨by rfl, ?_⟩) ?_ ?_
                                                                                rotate_left
                                                                                · intro w'
                                                                                  go_simp
                                                                                  with_reducible rfl
                                                                                rotate_left
                                                                                · simp only [Act.put, List.setIfInBounds_toArray, List.set_cons_zero, List.set_cons_succ, i64_w, i32_w]
                                                                                  rfl
                                                                                refine pure_ (i := 25) (N := some 97) (v := ?_) (a' := ?_) #[true, true, true, true, true, true, true, true, true, true, true, true, true, true, true, true, true, true, true, true, true, true, true, true, true, true, false, false, false, false, false, false, false, false, false, false, false, false, false, false, false, false, false, false, false, false, false, false, false, false, false] rfl rfl (any_of HT_.out (by kernel_rfl)) (fun _ _ _ h => h) (Or.inl ⟨by rfl, ?_⟩) ?_ ?_
                                                                                rotate_left
                                                                                · intro w'
                                                                                  go_simp
                                                                                  with_reducible rfl
                                                                                rotate_left
                                                                                · simp only [Act.put, List.setIfInBounds_toArray, List.set_cons_zero, List.set_cons_succ, i64_w, i32_w]
                                                                                  rfl
                                                                                refine pure_ (i := 26) (N := some 98) (v := ?_) (a' := ?_) #[true, true, true, true, true, true, true, true, true, true, true, true, true, true, true, true, true, true, true, true, true, true, true, true, true, true, true, false, false, false, false, false, false, false, false, false, false, false, false, false, false, false, false, false, false, false, false, false, false, false, false] rfl rfl (any_of HT_.out (by kernel_rfl)) (fun _ _ _ h => h) (Or.inl ⟨by rfl, ?_⟩) ?_ ?_
                                                                                rotate_left
                                                                                · intro w'
                                                                                  go_simp
                                                                                  with_reducible rfl
                                                                                rotate_left
                                                                                · simp only [Act.put, List.setIfInBounds_toArray, List.set_cons_zero, List.set_cons_succ, i64_w, i32_w]
                                                                                  rfl
                                                                                refine pure_ (i := 27) (N := some 99) (v := ?_) (a' := ?_) #[true, true, true, true, true, true, true, true, true, true, true, true, true, true, true, true, true, true, true, true, true, true, true, true, true, true, true, true, false, false, false, false, false, false, false, false, false, false, false, false, false, false, false, false, false, false, false, false, false, false, false] rfl rfl (any_of HT_.out (by kernel_rfl)) (fun _ _ _ h => h) (Or.inl ⟨by rfl, ?_⟩) ?_ ?_
                                                                                rotate_left
                                                                                · intro w'
                                                                                  go_simp
                                                                                  with_reducible rfl
                                                                                rotate_left
                                                                                · simp only [Act.put, List.setIfInBounds_toArray, List.set_cons_zero, List.set_cons_succ, i64_w, i32_w]
                                                                                  rfl
                                                                                refine pure_ (i := 28) (N := some 100) (v := ?_) (a' := ?_) #[true, true, true, true, true, true, true, true, true, true, true, true, true, true, true, true, true, true, true, true, true, true, true, true, true, true, true, true, true, false, false, false, false, false, false, false, false, false, false, false, false, false, false, false, false, false, false, false, false, false, false] rfl rfl (any_of HT_.out (by kernel_rfl)) (fun _ _ _ h => h) (Or.inl ⟨by rfl, ?_⟩) ?_ ?_
                                                                                rotate_left
                                                                                · intro w'
                                                                                  go_simp
                                                                                  with_reducible rfl
                                                                                rotate_left
                                                                                · simp only [Act.put, List.setIfInBounds_toArray, List.set_cons_zero, List.set_cons_succ, i64_w, i32_w]
                                                                                  rfl
                                                                                refine pure_ (i := 29) (N := some 101) (v := ?_) (a' := ?_) #[true, true, true, true, true, true, true, true, true, true, true, true, true, true, true, true, true, true, true, true, true, true, true, true, true, true, true, true, true, true, false, false, false, false, false, false, false, false, false, false, false, false, false, false, false, false, false, false, false, false, false] rfl rfl (any_of HT_.out (by kernel_rfl)) (fun _ _ _ h => h) (Or.inl ⟨by rfl, ?_⟩) ?_ ?_
                                                                                rotate_left
                                                                                · intro w'
                                                                                  go_simp
                                                                                  with_reducible rfl
                                                                                rotate_left
                                                                                · simp only [Act.put, List.setIfInBounds_toArray, List.set_cons_zero, List.set_cons_succ, i64_w, i32_w]
                                                                                  rfl
                                                                                refine pure_ (i := 30) (N := some 102) (v := ?_) (a' := ?_) #[true, true, true, true, true, true, true, true, true, true, true, true, true, true, true, true, true, true, true, true, true, true, true, true, true, true, true, true, true, true, true, false, false, false, false, false, false, false, false, false, false, false, false, false, false, false, false, false, false, false, false] rfl rfl (any_of HT_.out (by kernel_rfl)) (fun _ _ _ h => h) (Or.inl ⟨by rfl, ?_⟩) ?_ ?_
                                                                                rotate_left
                                                                                · intro w'
                                                                                  go_simp
                                                                                  with_reducible rfl
                                                                                rotate_left
                                                                                · simp only [Act.put, List.setIfInBounds_toArray, List.set_cons_zero, List.set_cons_succ, i64_w, i32_w]
                                                                                  rfl
                                                                                refine pure_ (i := 31) (N := some 103) (v := ?_) (a' := ?_) #[true, true, true, true, true, true, true, true, true, true, true, true, true, true, true, true, true, true, true, true, true, true, true, true, true, true, true, true, true, true, true, true, false, false, false, false, false, false, false, false, false, false, false, false, false, false, false, false, false, false, false] rfl rfl (any_of HT_.out (by kernel_rfl)) (fun _ _ _ h => h) (Or.inl ⟨by rfl, ?_⟩) ?_ ?_
                                                                                rotate_left
                                                                                · intro w'
                                                                                  go_simp
                                                                                  with_reducible rfl
                                                                                rotate_left
                                                                                · simp only [Act.put, List.setIfInBounds_toArray, List.set_cons_zero, List.set_cons_succ, i64_w, i32_w]
                                                                                  rfl
                                                                                refine pure_ (i := 32) (N := some 104) (v := ?_) (a' := ?_) #[true, true, true, true, true, true, true, true, true, true, true, true, true, true, true, true, true, true, true, true, true, true, true, true, true, true, true, true, true, true, true, true, true, false, false, false, false, false, false, false, false, false, false, false, false, false, false, false, false, false, false] rfl rfl (any_of HT_.out (by kernel_rfl)) (fun _ _ _ h => h) (Or.inl ⟨by rfl, ?_⟩) ?_ ?_
                                                                                rotate_left
                                                                                · intro w'
                                                                                  go_simp
                                                                                  with_reducible rfl
                                                                                rotate_left
                                                                                · simp only [Act.put, List.setIfInBounds_toArray, List.set_cons_zero, List.set_cons_succ, i64_w, i32_w]
                                                                                  rfl
                                                                                refine pure_ (i := 33) (N := some 105) (v := ?_) (a' := ?_) #[true, true, true, true, true, true, true, true, true, true, true, true, true, true, true, true, true, true, true, true, true, true, true, true, true, true, true, true, true, true, true, true, true, true, false, false, false, false, false, false, false, false, false, false, false, false, false, false, false, false, false] rfl rfl (any_of HT_.out (by kernel_rfl)) (fun _ _ _ h => h) (Or.inl ⟨by rfl, ?_⟩) ?_ ?_
                                                                                rotate_left
                                                                                · intro w'
                                                                                  go_simp
                                                                                  with_reducible rfl
                                                                                rotate_left
                                                                                · simp only [Act.put, List.setIfInBounds_toArray, List.set_cons_zero, List.set_cons_succ, i64_w, i32_w]
                                                                                  rfl
                                                                                refine pure_ (i := 34) (N := some 106) (v := ?_) (a' := ?_) #[true, true, true, true, true, true, true, true, true, true, true, true, true, true, true, true, true, true, true, true, true, true, true, true, true, true, true, true, true, true, true, true, true, true, true, false, false, false, false, false, false, false, false, false, false, false, false, false, false, false, false] rfl rfl (any_of HT_.out (by kernel_rfl)) (fun _ _ _ h => h) (Or.inl ⟨by rfl, ?_⟩) ?_ ?_
                                                                                rotate_left
                                                                                · intro w'
                                                                                  go_simp
                                                                                  with_reducible rfl
                                                                                rotate_left
                                                                                · simp only [Act.put, List.setIfInBounds_toArray, List.set_cons_zero, List.set_cons_succ, i64_w, i32_w]
                                                                                  rfl
                                                                                refine pure_ (i := 35) (N := some 107) (v := ?_) (a' := ?_) #[true, true, true, true, true, true, true, true, true, true, true, true, true, true, true, true, true, true, true, true, true, true, true, true, true, true, true, true, true, true, true, true, true, true, true, true, false, false, false, false, false, false, false, false, false, false, false, false, false, false, false] rfl rfl (any_of HT_.out (by kernel_rfl)) (fun _ _ _ h => h) (Or.inl ⟨by rfl, ?_⟩) ?_ ?_
                                                                                rotate_left
                                                                                · intro w'
                                                                                  go_simp
                                                                                  with_reducible rfl
                                                                                rotate_left
                                                                                · simp only [Act.put, List.setIfInBounds_toArray, List.set_cons_zero, List.set_cons_succ, i64_w, i32_w]
                                                                                  rfl
                                                                                refine pure_ (i := 36) (N := some 108) (v := ?_) (a' := ?_) #[true, true, true, true, true, true, true, true, true, true, true, true, true, true, true, true, true, true, true, true, true, true, true, true, true, true, true, true, true, true, true, true, true, true, true, true, true, false, false, false, false, false, false, false, false, false, false, false, false, false, false] rfl rfl (any_of HT_.out (by kernel_rfl)) (fun _ _ _ h => h) (Or.inl ⟨by rfl, ?_⟩) ?_ ?_
                                                                                rotate_left
                                                                                · intro w'
                                                                                  go_simp
                                                                                  with_reducible rfl
                                                                                rotate_left
                                                                                · simp only [Act.put, List.setIfInBounds_toArray, List.set_cons_zero, List.set_cons_succ, i64_w, i32_w]
                                                                                  rfl
                                                                                refine pure_ (i := 37) (N := some 109) (v := ?_) (a' := ?_) #[true, true, true, true, true, true, true, true, true, true, true, true, true, true, true, true, true, true, true, true, true, true, true, true, true, true, true, true, true, true, true, true, true, true, true, true, true, true, false, false, false, false, false, false, false, false, false, false, false, false, false] rfl rfl (any_of HT_.out (by kernel_rfl)) (fun _ _ _ h => h) (Or.inl ⟨by rfl, ?_⟩) ?_ ?_
                                                                                rotate_left
                                                                                · intro w'
                                                                                  go_simp
                                                                                  with_reducible rfl
                                                                                rotate_left
                                                                                · simp only [Act.put, List.setIfInBounds_toArray, List.set_cons_zero, List.set_cons_succ, i64_w, i32_w]
                                                                                  rfl
                                                                                refine pure_ (i := 38) (N := some 110) (v := ?_) (a' := ?_) #[true, true, true, true, true, true, true, true, true, true, true, true, true, true, true, true, true, true, true, true, true, true, true, true, true, true, true, true, true, true, true, true, true, true, true, true, true, true, true, false, false, false, false, false, false, false, false, false, false, false, false] rfl rfl (any_of HT_.out (by kernel_rfl)) (fun _ _ _ h => h) (Or.inl ⟨by rfl, ?_⟩) ?_ ?_
                                                                                rotate_left
                                                                                · intro w'
                                                                                  go_simp
                                                                                  with_reducible rfl
                                                                                rotate_left
                                                                                · simp only [Act.put, List.setIfInBounds_toArray, List.set_cons_zero, List.set_cons_succ, i64_w, i32_w]
                                                                                  rfl
                                                                                refine pure_ (i := 39) (N := some 111) (v := ?_) (a' := ?_) #[true, true, true, true, true, true, true, true, true, true, true, true, true, true, true, true, true, true, true, true, true, true, true, true, true, true, true, true, true, true, true, true, true, true, true, true, true, true, true, true, false, false, false, false, false, false, false, false, false, false, false] rfl rfl (any_of HT_.out (by kernel_rfl)) (fun _ _ _ h => h) (Or.inl ⟨by rfl, ?_⟩) ?_ ?_
                                                                                rotate_left
                                                                                · intro w'
                                                                                  go_simp
                                                                                  with_reducible rfl
                                                                                rotate_left
                                                                                · simp only [Act.put, List.setIfInBounds_toArray, List.set_cons_zero, List.set_cons_succ, i64_w, i32_w]
                                                                                  rfl
                                                                                refine pure_ (i := 40) (N := some 112) (v := ?_) (a' := ?_) #[true, true, true, true, true, true, true, true, true, true, true, true, true, true, true, true, true, true, true, true, true, true, true, true, true, true, true, true, true, true, true, true, true, true, true, true, true, true, true, true, true, false, false, false, false, false, false, false, false, false, false] rfl rfl (any_of HT_.out (by kernel_rfl)) (fun _ _ _ h => h) (Or.inl ⟨by rfl, ?_⟩) ?_ ?_
                                                                                rotate_left
                                                                                · intro w'
                                                                                  go_simp
                                                                                  with_reducible rfl
                                                                                rotate_left
                                                                                · simp only [Act.put, List.setIfInBounds_toArray, List.set_cons_zero, List.set_cons_succ, i64_w, i32_w]
                                                                                  rfl
                                                                                refine pure_ (i := 41) (N := some 113) (v := ?_) (a' := ?_) #[true, true, true, true, true, true, true, true, true, true, true, true, true, true, true, true, true, true, true, true, true, true, true, true, true, true, true, true, true, true, true, true, true, true, true, true, true, true, true, true, true, true, false, false, false, false, false, false, false, false, false] rfl rfl (any_of HT_.out (by kernel_rfl)) (fun _ _ _ h => h) (Or.inl ⟨by rfl, ?_⟩) ?_ ?_
                                                                                rotate_left
                                                                                · intro w'
                                                                                  go_simp
                                                                                  with_reducible rfl
                                                                                rotate_left
                                                                                · simp only [Act.put, List.setIfInBounds_toArray, List.set_cons_zero, List.set_cons_succ, i64_w, i32_w]
                                                                                  rfl
                                                                                refine pure_ (i := 42) (N := some 114) (v := ?_) (a' := ?_) #[true, true, true, true, true, true, true, true, true, true, true, true, true, true, true, true, true, true, true, true, true, true, true, true, true, true, true, true, true, true, true, true, true, true, true, true, true, true, true, true, true, true, true, false, false, false, false, false, false, false, false] rfl rfl (any_of HT_.out (by kernel_rfl)) (fun _ _ _ h => h) (Or.inl ⟨by rfl, ?_⟩) ?_ ?_
                                                                                rotate_left
                                                                                · intro w'
                                                                                  go_simp
                                                                                  with_reducible rfl
                                                                                rotate_left
                                                                                · simp only [Act.put, List.setIfInBounds_toArray, List.set_cons_zero, List.set_cons_succ, i64_w, i32_w]
                                                                                  rfl
                                                                                refine pure_ (i := 43) (N := some 115) (v := ?_) (a' := ?_) #[true, true, true, true, true, true, true, true, true, true, true, true, true, true, true, true, true, true, true, true, true, true, true, true, true, true, true, true, true, true, true, true, true, true, true, true, true, true, true, true, true, true, true, true, false, false, false, false, false, false, false] rfl rfl (any_of HT_.out (by kernel_rfl)) (fun _ _ _ h => h) (Or.inl ⟨by rfl, ?_⟩) ?_ ?_
                                                                                rotate_left
                                                                                · intro w'
                                                                                  go_simp
                                                                                  with_reducible rfl
                                                                                rotate_left
                                                                                · simp only [Act.put, List.setIfInBounds_toArray, List.set_cons_zero, List.set_cons_succ, i64_w, i32_w]
                                                                                  rfl
                                                                                refine pure_ (i := 44) (N := some 116) (v := ?_) (a' := ?_) #[true, true, true, true, true, true, true, true, true, true, true, true, true, true, true, true, true, true, true, true, true, true, true, true, true, true, true, true, true, true, true, true, true, true, true, true, true, true, true, true, true, true, true, true, true, false, false, false, false, false, false] rfl rfl (any_of HT_.out (by kernel_rfl)) (fun _ _ _ h => h) (Or.inl ⟨by rfl, ?_⟩) ?_ ?_
                                                                                rotate_left
                                                                                · intro w'
                                                                                  go_simp
                                                                                  with_reducible rfl
                                                                                rotate_left
                                                                                · simp only [Act.put, List.setIfInBounds_toArray, List.set_cons_zero, List.set_cons_succ, i64_w, i32_w]
                                                                                  rfl
                                                                                refine pure_ (i := 45) (N := some 117) (v := ?_) (a' := ?_) #[true, true, true, true, true, true, true, true, true, true, true, true, true, true, true, true, true, true, true, true, true, true, true, true, true, true, true, true, true, true, true, true, true, true, true, true, true, true, true, true, true, true, true, true, true, true, false, false, false, false, false] rfl rfl (any_of HT_.out (by kernel_rfl)) (fun _ _ _ h => h) (Or.inl ⟨by rfl, ?_⟩) ?_ ?_
                                                                                rotate_left
                                                                                · intro w'
                                                                                  go_simp
                                                                                  with_reducible rfl
                                                                                rotate_left
                                                                                · simp only [Act.put, List.setIfInBounds_toArray, List.set_cons_zero, List.set_cons_succ, i64_w, i32_w]
                                                                                  rfl
                                                                                refine pure_ (i := 46) (N := some 118) (v := ?_) (a' := ?_) #[true, true, true, true, true, true, true, true, true, true, true, true, true, true, true, true, true, true, true, true, true, true, true, true, true, true, true, true, true, true, true, true, true, true, true, true, true, true, true, true, true, true, true, true, true, true, true, false, false, false, false] rfl rfl (any_of HT_.out (by kernel_rfl)) (fun _ _ _ h => h) (Or.inl ⟨by rfl, ?_⟩) ?_ ?_
                                                                                rotate_left
                                                                                · intro w'
                                                                                  go_simp
                                                                                  with_reducible rfl
                                                                                rotate_left
                                                                                · simp only [Act.put, List.setIfInBounds_toArray, List.set_cons_zero, List.set_cons_succ, i64_w, i32_w]
                                                                                  rfl
                                                                                refine pure_ (i := 47) (N := some 119) (v := ?_) (a' := ?_) #[true, true, true, true, true, true, true, true, true, true, true, true, true, true, true, true, true, true, true, true, true, true, true, true, true, true, true, true, true, true, true, true, true, true, true, true, true, true, true, true, true, true, true, true, true, true, true, true, false, false, false] rfl rfl (any_of HT_.out (by kernel_rfl)) (fun _ _ _ h => h) (Or.inl ⟨by rfl, ?_⟩) ?_ ?_
                                                                                rotate_left
                                                                                · intro w'
                                                                                  go_simp
                                                                                  with_reducible rfl
                                                                                rotate_left
                                                                                · simp only [Act.put, List.setIfInBounds_toArray, List.set_cons_zero, List.set_cons_succ, i64_w, i32_w]
                                                                                  rfl
                                                                                refine pure_ (i := 48) (N := some 120) (v := ?_) (a' := ?_) #[true, true, true, true, true, true, true, true, true, true, true, true, true, true, true, true, true, true, true, true, true, true, true, true, true, true, true, true, true, true, true, true, true, true, true, true, true, true, true, true, true, true, true, true, true, true, true, true, true, false, false] rfl rfl (any_of HT_.out (by kernel_rfl)) (fun _ _ _ h => h) (Or.inl ⟨by rfl, ?_⟩) ?_ ?_
                                                                                rotate_left
                                                                                · intro w'
                                                                                  go_simp
                                                                                  with_reducible rfl
                                                                                rotate_left
                                                                                · simp only [Act.put, List.setIfInBounds_toArray, List.set_cons_zero, List.set_cons_succ, i64_w, i32_w]
                                                                                  rfl
                                                                                refine one_ (i := 49) (N := some 121) #[true, true, true, true, true, true, true, true, true, true, true, true, true, true, true, true, true, true, true, true, true, true, true, true, true, true, true, true, true, true, true, true, true, true, true, true, true, true, true, true, true, true, true, true, true, true, true, true, true, true, false] rfl rfl (one_of HT_.out (by kernel_rfl)) (by decide) (fun K hK => ?_)
                                                                                refine Kd.R_lit_step Kd.string _ 9 ?hg (N := 121) ?hd (xs := ([(⟨#[]⟩ : ByteArray), t165.extract 0 31, t165 ++ (⟨#[120]⟩ : ByteArray), (⟨#[128]⟩ : ByteArray) ++ (t165.extract 1 t165.size), (⟨#[0, 0, 0, 0]⟩ : ByteArray) ++ (t165.extract 4 t165.size), ((t165.extract 0 4) ++ (⟨#[48]⟩ : ByteArray)) ++ (t165.extract 5 t165.size), ((t165.extract 0 5) ++ (⟨#[5]⟩ : ByteArray)) ++ (t165.extract 6 t165.size), ((t165.extract 0 5) ++ (⟨#[4]⟩ : ByteArray)) ++ (t165.extract 6 t165.size), ((t165.extract 0 6) ++ (⟨#[25]⟩ : ByteArray)) ++ (t165.extract 7 t165.size), ((t165.extract 0 6) ++ (⟨#[2]⟩ : ByteArray)) ++ (t165.extract 7 t165.size), ((t165.extract 0 7) ++ (⟨#[1]⟩ : ByteArray)) ++ (t165.extract 8 t165.size), (t165.extract 0 31) ++ (⟨#[1]⟩ : ByteArray)] : List ByteArray)) (inner := [.string (⟨#[]⟩ : ByteArray), .string (t165.extract 0 31), .string (t165 ++ (⟨#[120]⟩ : ByteArray)), .string ((⟨#[128]⟩ : ByteArray) ++ (t165.extract 1 t165.size)), .string ((⟨#[0, 0, 0, 0]⟩ : ByteArray) ++ (t165.extract 4 t165.size)), .string (((t165.extract 0 4) ++ (⟨#[48]⟩ : ByteArray)) ++ (t165.extract 5 t165.size)), .string (((t165.extract 0 5) ++ (⟨#[5]⟩ : ByteArray)) ++ (t165.extract 6 t165.size)), .string (((t165.extract 0 5) ++ (⟨#[4]⟩ : ByteArray)) ++ (t165.extract 6 t165.size)), .string (((t165.extract 0 6) ++ (⟨#[25]⟩ : ByteArray)) ++ (t165.extract 7 t165.size)), .string (((t165.extract 0 6) ++ (⟨#[2]⟩ : ByteArray)) ++ (t165.extract 7 t165.size)), .string (((t165.extract 0 7) ++ (⟨#[1]⟩ : ByteArray)) ++ (t165.extract 8 t165.size)), .string ((t165.extract 0 31) ++ (⟨#[1]⟩ : ByteArray))]) (ok := fun _ => True) (okp := fun _ => True) ?hr ?hp (fun _ hk => hk) trivial (Below.refl _ _) (Nat.le_refl _) (by simp) ?_; (case hd => rfl); (case hg => rfl); (case hr => first | (go_simp; done) | (go_simp; rfl)); (case hp => exact (Reps.one (show Kd.M Kd.string _ _ _ (⟨#[]⟩ : ByteArray) [.string (⟨#[]⟩ : ByteArray)] from rfl) (Reps.one (show Kd.M Kd.string _ _ _ (t165.extract 0 31) [.string (t165.extract 0 31)] from rfl) (Reps.one (show Kd.M Kd.string _ _ _ (t165 ++ (⟨#[120]⟩ : ByteArray)) [.string (t165 ++ (⟨#[120]⟩ : ByteArray))] from rfl) (Reps.one (show Kd.M Kd.string _ _ _ ((⟨#[128]⟩ : ByteArray) ++ (t165.extract 1 t165.size)) [.string ((⟨#[128]⟩ : ByteArray) ++ (t165.extract 1 t165.size))] from rfl) (Reps.one (show Kd.M Kd.string _ _ _ ((⟨#[0, 0, 0, 0]⟩ : ByteArray) ++ (t165.extract 4 t165.size)) [.string ((⟨#[0, 0, 0, 0]⟩ : ByteArray) ++ (t165.extract 4 t165.size))] from rfl) (Reps.one (show Kd.M Kd.string _ _ _ (((t165.extract 0 4) ++ (⟨#[48]⟩ : ByteArray)) ++ (t165.extract 5 t165.size)) [.string (((t165.extract 0 4) ++ (⟨#[48]⟩ : ByteArray)) ++ (t165.extract 5 t165.size))] from rfl) (Reps.one (show Kd.M Kd.string _ _ _ (((t165.extract 0 5) ++ (⟨#[5]⟩ : ByteArray)) ++ (t165.extract 6 t165.size)) [.string (((t165.extract 0 5) ++ (⟨#[5]⟩ : ByteArray)) ++ (t165.extract 6 t165.size))] from rfl) (Reps.one (show Kd.M Kd.string _ _ _ (((t165.extract 0 5) ++ (⟨#[4]⟩ : ByteArray)) ++ (t165.extract 6 t165.size)) [.string (((t165.extract 0 5) ++ (⟨#[4]⟩ : ByteArray)) ++ (t165.extract 6 t165.size))] from rfl) (Reps.one (show Kd.M Kd.string _ _ _ (((t165.extract 0 6) ++ (⟨#[25]⟩ : ByteArray)) ++ (t165.extract 7 t165.size)) [.string (((t165.extract 0 6) ++ (⟨#[25]⟩ : ByteArray)) ++ (t165.extract 7 t165.size))] from rfl) (Reps.one (show Kd.M Kd.string _ _ _ (((t165.extract 0 6) ++ (⟨#[2]⟩ : ByteArray)) ++ (t165.extract 7 t165.size)) [.string (((t165.extract 0 6) ++ (⟨#[2]⟩ : ByteArray)) ++ (t165.extract 7 t165.size))] from rfl) (Reps.one (show Kd.M Kd.string _ _ _ (((t165.extract 0 7) ++ (⟨#[1]⟩ : ByteArray)) ++ (t165.extract 8 t165.size)) [.string (((t165.extract 0 7) ++ (⟨#[1]⟩ : ByteArray)) ++ (t165.extract 8 t165.size))] from rfl) (Reps.one (show Kd.M Kd.string _ _ _ ((t165.extract 0 31) ++ (⟨#[1]⟩ : ByteArray)) [.string ((t165.extract 0 31) ++ (⟨#[1]⟩ : ByteArray))] from rfl) (Reps.none _ _))))))))))))))
                                                                                intro v169 w87 ho88 hb hg_ hnew_
                                                                                clear hg_ hnew_
                                                                                (first | rw [← Ny168.out] at ho88 | (simp only [Int.reduceToNat] at ho88; rw [← Ny168.out] at ho88))
                                                                                have n0_ := Aside0.mk (Kd.R_lower ho88 (below_size (by repeat (first | (with_reducible first | exact HB.out | apply below_alloc | apply pw_below_drewN | apply below_drew1 | refine below_set ?_ GE162.out) | exact HB.out))))
                                                                                have n1_ := Aside0.mk (blk_below (g := gb162) (o := .cells #[.int .i64 ((rd_T40 y158 (ji8)).f0), .int .i64 ((rd_T40 y158 (ji8)).f1), .int .i64 ((rd_T40 y158 (ji8)).f2), .string ((rd_T40 y158 (ji8)).f3)] 40 (0, 0)) (by (with_reducible repeat (first | refine blk_drewN ?_ _ | refine blk_drew ?_ | refine blk_alloc ?_ _)); exact BK162.out) hb)
                                                                                have n2_ := Aside0.mk (below_step (by repeat (first | (with_reducible first | exact HB.out | apply below_alloc | apply pw_below_drewN | apply below_drew1 | refine below_set ?_ GE162.out) | exact HB.out)) hb)
                                                                                clear BK162
                                                                                clear HB
                                                                                have HO170 := n0_
                                                                                have BK162 := n1_
                                                                                have HB := n2_
                                                                                clear n0_ n1_ n2_
                                                                                clear hb ho88
                                                                                refine hK.out _ _ trivial (fun hHeld => ?_)
                                                                                clear hK K
                                                                                refine norm_ (a' := ?_) ?_ ?_
                                                                                rotate_left
                                                                                · show Act.put _ (some 121) _ = _
                                                                                  simp only [Act.put, List.setIfInBounds_toArray, List.set_cons_zero, List.set_cons_succ, i64_w, i32_w]
                                                                                  rfl
                                                                                refine pure_ (i := 50) (N := some 12) (v := ?_) (a' := ?_) #[true, true, true, true, true, true, true, true, true, true, true, true, true, true, true, true, true, true, true, true, true, true, true, true, true, true, true, true, true, true, true, true, true, true, true, true, true, true, true, true, true, true, true, true, true, true, true, true, true, true, true] rfl rfl (any_of HT_.out (by kernel_rfl)) (fun _ _ _ h => h) (Or.inl ⟨by rfl, ?_⟩) ?_ ?_
                                                                                rotate_left
                                                                                · intro w'
                                                                                  go_simp
                                                                                  with_reducible rfl
                                                                                rotate_left
                                                                                · simp only [Act.put, List.setIfInBounds_toArray, List.set_cons_zero, List.set_cons_succ, i64_w, i32_w]
                                                                                  rfl
                                                                                refine done_ (done_of HT_.out (by kernel_rfl)) ?_
                                                                                obtain ⟨Ao89, co89, eo89⟩ := Kd.R_slice HO170.out
                                                                                subst eo89
                                                                                have p171 : 0 ≤ ((ji66) : Int) := of_decide_eq_true (by first | (with_reducible assumption) | assumption)
                                                                                have q171 : (ji66) < (y168.length : Int) := of_decide_eq_true (by first | (with_reducible assumption) | assumption)
                                                                                obtain ⟨ad171, e171, hx171_0⟩ := Kd.at_string (Kd.R_reads' HO170.out).2.2 (ji66) p171 q171
                                                                                cases e171
                                                                                replace p171 := eq_true p171
                                                                                replace q171 := eq_true q171
                                                                                try go_wp2_with (first | ((with_reducible refine gate_callee (f := 28) rfl ?_); refine goesL_ (some 130) rfl rfl Try.func28 (by kernel_rfl) rfl #[.string (rdOf ByteArray.empty y168 (ji66))] rfl (by (try simp only [List.map_toArray, List.map_cons, List.map_nil]); first | done | (simp only [hji66]; rfl) | rfl | (simp only [List.length_drop, List.length_take]; rfl)) ?_; (with_reducible refine (record_Get.calls kj12 (rdOf ByteArray.empty y168 (ji66)) t172 t173 t174 t175 t176 _ A69.out).mono ?_); rintro e w90 ⟨rfl, hb⟩; refine ⟨_, rfl, ?_⟩; have n0_ := Aside0.mk (Kd.R_below (by (with_reducible repeat (first | apply Kd.R_alloc | apply Kd.R_drewN | apply Kd.R_drew)); exact HO170.out) hb); have n1_ := Aside0.mk (blk_below (g := gb162) (o := .cells #[.int .i64 ((rd_T40 y158 (ji8)).f0), .int .i64 ((rd_T40 y158 (ji8)).f1), .int .i64 ((rd_T40 y158 (ji8)).f2), .string ((rd_T40 y158 (ji8)).f3)] 40 (0, 0)) (by (with_reducible repeat (first | refine blk_drewN ?_ _ | refine blk_drew ?_ | refine blk_alloc ?_ _)); exact BK162.out) hb); have n2_ := Aside0.mk (below_step (by repeat (first | (with_reducible first | exact HB.out | apply below_alloc | apply pw_below_drewN | apply below_drew1 | refine below_set ?_ GE162.out) | exact HB.out)) hb); clear HO170; clear BK162; clear HB; have HO170 := n0_; have BK162 := n1_; have HB := n2_; clear n0_ n1_ n2_; (try clear hb); (try clear hb2); (try clear hk); (try clear hi)) | ((with_reducible refine gate_dst (N := 13) rfl ?_); (try (refine gate_guard (by rfl) ?_; dsimp only)); refine box_event ?hg (N := 13) ?hd (cs := #[.int .i64 0, .int .i64 0, .int .i64 0, .string (⟨#[]⟩ : ByteArray)]) (t := 40) ?hr ?_; (case hd => rfl); (case hg => rfl); (case hr => first | (go_simp; done) | (go_simp; rfl)); intro gb177 hg w91 hbox hb; have n0_ := Aside0.mk (Kd.R_below (by (with_reducible repeat (first | apply Kd.R_alloc | apply Kd.R_drewN | apply Kd.R_drew)); exact HO170.out) hb); have n1_ := Aside0.mk (blk_below (g := gb162) (o := .cells #[.int .i64 ((rd_T40 y158 (ji8)).f0), .int .i64 ((rd_T40 y158 (ji8)).f1), .int .i64 ((rd_T40 y158 (ji8)).f2), .string ((rd_T40 y158 (ji8)).f3)] 40 (0, 0)) (by (with_reducible repeat (first | refine blk_drewN ?_ _ | refine blk_drew ?_ | refine blk_alloc ?_ _)); exact BK162.out) hb); have n2_ := Aside0.mk (below_step (by repeat (first | (with_reducible first | exact HB.out | apply below_alloc | apply pw_below_drewN | apply below_drew1 | refine below_set ?_ GE162.out) | exact HB.out)) hb); have n3_ := Aside0.mk (hbox); have n4_ := Aside0.mk ((by rw [hg]; exact (below_size (by repeat (first | (with_reducible first | exact HB.out | apply below_alloc | apply pw_below_drewN | apply below_drew1 | refine below_set ?_ GE162.out) | exact HB.out))) : w.heap.size ≤ gb177)); have n5_ := Aside0.mk ((by rw [hg]; exact (below_size (by repeat (first | (with_reducible first | exact HB.out | apply below_alloc | apply pw_below_drewN | apply below_drew1 | refine below_set ?_ GE162.out) | exact HB.out))) : w.heap.size ≤ gb177)); have n6_ := Aside0.mk ((by rw [hg]; exact Nat.ne_of_lt (blk_lt (g := gb162) (o := .cells #[.int .i64 ((rd_T40 y158 (ji8)).f0), .int .i64 ((rd_T40 y158 (ji8)).f1), .int .i64 ((rd_T40 y158 (ji8)).f2), .string ((rd_T40 y158 (ji8)).f3)] 40 (0, 0)) (by (with_reducible repeat (first | refine blk_drewN ?_ _ | refine blk_drew ?_ | refine blk_alloc ?_ _)); exact BK162.out)) : gb162 ≠ gb177)); have n7_ := Aside0.mk ((by rw [hg]; exact Nat.ne_of_gt (blk_lt (g := gb162) (o := .cells #[.int .i64 ((rd_T40 y158 (ji8)).f0), .int .i64 ((rd_T40 y158 (ji8)).f1), .int .i64 ((rd_T40 y158 (ji8)).f2), .string ((rd_T40 y158 (ji8)).f3)] 40 (0, 0)) (by (with_reducible repeat (first | refine blk_drewN ?_ _ | refine blk_drew ?_ | refine blk_alloc ?_ _)); exact BK162.out)) : gb177 ≠ gb162)); clear HO170; clear BK162; clear HB; have HO170 := n0_; have BK162 := n1_; have HB := n2_; have BK177 := n3_; have GW177 := n4_; have GE177 := n5_; have NB162_177 := n6_; have NB177_162 := n7_; clear n0_ n1_ n2_ n3_ n4_ n5_ n6_ n7_; clear hb hbox hg; have hnb92 := NB177_162.out; have hnc92 := NB162_177.out; have hcz93_0 : w91.cell? ⟨gb177, 0, none⟩ = some (.int .i64 0) := (blk_cell BK177.out 0).trans rfl; have hcz93_1 : w91.cell? ⟨gb177, 1, none⟩ = some (.int .i64 0) := (blk_cell BK177.out 1).trans rfl; have hcz93_2 : w91.cell? ⟨gb177, 2, none⟩ = some (.int .i64 0) := (blk_cell BK177.out 2).trans rfl; have hcz93_3 : w91.cell? ⟨gb177, 3, none⟩ = some (.string (⟨#[]⟩ : ByteArray)) := (blk_cell BK177.out 3).trans rfl; have hfz93_0 := blk_frozen BK177.out 0; have hfz93_1 := blk_frozen BK177.out 1; have hfz93_2 := blk_frozen BK177.out 2; have hfz93_3 := blk_frozen BK177.out 3; have hcz94_0 : w91.cell? ⟨gb162, 0, none⟩ = some (.int .i64 ((rd_T40 y158 (ji8)).f0)) := (blk_cell BK162.out 0).trans rfl; have hcz94_1 : w91.cell? ⟨gb162, 1, none⟩ = some (.int .i64 ((rd_T40 y158 (ji8)).f1)) := (blk_cell BK162.out 1).trans rfl; have hcz94_2 : w91.cell? ⟨gb162, 2, none⟩ = some (.int .i64 ((rd_T40 y158 (ji8)).f2)) := (blk_cell BK162.out 2).trans rfl; have hcz94_3 : w91.cell? ⟨gb162, 3, none⟩ = some (.string ((rd_T40 y158 (ji8)).f3)) := (blk_cell BK162.out 3).trans rfl; have hfz94_0 := blk_frozen BK162.out 0; have hfz94_1 := blk_frozen BK162.out 1; have hfz94_2 := blk_frozen BK162.out 2; have hfz94_3 := blk_frozen BK162.out 3) | ((with_reducible refine gate_callee (f := 30) rfl ?_); refine goesL_ (some 134) rfl rfl Try.func30 (by kernel_rfl) rfl #[.agg #[.int .i64 ((rd_T40 y158 (ji8)).f0), .int .i64 ((rd_T40 y158 (ji8)).f1), .int .i64 ((rd_T40 y158 (ji8)).f2), .string ((rd_T40 y158 (ji8)).f3)]] rfl (by (try simp only [List.map_toArray, List.map_cons, List.map_nil]); first | done | (simp only [hji8]; rfl) | rfl | (simp only [List.length_drop, List.length_take]; rfl)) ?_; (with_reducible refine (record_May.calls ((rd_T40 y158 (ji8)).f0) ((rd_T40 y158 (ji8)).f1) ((rd_T40 y158 (ji8)).f2) ((rd_T40 y158 (ji8)).f3) false _ A70.out).mono ?_); rintro e w95 ⟨rfl, hb⟩; refine ⟨_, rfl, ?_⟩; have n0_ := Aside0.mk (Kd.R_below (by (with_reducible repeat (first | apply Kd.R_alloc | apply Kd.R_drewN | apply Kd.R_drew)); exact (Kd.R_mono (Kd.R_far (p := ⟨gb177, 3, none⟩) (Kd.R_far (p := ⟨gb177, 2, none⟩) (Kd.R_far (p := ⟨gb177, 1, none⟩) (Kd.R_far (p := ⟨gb177, 0, none⟩) (Kd.R_types HO170.out BK177.out (by decide)) (fun _ hk => hk.2) (.int .i64 t172)) (fun _ hk => hk.2) (.int .i64 t173)) (fun _ hk => hk.2) (.int .i64 t174)) (fun _ hk => hk.2) (.string t175)) (fun _ h_ => h_.1))) hb); have n1_ := Aside0.mk (blk_below (g := gb162) (o := .cells #[.int .i64 ((rd_T40 y158 (ji8)).f0), .int .i64 ((rd_T40 y158 (ji8)).f1), .int .i64 ((rd_T40 y158 (ji8)).f2), .string ((rd_T40 y158 (ji8)).f3)] 40 (0, 0)) (by (with_reducible repeat (first | refine blk_drewN ?_ _ | refine blk_drew ?_ | refine blk_alloc ?_ _)); refine blk_far ?_ NB162_177.out _; (with_reducible repeat (first | refine blk_drewN ?_ _ | refine blk_drew ?_ | refine blk_alloc ?_ _)); refine blk_far ?_ NB162_177.out _; (with_reducible repeat (first | refine blk_drewN ?_ _ | refine blk_drew ?_ | refine blk_alloc ?_ _)); refine blk_far ?_ NB162_177.out _; (with_reducible repeat (first | refine blk_drewN ?_ _ | refine blk_drew ?_ | refine blk_alloc ?_ _)); refine blk_far ?_ NB162_177.out _; (with_reducible repeat (first | refine blk_drewN ?_ _ | refine blk_drew ?_ | refine blk_alloc ?_ _)); exact BK162.out) hb); have n2_ := Aside0.mk (blk_below (g := gb177) (o := .cells #[.int .i64 t172, .int .i64 t173, .int .i64 t174, .string t175] 40 (0, 0)) (by (with_reducible repeat (first | refine blk_drewN ?_ _ | refine blk_drew ?_ | refine blk_alloc ?_ _)); refine blk_put (cs := #[.int .i64 t172, .int .i64 t173, .int .i64 t174, .string (⟨#[]⟩ : ByteArray)]) ?_ 3 _ rfl; (with_reducible repeat (first | refine blk_drewN ?_ _ | refine blk_drew ?_ | refine blk_alloc ?_ _)); refine blk_put (cs := #[.int .i64 t172, .int .i64 t173, .int .i64 0, .string (⟨#[]⟩ : ByteArray)]) ?_ 2 _ rfl; (with_reducible repeat (first | refine blk_drewN ?_ _ | refine blk_drew ?_ | refine blk_alloc ?_ _)); refine blk_put (cs := #[.int .i64 t172, .int .i64 0, .int .i64 0, .string (⟨#[]⟩ : ByteArray)]) ?_ 1 _ rfl; (with_reducible repeat (first | refine blk_drewN ?_ _ | refine blk_drew ?_ | refine blk_alloc ?_ _)); refine blk_put (cs := #[.int .i64 0, .int .i64 0, .int .i64 0, .string (⟨#[]⟩ : ByteArray)]) ?_ 0 _ rfl; (with_reducible repeat (first | refine blk_drewN ?_ _ | refine blk_drew ?_ | refine blk_alloc ?_ _)); exact BK177.out) hb); have n3_ := Aside0.mk (below_step (by repeat (first | (with_reducible first | exact HB.out | apply below_alloc | apply pw_below_drewN | apply below_drew1 | refine below_set ?_ GE162.out | refine below_set ?_ GE177.out) | exact HB.out)) hb); clear HO170; clear BK162; clear BK177; clear HB; have HO170 := n0_; have BK162 := n1_; have BK177 := n2_; have HB := n3_; clear n0_ n1_ n2_ n3_; (try clear hb); (try clear hb2); (try clear hk); (try clear hi)) | (go_at_call 22; (with_reducible refine (cryostatlaw0_Num.calls t164 t179 _ A83.out).mono ?_); rintro e w' ⟨rfl, ⟨nd, rfl⟩⟩) | (go_at_call 22; (with_reducible refine (cryostatlaw0_Num.calls t176 t180 _ A85.out).mono ?_); rintro e w' ⟨rfl, ⟨nd, rfl⟩⟩))
                                                                                go_ret
                                                                                exact ⟨by first | rfl | (simp [errW_none, errW_some] <;> rfl) | (simp only [← hji5, ← hji8, ← hji66]; first | rfl | (simp [errW_none, errW_some] <;> rfl)) | (simp [*, errW_none, errW_some] <;> rfl), by repeat (first | (with_reducible first | exact HB.out | apply below_alloc | apply pw_below_drewN | apply below_drew1 | refine below_set ?_ GE162.out | refine below_set ?_ GE177.out) | exact HB.out)⟩
                                                                              · rw [if_neg c84] at H
                                                                                have c84b0 : (t179 == 300) = false := beq_eq_false_iff_ne.mpr c84
                                                                                have c84b1 : (t179 != 300) = true := bne_iff_ne.mpr c84
                                                                                exact Bool.noConfusion ((Option.some.inj H).trans hr.out)
                                                                            · rw [if_neg c82] at H
                                                                              have c82b0 : (t163.toList == ([] : List UInt8)) = false := beq_eq_false_iff_ne.mpr c82
                                                                              have c82b1 : (t163.toList != ([] : List UInt8)) = true := bne_iff_ne.mpr c82
                                                                              exact Bool.noConfusion ((Option.some.inj H).trans hr.out)
                                                                        · rw [if_neg c68] at H
                                                                          exact absurd H (by simp)
                                                                      · rw [if_neg c67] at H
                                                                        exact absurd H (by simp)
                                                                    · rw [if_neg c65] at H
                                                                      exact absurd H (by simp)
                                                                  · rw [if_neg c62] at H
                                                                    exact absurd H (by simp)
                                                                · rw [if_neg c61] at H
                                                                  exact absurd H (by simp)
                                                              · rw [if_neg c60] at H
                                                                exact absurd H (by simp)
                                                            · rw [if_neg c58] at H
                                                              exact absurd H (by simp)
                                                          · rw [if_neg c57] at H
                                                            exact absurd H (by simp)
                                                        · rw [if_neg c53] at H
                                                          exact absurd H (by simp)
                                                      · rw [if_neg c52] at H
                                                        exact absurd H (by simp)
                                                    · rw [if_neg c51] at H
                                                      exact absurd H (by simp)
                                                  · rw [if_neg c49] at H
                                                    exact absurd H (by simp)
                                                · rw [if_neg c48] at H
                                                  exact absurd H (by simp)
                                              · rw [if_neg c44] at H
                                                exact absurd H (by simp)
                                            · rw [if_neg c43] at H
                                              exact absurd H (by simp)
                                          · rw [if_neg c42] at H
                                            exact absurd H (by simp)
                                        · rw [if_neg c40] at H
                                          exact absurd H (by simp)
                                      · rw [if_neg c39] at H
                                        exact absurd H (by simp)
                                    · rw [if_neg c38] at H
                                      exact absurd H (by simp)
                                  · rw [if_neg c37] at H
                                    exact absurd H (by simp)
                                · rw [if_neg c35] at H
                                  exact absurd H (by simp)
                              · rw [if_neg c34] at H
                                exact absurd H (by simp)
                            · rw [if_neg c33] at H
                              exact absurd H (by simp)
                          · rw [if_neg c32] at H
                            exact absurd H (by simp)
                        · rw [if_neg c31] at H
                          exact absurd H (by simp)
                      · rw [if_neg c30] at H
                        exact absurd H (by simp)
                    · rw [if_neg c29] at H
                      exact absurd H (by simp)
                  · rw [if_neg c28] at H
                    exact absurd H (by simp)
          · rw [if_neg c10] at H
            exact absurd H (by simp)
        · rw [if_neg c9] at H
          exact absurd H (by simp)
      · rw [if_neg c7] at H
        exact absurd H (by simp)
    · rw [if_neg c6] at H
      exact absurd H (by simp)
  · replace c4 := Bool.eq_false_iff.mpr c4
    subst c4
    have H1 : (some false) = some r := by rw [if_neg (show ¬ (false = true) by decide)] at H; exact H
    clear H
    have H := H1
    clear H1
    exact Bool.noConfusion ((Option.some.inj H).trans hr.out)
/-- THE ONE PURE STATEMENT of cryostatlaw3_RecordForms: yours. -/
def cryostatlaw3_RecordForms.Pure : Prop := ∀ (a0 : Int) (a1 : Int), (Lit.int .i64 a0).wf = true → (Lit.int .i64 a1).wf = true → ∃ k, cryostatlaw3_RecordForms.f k a0 a1 = some true
theorem cryostatlaw3_RecordForms.walk (P : cryostatlaw3_RecordForms.Pure) (a0 : Int) (a1 : Int) (w : World) (w0 : (Lit.int .i64 a0).wf = true) (w1 : (Lit.int .i64 a1).wf = true) :
    Calls Try.prog 9 #[.int .i64 a0, .int .i64 a1] w fun e w' => e = .returned (.bool true) ∧ Below w.heap.size w w' := by
  obtain ⟨k, h⟩ := P a0 a1 w0 w1
  refine (cryostatlaw3_RecordForms.calls k a0 a1 true w ⟨rfl⟩ h).mono ?_
  rintro e w' ⟨rfl, hd⟩
  exact ⟨rfl, hd⟩

end Go.Proofs.Ytpadejamelppfaa.PRecordForms
