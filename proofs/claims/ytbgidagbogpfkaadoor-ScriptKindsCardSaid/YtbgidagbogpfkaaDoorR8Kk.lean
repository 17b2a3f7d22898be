import Derived.Test.YtbgidagbogpfkaaDoorR8CodeL
import Derived.Test.YtbgidagbogpfkaaDoorR8Sa
/- The statement ScriptKinds. -/
namespace Go.AM
open Go.Proofs
set_option linter.unusedVariables false
set_option linter.unusedSimpArgs false
set_option maxRecDepth 100000
attribute [-simp] ByteArray.size_eq_zero_iff Heap.store Heap.row
def kZ (k : Nat) : Ac := { zA with kind := (k : Int) }
def kA (f k : Nat) : Ac := match f with
  | 0 => { kZ k with name := ⟨#[97]⟩ }
  | 1 => { kZ k with parent := ⟨#[97]⟩ }
  | 2 => { kZ k with to := ⟨#[97]⟩ }
  | 3 => { kZ k with path := ⟨#[97]⟩ }
  | _ => { kZ k with text := ⟨#[97]⟩ }
def kB (k : Nat) : Ac := ⟨(k : Int), ⟨#[]⟩, ⟨#[]⟩, ⟨#[]⟩, ⟨#[]⟩, ⟨#[]⟩, 1, ⟨#[97, 98]⟩, -1, 64⟩
def kN : List ByteArray := [⟨#[110, 112]⟩, ⟨#[110, 112]⟩, ⟨#[110, 116]⟩, ⟨#[110]⟩, ⟨#[110, 120]⟩, ⟨#[110, 102, 120]⟩, ⟨#[110, 102]⟩, ⟨#[110, 102]⟩, ⟨#[110]⟩, ⟨#[]⟩, ⟨#[110]⟩, ⟨#[]⟩, ⟨#[]⟩]
def kC (f : Nat) : UInt8 := match f with
  | 0 => 110
  | 1 => 112
  | 2 => 116
  | 3 => 102
  | _ => 120
def kS (k : Nat) : List UInt8 := L (kN.getD k ⟨#[]⟩)
def kOkB (f k : Nat) : Bool := (mayB (kA f k) == (kS k).any fun c => c == kC f) && mayB (kZ k) && (mayB (kB k) == decide (k ≠ 12)) && decide ((kS k).length ≤ 3)
theorem kOk_all : ((List.range 13).all fun k => (List.range 5).all fun f => kOkB f k) = true := by kernel_rfl
theorem kOk_at {f k : Nat} (hf : f < 5) (hk : k < 13) : mayB (kA f k) = ((kS k).any fun c => c == kC f) ∧ mayB (kZ k) = true ∧ mayB (kB k) = decide (k ≠ 12) ∧ (kS k).length ≤ 3 := by
  have h := List.all_eq_true.1 kOk_all k (List.mem_range.2 hk)
  have h := List.all_eq_true.1 h f (List.mem_range.2 hf)
  simpa [kOkB, and_assoc] using h
theorem kN_cell {G : Heap} {cs : List Value} (hcs : cs = kN.map .string) {k : Nat} (hk : k < 13) : (G.add (rowBlk 1 cs)).cell G.next k = some (.string (S (kS k))) := by
  rw [cell_add_new, hcs]
  show ((kN.map Value.string)[k]?) = _
  rw [List.getElem?_map]
  have hl : kN.length = 13 := rfl
  rw [List.getElem?_eq_getElem (by omega)]
  show some _ = _
  unfold kS
  rw [S_L, List.getD_eq_getElem?_getD, List.getElem?_eq_getElem (by omega)]; rfl
theorem kinds_run (f k : Nat) (hf : f < 5) (hk : k < 13) {e : Env} {G : Heap} (h5 : e 5 = .int .i64 (k : Int)) (h8 : ∃ b, e 8 = .slice (some ⟨b, 0, none⟩) 13 27 ∧ G.cell b k = some (.string (S (kS k)))) (h9 : e 9 = .int .u8 ((kC f).toNat : Int)) (h10 : e 10 = .bool false) (h11 : e 11 = .int .i64 0) :
    wp (unblock 1 (run K (.loop c_law24_ScriptKinds_l23) e G)) fun x e' G' => x = .norm ∧ G' = G ∧ e' 10 = .bool ((kS k).any fun c => c == kC f) ∧ e' 5 = e 5 ∧ e' 6 = e 6 ∧ e' 7 = e 7 := by
  obtain ⟨b, h8, hc⟩ := h8
  refine wp_for (fun d e' G' => ∃ i : Nat, d = (kS k).length - i ∧ i ≤ (kS k).length ∧ G' = G ∧ e' 8 = .slice (some ⟨b, 0, none⟩) 13 27 ∧ e' 9 = .int .u8 ((kC f).toNat : Int) ∧ e' 10 = .bool (((kS k).take i).any fun c => c == kC f) ∧ e' 11 = .int .i64 (i : Int) ∧ e' 5 = .int .i64 (k : Int) ∧ e' 6 = e 6 ∧ e' 7 = e 7) (kS k).length ⟨0, by simp, by simp, rfl, h8, h9, by simpa using h10, by simpa using h11, h5, rfl, rfl⟩ ?_
  rintro d e' G' ⟨i, rfl, hi, rfl, e8, e9, e10, e11, e5, e6, e7⟩
  have hsz : (S (kS k)).size = (kS k).length := S_size _
  have hl3 := (kOk_at hf hk).2.2.2
  by_cases hlt : i < (kS k).length
  · have hi' : (i : Int) < ((kS k).length : Int) := by omega
    have w1 := wrap_succ (i := i) (by omega)
    have hbt := bt_S (kS k) i hlt
    have hany : ((kS k).take (i + 1)).any (fun c => c == kC f) = (((kS k).take i).any (fun c => c == kC f) || ((kS k)[i] == kC f)) := by
      rw [List.take_add_one, List.any_append, List.getElem?_eq_getElem hlt]; simp
    have heq : binV K.P .eql 5 (.int .u8 (((kS k)[i]).toNat : Int)) (.int .u8 ((kC f).toNat : Int)) = some (.bool ((kS k)[i] == kC f)) := by
      simp
      by_cases h : (kS k)[i] = kC f
      · rw [decide_eq_true (by rw [h]), h]; simp
      · rw [decide_eq_false (fun hh => h (UInt8.toNat_inj.1 hh))]; simp [h]
    have hidx : idxSV (.string (S (kS k))) (some i) = some (.int .u8 (((kS k)[i]).toNat : Int)) := by
      rw [idxSV_at, if_pos (by omega), hbt]
    cases hw : ((kS k).take i).any (fun c => c == kC f)
    · rw [hw] at hany e10
      simp [-idxSV_at, c_law24_ScriptKinds_l23, e5, e8, e9, e10, e11, hc, hsz, hk, hi', hidx, heq, w1]
      exact ⟨(kS k).length - (i + 1), by omega, i + 1, rfl, by omega, by rw [hany]; simp, rfl, e6, e7⟩
    · rw [hw] at hany e10
      simp [-idxSV_at, c_law24_ScriptKinds_l23, e5, e8, e9, e10, e11, hc, hsz, hk, hi', w1]
      exact ⟨(kS k).length - (i + 1), by omega, i + 1, rfl, by omega, by simpa using hany, rfl, e6, e7⟩
  · obtain rfl : i = (kS k).length := by omega
    simp [c_law24_ScriptKinds_l23, e5, e8, e9, e10, e11, hc, hsz, hk]
    exact ⟨h5.symm, e6, e7⟩
theorem wrap64_nat (x : Int) : ∃ m : Nat, IntKind.u64.wrap x = (m : Int) := Int.eq_ofNat_of_zero_le (by unfold IntKind.wrap; simp [IntKind.bits, IntKind.signed]; omega)
theorem rem_lit (m d : Nat) (hd : d ≠ 0) : binV K.P .rem 40 (.int .u64 (m : Int)) (.int .u64 (d : Int)) = some (.int .u64 ((m % d : Nat) : Int)) := by
  rw [binV_rem _ _ _ _ _ (by omega)]; simp [Int.tmod_eq_emod_of_nonneg]
theorem kinds_law (kind which : Int) (H : Heap) : call K f_law24_ScriptKinds [.int .i64 kind, .int .i64 which] H = some (.bool true, H) := by
  refine of_wpf (open_pure rfl fc_law24_ScriptKinds rfl (Nat.le_of_ble_eq_true rfl) ?_)
  have ha := awake_ok H.roAll
  generalize H.roAll = G at *
  obtain ⟨m, hm⟩ := wrap64_nat kind
  obtain ⟨n, hn⟩ := wrap64_nat which
  have r1 := rem_lit m 13 (by decide)
  have r2 := rem_lit n 5 (by decide)
  have hk := Nat.mod_lt m (show 0 < 13 by decide)
  have hf := Nat.mod_lt n (show 0 < 5 by decide)
  have w1 : IntKind.i64.wrap ((m % 13 : Nat) : Int) = ((m % 13 : Nat) : Int) := wrap_i64 (by omega) (by omega)
  have w2 : IntKind.i64.wrap ((n % 5 : Nat) : Int) = ((n % 5 : Nat) : Int) := wrap_i64 (by omega) (by omega)
  generalize m % 13 = k at *
  generalize n % 5 = f at *
  have r1 : binV K.P .rem 40 (.int .u64 (m : Int)) (.int .u64 13) = some (.int .u64 (k : Int)) := r1
  have r2 : binV K.P .rem 40 (.int .u64 (n : Int)) (.int .u64 5) = some (.int .u64 (f : Int)) := r2
  obtain ⟨q1, q2, q3, q4⟩ := kOk_at hf hk
  obtain ⟨X, x1, x2, x3, x4⟩ := new_act G (kZ k)
  have hz0 : encA (kZ k) = [.int .i64 (k : Int), .string ⟨#[]⟩, .string ⟨#[]⟩, .string ⟨#[]⟩, .string ⟨#[]⟩, .string ⟨#[]⟩, .int .i64 0, .string ⟨#[]⟩, .int .i64 0, .int .i64 0] := rfl
  have hb0 : encA (kB k) = [.int .i64 (k : Int), .string ⟨#[]⟩, .string ⟨#[]⟩, .string ⟨#[]⟩, .string ⟨#[]⟩, .string ⟨#[]⟩, .int .i64 1, .string ⟨#[97, 98]⟩, .int .i64 (-1), .int .i64 64] := rfl
  rw [hz0] at x1
  simp only [zA_enc] at x1
  have hcase : f = 0 ∨ f = 1 ∨ f = 2 ∨ f = 3 ∨ f = 4 := by omega
  have hput : ∃ Y, X.store G.next (1 + f) [.string ⟨#[97]⟩] = some Y ∧ VarA Y G.next (kA f k) ∧ Y.next = X.next ∧ ∀ b, b ≠ G.next → Y.blk b = X.blk b :=
    x3.put (q := kA f k) (j := 1 + f) (by omega) (v := .string ⟨#[97]⟩) rfl (by rcases hcase with rfl | rfl | rfl | rfl | rfl <;> rfl)
  obtain ⟨Y, y1, y2, y3, y4⟩ := hput
  have hidx : idxSV (.string ⟨#[110, 112, 116, 102, 120]⟩) (some f) = some (.int .u8 ((kC f).toNat : Int)) := by rcases hcase with rfl | rfl | rfl | rfl | rfl <;> rfl
  have n1 : Y.next = G.next + 1 := by omega
  have hcell := kN_cell (G := Y) (cs := [.string ⟨#[110, 112]⟩, .string ⟨#[110, 112]⟩, .string ⟨#[110, 116]⟩, .string ⟨#[110]⟩, .string ⟨#[110, 120]⟩, .string ⟨#[110, 102, 120]⟩, .string ⟨#[110, 102]⟩, .string ⟨#[110, 102]⟩, .string ⟨#[110]⟩, .string ⟨#[]⟩, .string ⟨#[110]⟩, .string ⟨#[]⟩, .string ⟨#[]⟩]) rfl hk
  generalize hZ : Y.add (rowBlk 1 [.string ⟨#[110, 112]⟩, .string ⟨#[110, 112]⟩, .string ⟨#[110, 116]⟩, .string ⟨#[110]⟩, .string ⟨#[110, 120]⟩, .string ⟨#[110, 102, 120]⟩, .string ⟨#[110, 102]⟩, .string ⟨#[110, 102]⟩, .string ⟨#[110]⟩, .string ⟨#[]⟩, .string ⟨#[110]⟩, .string ⟨#[]⟩, .string ⟨#[]⟩]) = Z at *
  have nZ : Z.next = Y.next + 1 := by rw [← hZ]; rfl
  have vZ : VarA Z G.next (kA f k) := y2.other (by rw [← hZ, blk_add_old (by omega)])
  obtain ⟨W, z1, z2, z3, z4⟩ := new_act Z (kB k)
  rw [hb0] at z1
  simp only [zA_enc] at z1
  have vW : VarA W G.next (kA f k) := vZ.other (z2.blk _ (by omega))
  have rW := vW.isA.row
  have rW2 := z3.isA.row
  have m1 := fun H => may_ok (kA f k) H
  have m2 := fun H => may_ok (kZ k) H
  have m3 := fun H => may_ok (kB k) H
  rw [q1] at m1
  rw [q2] at m2
  rw [q3] at m3
  unfold acV at m1 m2 m3
  rw [hz0] at m2
  have run := fun e h5 h8 h9 h10 h11 => kinds_run f k hf hk (e := e) (G := Z) h5 h8 h9 h10 h11
  have hbeq : ∀ x : Bool, binV K.P .eql 4 (.bool x) (.bool x) = some (.bool true) := by intro x; cases x <;> rfl
  have hk12 : ((k : Int) = 12) = (k = 12) := propext (by omega)
  rcases hcase with rfl | rfl | rfl | rfl | rfl
  · have w2' : IntKind.i64.wrap (0 : Int) = 0 := w2
    have hidx' : idxSV (.string ⟨#[110, 112, 116, 102, 120]⟩) (natOf (.int .i64 0)) = some (.int .u8 ((kC 0).toNat : Int)) := rfl
    simp [-idxSV_at, ha, hm, hn, r1, r2, w1, w2', x1, y1, hidx, hidx', hZ]
    refine wp_nxt ((run _ (by simp) ⟨Y.next, by simp, hcell⟩ (by simp) (by simp) (by simp)).mono ?_)
    rintro x e' G' ⟨rfl, rfl, f10, f5, f6, f7⟩
    simp at f5 f6 f7
    simp [hk12, f10, f5, f6, f7, z1, rW, rW2, encA_len, m1, m2, m3, hbeq]
  · have w2' : IntKind.i64.wrap (1 : Int) = 1 := w2
    have hidx' : idxSV (.string ⟨#[110, 112, 116, 102, 120]⟩) (natOf (.int .i64 1)) = some (.int .u8 ((kC 1).toNat : Int)) := rfl
    simp [-idxSV_at, ha, hm, hn, r1, r2, w1, w2', x1, y1, hidx, hidx', hZ]
    refine wp_nxt ((run _ (by simp) ⟨Y.next, by simp, hcell⟩ (by simp) (by simp) (by simp)).mono ?_)
    rintro x e' G' ⟨rfl, rfl, f10, f5, f6, f7⟩
    simp at f5 f6 f7
    simp [hk12, f10, f5, f6, f7, z1, rW, rW2, encA_len, m1, m2, m3, hbeq]
  · have w2' : IntKind.i64.wrap (2 : Int) = 2 := w2
    have hidx' : idxSV (.string ⟨#[110, 112, 116, 102, 120]⟩) (natOf (.int .i64 2)) = some (.int .u8 ((kC 2).toNat : Int)) := rfl
    simp [-idxSV_at, ha, hm, hn, r1, r2, w1, w2', x1, y1, hidx, hidx', hZ]
    refine wp_nxt ((run _ (by simp) ⟨Y.next, by simp, hcell⟩ (by simp) (by simp) (by simp)).mono ?_)
    rintro x e' G' ⟨rfl, rfl, f10, f5, f6, f7⟩
    simp at f5 f6 f7
    simp [hk12, f10, f5, f6, f7, z1, rW, rW2, encA_len, m1, m2, m3, hbeq]
  · have w2' : IntKind.i64.wrap (3 : Int) = 3 := w2
    have hidx' : idxSV (.string ⟨#[110, 112, 116, 102, 120]⟩) (natOf (.int .i64 3)) = some (.int .u8 ((kC 3).toNat : Int)) := rfl
    simp [-idxSV_at, ha, hm, hn, r1, r2, w1, w2', x1, y1, hidx, hidx', hZ]
    refine wp_nxt ((run _ (by simp) ⟨Y.next, by simp, hcell⟩ (by simp) (by simp) (by simp)).mono ?_)
    rintro x e' G' ⟨rfl, rfl, f10, f5, f6, f7⟩
    simp at f5 f6 f7
    simp [hk12, f10, f5, f6, f7, z1, rW, rW2, encA_len, m1, m2, m3, hbeq]
  · have w2' : IntKind.i64.wrap (4 : Int) = 4 := w2
    have hidx' : idxSV (.string ⟨#[110, 112, 116, 102, 120]⟩) (natOf (.int .i64 4)) = some (.int .u8 ((kC 4).toNat : Int)) := rfl
    simp [-idxSV_at, ha, hm, hn, r1, r2, w1, w2', x1, y1, hidx, hidx', hZ]
    refine wp_nxt ((run _ (by simp) ⟨Y.next, by simp, hcell⟩ (by simp) (by simp) (by simp)).mono ?_)
    rintro x e' G' ⟨rfl, rfl, f10, f5, f6, f7⟩
    simp at f5 f6 f7
    simp [hk12, f10, f5, f6, f7, z1, rW, rW2, encA_len, m1, m2, m3, hbeq]
end Go.AM
