import Derived.Test.YtbgidagbogpfkaaR7W
/- Contracts: the given forest; sameness. -/
namespace Go.AM
open Go.Proofs
set_option linter.unusedVariables false
set_option linter.unusedSimpArgs false
set_option maxRecDepth 100000
attribute [-simp] ByteArray.size_eq_zero_iff
def gF1 : List Fil := [⟨⟨#[97]⟩, ⟨#[111, 110, 101]⟩, true⟩, ⟨⟨#[98]⟩, ⟨#[116, 119, 111]⟩, true⟩]
def gF2 : List Fil := [⟨⟨#[97]⟩, ⟨#[111, 110, 101]⟩, false⟩, ⟨⟨#[98]⟩, ⟨#[110, 101, 119]⟩, true⟩]
def givenL : List Inf := [⟨⟨#[98, 97, 115, 101]⟩, 2, ⟨#[]⟩, ⟨#[]⟩, gF1⟩, ⟨⟨#[119, 111, 114, 107]⟩, 0, ⟨#[98, 97, 115, 101]⟩, ⟨#[]⟩, gF2⟩]
def givenR (n : Nat) : List (Inf × Value) := [(⟨⟨#[98, 97, 115, 101]⟩, 2, ⟨#[]⟩, ⟨#[]⟩, gF1⟩, .slice (some ⟨n, 0, none⟩) 2 5), (⟨⟨#[119, 111, 114, 107]⟩, 0, ⟨#[98, 97, 115, 101]⟩, ⟨#[]⟩, gF2⟩, .slice (some ⟨n + 1, 0, none⟩) 2 5)]
def givenH (H : Heap) : Heap := ((H.add (rowBlk 3 (gF1.flatMap encF))).add (rowBlk 3 (gF2.flatMap encF))).add (rowBlk 5 ((givenR H.next).flatMap encP))
theorem given_ok (H : Heap) : call K f_law19_given [] H = some (.slice (some ⟨H.next + 2, 0, none⟩) 2 5, givenH H) := by
  refine of_wpf (open_plain rfl fc_law19_given rfl (Nat.le_of_ble_eq_true rfl) ?_)
  simp
  rfl
theorem givenH_ext (H : Heap) : Ext H (givenH H) := (((Ext.refl H).add _).add _).add _
/-- A row in a block. -/
theorem rows_new {α : Type} {enc : α → List Value} {sz : Nat} (he : ∀ x, (enc x).length = sz) {H : Heap} {b n c : Nat} {xs : List α} (hl : xs.length ≤ 1000) (hn : n = xs.length) (hc : n ≤ c / 2) (hb : b < H.next) (h : ∀ j, j < n * sz → H.cell b j = (xs.flatMap enc)[j]?) : Rows enc sz H (.slice (some ⟨b, 0, none⟩) n c) xs := by
  subst hn
  refine ⟨by omega, _, _, rfl, .inr ⟨b, 0, rfl, hb, hc, fun i hi j hj => ?_⟩⟩
  have hlt : i * sz + j < xs.length * sz := by
    have : (i + 1) * sz ≤ xs.length * sz := Nat.mul_le_mul_right _ hi
    rw [Nat.succ_mul] at this; omega
  rw [Nat.zero_add, h _ hlt, flat_get he xs i hi j hj]
theorem given_fo (H : Heap) : Fo (givenH H) (.slice (some ⟨H.next + 2, 0, none⟩) 2 5) (givenR H.next) := by
  refine ⟨rows_new encP_len (Nat.le_of_ble_eq_true rfl) rfl (by omega) (by simp [givenH]) fun j hj => ?_, fun p hp => ?_⟩
  · unfold givenH
    rw [show H.next + 2 = ((H.add (rowBlk 3 (gF1.flatMap encF))).add (rowBlk 3 (gF2.flatMap encF))).next from rfl, cell_add_new]; rfl
  · simp only [givenR, List.mem_cons, List.not_mem_nil, or_false] at hp
    rcases hp with rfl | rfl
    · refine rows_new encF_len (Nat.le_of_ble_eq_true rfl) rfl (by omega) (by simp [givenH]; omega) fun j hj => ?_
      unfold givenH
      rw [cell_add_old (by simp; omega), cell_add_old (by simp), cell_add_new]; rfl
    · refine rows_new encF_len (Nat.le_of_ble_eq_true rfl) rfl (by omega) (by simp [givenH]) fun j hj => ?_
      unfold givenH
      rw [cell_add_old (by simp), show H.next + 1 = (H.add (rowBlk 3 (gF1.flatMap encF))).next from rfl, cell_add_new]; rfl
theorem given_infs (n : Nat) : infs (givenR n) = givenL := rfl
theorem sameFiles_ok (va vb : Value) (xs ys : List Fil) (H : Heap) (ha : Fils H va xs) (hb : Fils H vb ys) (hl : xs.length ≤ 140737488355328) : call K f_law0_SameFiles [va, vb] H = some (.bool (decide (xs = ys)), H) := by
  obtain ⟨p, c, rfl⟩ := ha.slice
  obtain ⟨q, d, rfl⟩ := hb.slice
  refine of_wpf (open_pure rfl fc_law0_SameFiles rfl (Nat.le_of_ble_eq_true rfl) ?_)
  by_cases hlen : xs.length = ys.length
  · simp [hlen]
    refine wp_nxt (wp_for (fun k e H' => ∃ i, k = ys.length - i ∧ i ≤ ys.length ∧ H' = H.roAll ∧ e 5 = .int .i64 (i : Int) ∧ e 0 = .slice p ys.length c ∧ e 1 = .slice q ys.length d ∧ xs.take i = ys.take i) ys.length ⟨0, by simp⟩ ?_)
    rintro k e H' ⟨i, rfl, hi, rfl, h5, h0, h1, heq⟩
    by_cases hlt2 : i < ys.length
    · have hlt : i < xs.length := by omega
      obtain ⟨b, o, rfl, hb1, k0, k1, k2⟩ := ha.at3 hlt
      obtain ⟨b2, o2, rfl, hb2, j0, j1, j2⟩ := hb.at3 hlt2
      have hst := take_succ_eq hlt hlt2
      have hne : xs[i] ≠ ys[i] → xs ≠ ys := fun hn he => hn (by subst he; rfl)
      generalize xs[i] = x at *
      generalize ys[i] = y at *
      simp at k0 k1 k2 j0 j1 j2
      obtain ⟨x1, x2, x3⟩ := x
      obtain ⟨y1, y2, y3⟩ := y
      by_cases he : x1 = y1 ∧ x2 = y2 ∧ x3 = y3
      · obtain ⟨rfl, rfl, rfl⟩ := he
        simp [c_law0_SameFiles_l8, h5, h0, h1, hlt, hlt2, k0, k1, k2, j0, j1, j2]
        exact ⟨ys.length - (i + 1), by omega, i + 1, rfl, hlt2, wrap_succ (by omega), hst.2 ⟨heq, rfl⟩⟩
      · have hd : ¬ ((⟨x1, x2, x3⟩ : Fil) = ⟨y1, y2, y3⟩) := fun hh => he (by simpa using hh)
        have hf := hne hd
        by_cases e1 : x1 = y1
        · by_cases e2 : x2 = y2
          · have e3 : ¬ x3 = y3 := fun h => he ⟨e1, e2, h⟩
            simp [c_law0_SameFiles_l8, h5, h0, h1, hlt, hlt2, k0, k1, k2, j0, j1, j2, e1, e2, e3, hf]
          · simp [c_law0_SameFiles_l8, h5, h0, h1, hlt, hlt2, k0, k1, k2, j0, j1, j2, e1, e2, hf]
        · simp [c_law0_SameFiles_l8, h5, h0, h1, hlt, hlt2, k0, k1, k2, j0, j1, j2, e1, hf]
    · have : i = ys.length := by omega
      subst this
      simp [c_law0_SameFiles_l8, h5, h0]
      rw [List.take_length, ← hlen, List.take_length] at heq
      exact heq
  · simp [hlen]
    intro h
    exact hlen (by rw [h])
end Go.AM
