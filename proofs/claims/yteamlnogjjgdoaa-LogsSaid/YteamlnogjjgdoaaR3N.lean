/- Contracts: what is lent. -/
import Derived.Test.YteamlnogjjgdoaaR3M
namespace Go.AM
open Go.Proofs
set_option linter.unusedVariables false
set_option linter.unusedSimpArgs false
set_option maxRecDepth 100000
attribute [-simp] ByteArray.size_eq_zero_iff
/-- A slice in a block of its own with room for two marks behind it. -/
structure Lent {α : Type} (enc : α → List Value) (sz n0 : Nat) (H : Heap) (v : Value) (xs : List α) (m m' : α) : Prop where
  lim : xs.length ≤ 140737488355000
  is : ∃ b B, v = .slice (some ⟨b, 0, none⟩) xs.length (2 * (xs.length + 2)) ∧ n0 ≤ b ∧ b < H.next ∧ H.blk b = some B ∧ B.ro = false ∧ B.esz = sz ∧ ∀ j, j < (xs.length + 2) * sz → B.at_ j = ((xs ++ [m, m']).flatMap enc)[j]?
theorem Lent.ext {α : Type} {enc : α → List Value} {sz n0 : Nat} {H H' : Heap} {v : Value} {xs : List α} {m m' : α} (h : Lent enc sz n0 H v xs m m') (he : Ext H H') : Lent enc sz n0 H' v xs m m' := by
  obtain ⟨hl, b, B, h1, h2, h3, h4, h5⟩ := h
  exact ⟨hl, b, B, h1, h2, by have := he.next; omega, by rw [he.blk b h3]; exact h4, h5⟩
/-- The slice with its marks. -/
theorem Lent.whole {α : Type} {enc : α → List Value} {sz n0 : Nat} {H : Heap} {v : Value} {xs : List α} {m m' : α} (h : Lent enc sz n0 H v xs m m') : ∃ b, v = .slice (some ⟨b, 0, none⟩) xs.length (2 * (xs.length + 2)) ∧ Own enc sz n0 H (.slice (some ⟨b, 0, none⟩) (xs.length + 2) (2 * (xs.length + 2))) (xs ++ [m, m']) := by
  obtain ⟨hl, b, B, rfl, h2, h3, h4, h5, h6, h7⟩ := h
  exact ⟨b, rfl, by simp; omega, .inr ⟨b, B, by simp, h2, h3, h4, h5, h6, by simpa using h7⟩⟩
theorem Lent.rows {α : Type} {enc : α → List Value} {sz n0 : Nat} {H : Heap} {v : Value} {xs : List α} {m m' : α} (h : Lent enc sz n0 H v xs m m') (he : ∀ x, (enc x).length = sz) : Rows enc sz H v xs := by
  obtain ⟨b, rfl, hw⟩ := h.whole
  obtain ⟨u, hu, hr⟩ := hw.cut he xs.length (by simp)
  have : u = .slice (some ⟨b, 0, none⟩) xs.length (2 * (xs.length + 2)) := by
    simp [slvV, bound] at hu
    exact hu.symm
  subst this
  simpa using hr

/-- Room of its own, or an empty slice of its own without room. -/
def OwnZ {α : Type} (enc : α → List Value) (sz n0 : Nat) (H : Heap) (v : Value) (xs : List α) : Prop := Own enc sz n0 H v xs ∨ (xs = [] ∧ ∃ b, v = .slice (some ⟨b, 0, none⟩) 0 1 ∧ n0 ≤ b ∧ b < H.next)
theorem OwnZ.app {α : Type} {enc : α → List Value} {sz n0 : Nat} {H : Heap} {v : Value} {xs : List α} (h : OwnZ enc sz n0 H v xs) (he : ∀ x, (enc x).length = sz) {bytes k : Nat} (ys : List Value) (hk : k ≠ 0) (hy : ys.all Value.oneCell' = true) (h1 : (xs.length + k) * bytes ≤ 2 ^ 47) (h2 : xs.length + k ≤ 2 ^ 47) :
    ∃ X : Heap, X.next = H.next ∧ (∀ A : Heap, A.next ≤ n0 → Ext A H → Ext A X) ∧ appV H sz bytes k v ys = some (.slice (some ⟨H.next, 0, none⟩) (xs.length + k) (2 * (xs.length + k)), X.add (rowBlk sz (xs.flatMap enc ++ ys))) := by
  rcases h with h | ⟨rfl, b, rfl, hb, hbn⟩
  · exact ⟨_, by simp, fun A hA hE => h.ext_kill hA hE, h.app he ys hk hy h1 h2⟩
  · refine ⟨H, rfl, fun A _ hE => hE, ?_⟩
    unfold appV
    rw [if_neg hk]
    simp only [List.length_nil, Nat.zero_add] at h1 h2 ⊢
    rw [if_neg (by omega), if_pos ⟨h1, h2, hy⟩]
    simp

theorem copyI_ok (v : Value) (xs : List Img) (H : Heap) (h : Imgs H v xs) (hw : xs.length * 24 ≤ 140737488355328) (hn : xs.length ≤ 140737488355328) : wpf (call K f_law0_CopyImages [v] H) fun r H' => Ext H H' ∧ OwnZ encI 2 H.next H' r xs := by
  refine open_plain rfl fc_law0_CopyImages rfl (Nat.le_of_ble_eq_true rfl) ?_
  obtain ⟨p, c, rfl⟩ := h.slice
  have hE := (Ext.refl H).add (rowBlk 2 [])
  have hA : appE 2 24 (.slice (some ⟨H.next, 0, none⟩) 0 1) (.slice p xs.length c) (H.add (rowBlk 2 [])) = appV (H.add (rowBlk 2 [])) 2 24 xs.length (.slice (some ⟨H.next, 0, none⟩) 0 1) (xs.flatMap encI) := (h.ext hE).appE encI_len _ _
  by_cases hx : xs = []
  · have hz : appV (H.add (rowBlk 2 [])) 2 24 xs.length (.slice (some ⟨H.next, 0, none⟩) 0 1) (xs.flatMap encI) = some (.slice (some ⟨H.next, 0, none⟩) 0 1, H.add (rowBlk 2 [])) := by subst hx; rfl
    rw [hz] at hA
    simp [hA]
    exact ⟨hE, .inr ⟨hx, H.next, rfl, Nat.le_refl _, by simp⟩⟩
  · have hl : xs.length ≠ 0 := fun e => hx (List.eq_nil_of_length_eq_zero e)
    obtain ⟨X, x1, x2, x3⟩ := OwnZ.app (n0 := H.next) (xs := ([] : List Img)) (.inr ⟨rfl, H.next, rfl, Nat.le_refl _, by simp⟩ : OwnZ encI 2 H.next (H.add (rowBlk 2 [])) (.slice (some ⟨H.next, 0, none⟩) 0 1) []) encI_len (bytes := 24) (k := xs.length) (xs.flatMap encI) hl (one_flat (fun _ => rfl) xs) (by simp; omega) (by simp; omega)
    rw [x3] at hA
    simp at hA
    simp [hA]
    have hz := Own.new' (enc := encI) (sz := 2) (n0 := H.next) (b := H.next + 1) (H := X) (xs := xs) (by rw [x1]; simp) (by omega) (by omega) rfl
    exact ⟨(x2 H (Nat.le_refl _) hE).add _, .inl hz⟩

theorem copyS_ok (v : Value) (xs : List ByteArray) (H : Heap) (h : Strs H v xs) (hw : xs.length * 16 ≤ 140737488355328) (hn : xs.length ≤ 140737488355328) : wpf (call K f_law0_CopyTexts [v] H) fun r H' => Ext H H' ∧ OwnZ encS 1 H.next H' r xs := by
  refine open_plain rfl fc_law0_CopyTexts rfl (Nat.le_of_ble_eq_true rfl) ?_
  obtain ⟨p, c, rfl⟩ := h.slice
  have hE := (Ext.refl H).add (rowBlk 1 [])
  have hA : appE 1 16 (.slice (some ⟨H.next, 0, none⟩) 0 1) (.slice p xs.length c) (H.add (rowBlk 1 [])) = appV (H.add (rowBlk 1 [])) 1 16 xs.length (.slice (some ⟨H.next, 0, none⟩) 0 1) (xs.flatMap encS) := (h.ext hE).appE encS_len _ _
  by_cases hx : xs = []
  · have hz : appV (H.add (rowBlk 1 [])) 1 16 xs.length (.slice (some ⟨H.next, 0, none⟩) 0 1) (xs.flatMap encS) = some (.slice (some ⟨H.next, 0, none⟩) 0 1, H.add (rowBlk 1 [])) := by subst hx; rfl
    rw [hz] at hA
    simp [hA]
    exact ⟨hE, .inr ⟨hx, H.next, rfl, Nat.le_refl _, by simp⟩⟩
  · have hl : xs.length ≠ 0 := fun e => hx (List.eq_nil_of_length_eq_zero e)
    obtain ⟨X, x1, x2, x3⟩ := OwnZ.app (n0 := H.next) (xs := ([] : List ByteArray)) (.inr ⟨rfl, H.next, rfl, Nat.le_refl _, by simp⟩ : OwnZ encS 1 H.next (H.add (rowBlk 1 [])) (.slice (some ⟨H.next, 0, none⟩) 0 1) []) encS_len (bytes := 16) (k := xs.length) (xs.flatMap encS) hl (one_flat encS_one xs) (by simp; omega) (by simp; omega)
    rw [x3] at hA
    simp at hA
    simp [hA]
    have hz := Own.new' (enc := encS) (sz := 1) (n0 := H.next) (b := H.next + 1) (H := X) (xs := xs) (by rw [x1]; simp) (by omega) (by omega) rfl
    exact ⟨(x2 H (Nat.le_refl _) hE).add _, .inl hz⟩

theorem OwnZ.ext {α : Type} {enc : α → List Value} {sz n0 : Nat} {H H' : Heap} {v : Value} {xs : List α} (h : OwnZ enc sz n0 H v xs) (hE : Ext H H') : OwnZ enc sz n0 H' v xs := by
  rcases h with h | ⟨h1, b, h2, h3, h4⟩
  · exact .inl (h.ext hE)
  · exact .inr ⟨h1, b, h2, h3, by have := hE.next; omega⟩
theorem Own.lent {α : Type} {enc : α → List Value} {sz n0 : Nat} {H : Heap} {b : Nat} {xs : List α} {m m' : α} (h : Own enc sz n0 H (.slice (some ⟨b, 0, none⟩) (xs.length + 2) (2 * (xs.length + 2))) (xs ++ [m, m'])) (hl : xs.length ≤ 140737488355000) : Lent enc sz n0 H (.slice (some ⟨b, 0, none⟩) xs.length (2 * (xs.length + 2))) xs m m' := by
  rcases h.is with ⟨e, _⟩ | ⟨b', B, e, h2, h3, h4, h5, h6, h7⟩
  · cases e
  · simp at e
    subst e
    exact ⟨hl, b, B, rfl, h2, h3, h4, h5, h6, by simpa using h7⟩
def markI : Img := (77777, ⟨#[]⟩)
theorem lendI_ok (v : Value) (xs : List Img) (H : Heap) (h : Imgs H v xs) (hw : (xs.length + 2) * 24 ≤ 140737488355328) : wpf (call K f_law0_LendImages [v] H) fun r H' => Ext H H' ∧ Lent encI 2 H.next H' r xs markI markI := by
  refine open_plain rfl fc_law0_LendImages rfl (Nat.le_of_ble_eq_true rfl) ?_
  obtain ⟨p, c, rfl⟩ := h.slice
  obtain ⟨r, G1, c1, E1, o1⟩ := copyI_ok _ xs H h (by omega) (by omega)
  obtain ⟨X, x1, x2, x3⟩ := (o1.ext ((Ext.refl G1).add (rowBlk 2 [.int .i64 77777, .string ⟨#[]⟩, .int .i64 77777, .string ⟨#[]⟩]))).app encI_len (bytes := 24) (k := 2) [.int .i64 77777, .string ⟨#[]⟩, .int .i64 77777, .string ⟨#[]⟩] (by omega) rfl (by omega) (by omega)
  simp at x3
  simp [c1, x3, slvV, bound]
  have hn := E1.next
  have hz := Own.new' (enc := encI) (sz := 2) (n0 := H.next) (b := G1.next + 1) (H := X) (xs := xs ++ [markI, markI]) (by rw [x1]; simp) (by omega) (by simp; omega) rfl
  refine ⟨(x2 H (Nat.le_refl _) (E1.add _)).add _, ?_⟩
  have := Own.lent (m := markI) (m' := markI) (b := G1.next + 1) (xs := xs) (H := X.add (rowBlk 2 ((xs ++ [markI, markI]).flatMap encI))) (n0 := H.next) (sz := 2) (enc := encI) (by simpa using hz) (by omega)
  simpa [markI] using this
def markR : ByteArray := ⟨#[126, 114, 111, 111, 109]⟩
def markB : ByteArray := ⟨#[126, 98, 101, 104, 105, 110, 100]⟩
theorem lendS_ok (v : Value) (xs : List ByteArray) (H : Heap) (h : Strs H v xs) (hw : (xs.length + 2) * 16 ≤ 140737488355328) : wpf (call K f_law0_LendTexts [v] H) fun r H' => Ext H H' ∧ Lent encS 1 H.next H' r xs markR markB := by
  refine open_plain rfl fc_law0_LendTexts rfl (Nat.le_of_ble_eq_true rfl) ?_
  obtain ⟨p, c, rfl⟩ := h.slice
  obtain ⟨r, G1, c1, E1, o1⟩ := copyS_ok _ xs H h (by omega) (by omega)
  obtain ⟨X, x1, x2, x3⟩ := (o1.ext ((Ext.refl G1).add (rowBlk 1 [.string markR, .string markB]))).app encS_len (bytes := 16) (k := 2) [.string markR, .string markB] (by omega) rfl (by omega) (by omega)
  simp at x3
  have hr : (⟨#[126, 114, 111, 111, 109]⟩ : ByteArray) = markR := rfl
  have hb : (⟨#[126, 98, 101, 104, 105, 110, 100]⟩ : ByteArray) = markB := rfl
  simp [hr, hb, c1, x3, slvV, bound]
  have hn := E1.next
  have hz := Own.new' (enc := encS) (sz := 1) (n0 := H.next) (b := G1.next + 1) (H := X) (xs := xs ++ [markR, markB]) (by rw [x1]; simp) (by omega) (by simp; omega) rfl
  refine ⟨(x2 H (Nat.le_refl _) (E1.add _)).add _, ?_⟩
  have := Own.lent (m := markR) (m' := markB) (b := G1.next + 1) (xs := xs) (H := X.add (rowBlk 1 ((xs ++ [markR, markB]).flatMap encS))) (n0 := H.next) (sz := 1) (enc := encS) (by simpa using hz) (by omega)
  simpa using this

theorem keptI_ok (v u : Value) (xs : List Img) (n0 : Nat) (H : Heap) (h : Lent encI 2 n0 H v xs markI markI) (hu : Imgs H u xs) : call K f_law0_KeptImages [v, u] H = some (.bool true, H) := by
  have hl := h.lim
  have hr := h.rows encI_len
  obtain ⟨b, rfl, hw⟩ := h.whole
  obtain ⟨p, c, rfl⟩ := hu.slice
  refine of_wpf (open_pure rfl fc_law0_KeptImages rfl (Nat.le_of_ble_eq_true rfl) ?_)
  have hS : call K f_law0_SameImages [.slice (some ⟨b, 0, none⟩) xs.length (2 * (xs.length + 2)), .slice p xs.length c] H.roAll = some (.bool true, H.roAll) := by
    rw [sameImages_ok _ _ xs xs _ hr.roAll hu.roAll, decide_eq_true rfl]
  obtain ⟨n, hn⟩ : ∃ n, n = xs.length := ⟨_, rfl⟩
  have w1 : IntKind.i64.wrap ((n : Int) + 2) = ((n + 2 : Nat) : Int) := by rw [wrap_i64 (by omega) (by omega)]; omega
  have w2 : IntKind.i64.wrap ((n : Int) + 1) = ((n + 1 : Nat) : Int) := by rw [wrap_i64 (by omega) (by omega)]; omega
  have hrw := hw.rows encI_len
  obtain ⟨b1, o1, e1, _, a0, a1⟩ := hrw.at2 (i := n) (by simp; omega)
  cases e1
  obtain ⟨b2, o2, e2, _, d0, d1⟩ := hrw.at2 (i := n + 1) (by simp; omega)
  cases e2
  have g0 : (xs ++ [markI, markI])[n]'(by simp; omega) = markI := by subst hn; simp
  have g1 : (xs ++ [markI, markI])[n + 1]'(by simp; omega) = markI := by subst hn; simp
  rw [g0] at a0 a1
  rw [g1] at d0 d1
  simp [markI] at a0 a1 d0 d1
  rw [← hn] at hS
  have hsl : slvV H.roAll 2 (.slice (some ⟨b, 0, none⟩) n (2 * (n + 2))) none (some (.int .i64 ((n + 2 : Nat) : Int))) none = some (.slice (some ⟨b, 0, none⟩) (n + 2) (2 * (n + 2))) := by
    simp only [slvV, bound, natOf_cast]
    simp
  obtain ⟨n2, hn2⟩ : ∃ n2 : Nat, n2 = n + 2 := ⟨_, rfl⟩
  obtain ⟨n1, hn1⟩ : ∃ n1 : Nat, n1 = n + 1 := ⟨_, rfl⟩
  rw [← hn2] at w1 hsl
  rw [← hn1] at w2 d0 d1
  have q1 : n < n2 := by omega
  have q2 : n1 < n2 := by omega
  simp only [← hn]
  rw [← hn2]
  rw [← hn2] at hS
  simp [hS, w1, w2, hsl, q1, q2, a0, a1, d0, d1]
theorem keptS_ok (v u : Value) (xs : List ByteArray) (n0 : Nat) (H : Heap) (h : Lent encS 1 n0 H v xs markR markB) (hu : Strs H u xs) : call K f_law0_KeptTexts [v, u] H = some (.bool true, H) := by
  have hl := h.lim
  have hr := h.rows encS_len
  obtain ⟨b, rfl, hw⟩ := h.whole
  obtain ⟨p, c, rfl⟩ := hu.slice
  refine of_wpf (open_pure rfl fc_law0_KeptTexts rfl (Nat.le_of_ble_eq_true rfl) ?_)
  have hS : call K f_law0_SameTexts [.slice (some ⟨b, 0, none⟩) xs.length (2 * (xs.length + 2)), .slice p xs.length c] H.roAll = some (.bool true, H.roAll) := by
    rw [sameTexts_ok _ _ xs xs _ hr.roAll hu.roAll, decide_eq_true rfl]
  obtain ⟨n, hn⟩ : ∃ n, n = xs.length := ⟨_, rfl⟩
  have w1 : IntKind.i64.wrap ((n : Int) + 2) = ((n + 2 : Nat) : Int) := by rw [wrap_i64 (by omega) (by omega)]; omega
  have w2 : IntKind.i64.wrap ((n : Int) + 1) = ((n + 1 : Nat) : Int) := by rw [wrap_i64 (by omega) (by omega)]; omega
  have hrw := hw.rows encS_len
  obtain ⟨b1, o1, e1, _, a0⟩ := hrw.at1 (i := n) (by simp; omega)
  cases e1
  obtain ⟨b2, o2, e2, _, d0⟩ := hrw.at1 (i := n + 1) (by simp; omega)
  cases e2
  have g0 : (xs ++ [markR, markB])[n]'(by simp; omega) = markR := by subst hn; simp
  have g1 : (xs ++ [markR, markB])[n + 1]'(by simp; omega) = markB := by subst hn; simp
  rw [g0] at a0
  rw [g1] at d0
  simp at a0 d0
  have hR : (⟨#[126, 114, 111, 111, 109]⟩ : ByteArray) = markR := rfl
  have hB : (⟨#[126, 98, 101, 104, 105, 110, 100]⟩ : ByteArray) = markB := rfl
  rw [← hn] at hS
  have hsl : slvV H.roAll 1 (.slice (some ⟨b, 0, none⟩) n (2 * (n + 2))) none (some (.int .i64 ((n + 2 : Nat) : Int))) none = some (.slice (some ⟨b, 0, none⟩) (n + 2) (2 * (n + 2))) := by
    simp only [slvV, bound, natOf_cast]
    simp
  obtain ⟨n2, hn2⟩ : ∃ n2 : Nat, n2 = n + 2 := ⟨_, rfl⟩
  obtain ⟨n1, hn1⟩ : ∃ n1 : Nat, n1 = n + 1 := ⟨_, rfl⟩
  rw [← hn2] at w1 hsl
  rw [← hn1] at w2 d0
  have q1 : n < n2 := by omega
  have q2 : n1 < n2 := by omega
  simp only [← hn]
  rw [← hn2]
  rw [← hn2] at hS
  simp [hR, hB, hS, w1, w2, hsl, q1, q2, a0, d0]
end Go.AM
