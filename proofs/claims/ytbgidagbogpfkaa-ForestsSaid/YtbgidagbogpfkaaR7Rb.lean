import Derived.Test.YtbgidagbogpfkaaR7Rm
/- Appending to what is one's own, element by element; files copied. -/
namespace Go.AM
open Go.Proofs
set_option linter.unusedVariables false
set_option linter.unusedSimpArgs false
set_option maxRecDepth 100000
attribute [-simp] ByteArray.size_eq_zero_iff Heap.store
theorem row_new (G : Heap) (sz : Nat) (l : List Value) {n : Nat} (hn : l.length = n) : (G.add (rowBlk sz l)).row G.next 0 n = some l :=
  row_of _ 0 hn fun j hj => by rw [cell_add_new, Nat.zero_add]; rfl
theorem Own.toOw {α : Type} {enc : α → List Value} {sz n0 : Nat} {H : Heap} {v : Value} {xs : List α} (h : Own enc sz n0 H v xs) (hn : xs = [] → v = .slice none 0 0) : Ow enc sz n0 H v xs := by
  refine ⟨h.lim, ?_⟩
  rcases h.is with h | ⟨b, B, h1, h2, h3, h4, h5, h6, h7⟩
  · exact .inl h
  · by_cases e : xs = []
    · exact .inl ⟨hn e, e⟩
    · have := List.length_pos_iff.2 e
      exact .inr (.inr ⟨b, B, 2 * xs.length, h1, by omega, by omega, by omega, h2, h3, h4, h5, h6, h7⟩)
theorem Own.blkV_lt {α : Type} {enc : α → List Value} {sz n0 : Nat} {H : Heap} {v : Value} {xs : List α} (h : Own enc sz n0 H v xs) : ∀ b, blkV v = some b → n0 ≤ b ∧ b < H.next := by
  intro b hb
  rcases h.is with ⟨rfl, _⟩ | ⟨b', B, rfl, h2, h3, _⟩
  · cases hb
  · cases hb; exact ⟨h2, h3⟩
/-- One more at the end of what is one's own. -/
theorem Own.app2 {α : Type} {enc : α → List Value} {sz n0 by_ : Nat} {H : Heap} {v : Value} {xs : List α} (h : Own enc sz n0 H v xs) (he : ∀ x, (enc x).length = sz) (x : α) (h1 : (enc x).all Value.oneCell' = true) (hb : (xs.length + 1) * by_ ≤ 2 ^ 47) (hl : xs.length + 1 ≤ 140737488355328) (hn : n0 ≤ H.next) :
    ∃ X : Heap, appV H sz by_ 1 v (enc x) = some (.slice (some ⟨H.next, 0, none⟩) (xs.length + 1) (2 * (xs.length + 1)), X) ∧ Own enc sz n0 X (.slice (some ⟨H.next, 0, none⟩) (xs.length + 1) (2 * (xs.length + 1))) (xs ++ [x]) ∧ X.next = H.next + 1 ∧
      (∀ k, k < H.next → blkV v ≠ some k → X.blk k = H.blk k) ∧ ∀ A, A.next ≤ n0 → Ext A H → Ext A X := by
  refine ⟨_, h.app he (enc x) (by omega) h1 hb (by omega), ?_, by simp, fun k hk hv => ?_, fun A hA hE => (h.ext_kill hA hE).add _⟩
  · have := Own.new' (enc := enc) (sz := sz) (n0 := n0) (b := H.next) (H := Go.AM.killB v H) (xs := xs ++ [x]) (by simp) hn (by simp; omega) (cs := xs.flatMap enc ++ enc x) (by simp)
    simpa using this
  · rw [blk_add_old (by simpa using hk)]
    exact killB_blk hv
/-- A row of files copied to the end of an empty one. -/
theorem copyF_ok (v : Value) (xs : List Fil) (H : Heap) (h : Fils H v xs) (hw : xs.length * 40 ≤ 2 ^ 47) : ∃ r X, appE 3 40 (.slice (some ⟨H.next, 0, none⟩) 0 1) v (H.add (rowBlk 3 [])) = some (r, X) ∧ Ext H X ∧ Ow encF 3 H.next X r xs := by
  have hR : Fils (H.add (rowBlk 3 [])) v xs := h.ext ((Ext.refl H).add _)
  have ha := hR.appE encF_len 40 (.slice (some ⟨H.next, 0, none⟩) 0 1)
  by_cases h0 : xs = []
  · subst h0
    exact ⟨_, _, ha.trans (by unfold appV; exact if_pos rfl), (Ext.refl H).add _, ⟨by simp, .inr (.inl ⟨rfl, H.next, rfl, Nat.le_refl _, by simp⟩)⟩⟩
  · have hpos : xs.length ≠ 0 := fun h => h0 (List.eq_nil_of_length_eq_zero h)
    have hv : appV (H.add (rowBlk 3 [])) 3 40 xs.length (.slice (some ⟨H.next, 0, none⟩) 0 1) (xs.flatMap encF) = some (.slice (some ⟨H.next + 1, 0, none⟩) xs.length (2 * xs.length), (H.add (rowBlk 3 [])).add (rowBlk 3 (xs.flatMap encF))) := by
      have := appV_odd (H := H.add (rowBlk 3 [])) (esz := 3) (bytes := 40) (k := xs.length) (b := H.next) (o := 0) (n := 0) (c := 1) (xs := []) (ys := xs.flatMap encF) hpos (by omega) (by omega) (by omega) (by omega) (one_flat encF_one xs) (by simp)
      simpa using this
    refine ⟨_, _, ha.trans hv, ((Ext.refl H).add _).add _, ?_⟩
    exact Ow.new (H := H.add (rowBlk 3 [])) (by simp) (by omega) (by omega) h0 rfl
/-- What a copy is, so far. -/
structure CpInv (H G : Heap) (u : Value) (cur : List (Inf × Value)) : Prop where
  ext : Ext H G
  own : Own encP 5 H.next G u cur
  nil : cur = [] → u = .slice none 0 0
  fils : ∀ q ∈ cur, Ow encF 3 H.next G q.2 q.1.files
  sep : ∀ q ∈ cur, Dis u q.2
  dis : cur.Pairwise fun p q => Dis p.2 q.2
theorem CpInv.owf {H G : Heap} {u : Value} {cur : List (Inf × Value)} (h : CpInv H G u cur) : OwF H.next G u cur := ⟨h.own.toOw h.nil, h.fils, h.sep, h.dis⟩
/-- One more copied: the variable, its files, the row. -/
theorem CpInv.step {H G : Heap} {u : Value} {cur : List (Inf × Value)} (h : CpInv H G u cur) (x : Inf × Value) (hx : Fils G x.2 x.1.files) (hw : x.1.files.length * 40 ≤ 2 ^ 47) (hl : (cur.length + 1) * 80 ≤ 2 ^ 47) :
    ∃ X Y Z W r, (G.add (rowBlk 5 [.string ⟨#[]⟩, .int .i64 0, .string ⟨#[]⟩, .string ⟨#[]⟩, .slice none 0 0])).store G.next 0 (encP x) = some X ∧ X.next = G.next + 1 ∧ X.cell G.next 4 = some x.2 ∧ (X.add (rowBlk 3 [])).cell G.next 4 = some x.2 ∧
      appE 3 40 (.slice (some ⟨G.next + 1, 0, none⟩) 0 1) x.2 (X.add (rowBlk 3 [])) = some (r, Y) ∧ Y.store G.next 4 [r] = some Z ∧ Z.row G.next 0 5 = some (encP (x.1, r)) ∧ r.oneCell' = true ∧
      appV (Z.add (rowBlk 5 (encP (x.1, r)))) 5 80 1 u (encP (x.1, r)) = some (.slice (some ⟨Z.next + 1, 0, none⟩) (cur.length + 1) (2 * (cur.length + 1)), W) ∧ CpInv H W (.slice (some ⟨Z.next + 1, 0, none⟩) (cur.length + 1) (2 * (cur.length + 1))) (cur ++ [(x.1, r)]) := by
  obtain ⟨X, x1, EX, x2, _, _, _, _, x4, xn⟩ := new_store5 G x hx.one
  have hvX : VarP X G.next x := by
    have hbx : ∃ B, X.blk G.next = some B ∧ B.ro = false ∧ ∀ j, j < 5 → B.at_ j = (encP x)[j]? := by
      simp [Heap.store, Heap.row, hx.one, rowBlk] at x1
      subst x1
      refine ⟨_, blk_set_self _ _ _, rfl, fun j hj => ?_⟩
      match j, hj with
      | 0, _ => rfl
      | 1, _ => rfl
      | 2, _ => rfl
      | 3, _ => rfl
      | 4, _ => rfl
    exact hbx
  obtain ⟨r, Y, y1, EY, y2⟩ := copyF_ok x.2 x.1.files X (hx.ext EX) hw
  rw [xn] at y1 y2
  have hvY := hvX.other (EY.blk G.next (by omega))
  have hr1 : r.oneCell' = true := (y2.rows encF_len).one
  obtain ⟨Z, z1, z2, zn, zo⟩ := hvY.put (q := (x.1, r)) (j := 4) (v := r) (by omega) hr1 rfl
  have hYn : G.next + 1 ≤ Y.next := by have := EY.next; omega
  have EZ : Ext G Z := ⟨by omega, fun k hk => by rw [zo k (by omega)]; exact (EX.trans EY).blk k hk⟩
  have EZ2 : Ext G (Z.add (rowBlk 5 (encP (x.1, r)))) := EZ.add _
  have hone2 : (encP (x.1, r)).all Value.oneCell' = true := by simp [hr1]
  obtain ⟨W, w1, w2, wn, wb, wE⟩ := (h.own.ext EZ2).app2 (by_ := 80) encP_len (x.1, r) hone2 hl (by omega) (by have := h.ext.next; simp; omega)
  have hub := h.own.blkV_lt
  have hrb := y2.below
  have hZr : Ow encF 3 H.next (Z.add (rowBlk 5 (encP (x.1, r)))) r x.1.files := by
    refine Ow.ext (H := Z) ?_ ((Ext.refl Z).add _)
    refine ((y2.low (m := H.next) (by have := h.ext.next; omega)).frame (by omega) fun b hb => ?_)
    exact zo b (by have := hrb b hb; omega)
  refine ⟨X, Y, Z, W, r, x1, xn, x4, by rw [cell_add_old (by omega)]; exact x4, y1, z1, z2.cells.2.2.2.2.2, hr1, w1, ⟨wE H (Nat.le_refl _) (h.ext.trans EZ2), w2, fun e => by simp at e, fun q hq => ?_, fun q hq b hb hb2 => ?_, ?_⟩⟩
  · have key : Ow encF 3 H.next (Z.add (rowBlk 5 (encP (x.1, r)))) q.2 q.1.files ∧ Dis u q.2 := by
      rcases List.mem_append.1 hq with hq | hq
      · exact ⟨(h.fils q hq).ext EZ2, h.sep q hq⟩
      · rw [List.mem_singleton.1 hq]
        refine ⟨hZr, fun b h1 h2 => ?_⟩
        have := hub b h1
        have := hrb b h2
        omega
    refine key.1.frame (by omega) fun b hb => ?_
    exact wb b (key.1.below b hb).2 fun hu => key.2 b hu hb
  · have hbn : b = Z.next + 1 := by cases hb; rfl
    have key : b < Z.next := by
      rcases List.mem_append.1 hq with hq | hq
      · have := ((h.fils q hq).below b hb2).2
        have := EZ.next; omega
      · rw [List.mem_singleton.1 hq] at hb2
        have := hrb b hb2; omega
    omega
  · refine List.pairwise_append.2 ⟨h.dis, List.pairwise_singleton _ _, fun p hp q hq => ?_⟩
    rw [List.mem_singleton.1 hq]
    intro b h1 h2
    have := ((h.fils p hp).below b h1).2
    have := hrb b h2
    omega
end Go.AM
