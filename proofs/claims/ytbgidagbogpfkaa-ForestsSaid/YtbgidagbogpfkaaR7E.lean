import Derived.Test.YtbgidagbogpfkaaR7D
import Derived.KernelRfl
/- Slices of one's own, with room behind them. -/
namespace Go.AM
open Go.Proofs
set_option linter.unusedVariables false
set_option linter.unusedSimpArgs false
set_option maxRecDepth 100000
attribute [-simp] ByteArray.size_eq_zero_iff
/-- The block of a slice. -/
def blkV : Value → Option Nat
  | .slice (some a) _ _ => some a.block
  | _ => none
structure Ow {α : Type} (enc : α → List Value) (sz n0 : Nat) (H : Heap) (v : Value) (xs : List α) : Prop where
  lim : xs.length ≤ 140737488355328
  is : (v = .slice none 0 0 ∧ xs = []) ∨ (xs = [] ∧ ∃ b, v = .slice (some ⟨b, 0, none⟩) 0 1 ∧ n0 ≤ b ∧ b < H.next) ∨
    ∃ b B c, v = .slice (some ⟨b, 0, none⟩) xs.length c ∧ c % 2 = 0 ∧ xs.length ≤ c / 2 ∧ 0 < c / 2 ∧ n0 ≤ b ∧ b < H.next ∧ H.blk b = some B ∧ B.ro = false ∧ B.esz = sz ∧ ∀ j, j < xs.length * sz → B.at_ j = (xs.flatMap enc)[j]?
section
variable {α : Type} {enc : α → List Value} {sz n0 : Nat} {H : Heap} {v : Value} {xs : List α}
theorem Ow.nil : Ow enc sz n0 H (.slice none 0 0) ([] : List α) := ⟨by simp, .inl ⟨rfl, rfl⟩⟩
theorem Ow.below (h : Ow enc sz n0 H v xs) : ∀ b, blkV v = some b → n0 ≤ b ∧ b < H.next := by
  intro b hb
  rcases h.is with ⟨rfl, _⟩ | ⟨_, b', rfl, h1, h2⟩ | ⟨b', B, c, rfl, _, _, _, h1, h2, _⟩
  · cases hb
  · cases hb; exact ⟨h1, h2⟩
  · cases hb; exact ⟨h1, h2⟩
theorem Ow.low (h : Ow enc sz n0 H v xs) {m : Nat} (hm : m ≤ n0) : Ow enc sz m H v xs := by
  refine ⟨h.lim, ?_⟩
  rcases h.is with h | ⟨h1, b, h2, h3, h4⟩ | ⟨b, B, c, h1, h2, h3, h4, h5, h6⟩
  · exact .inl h
  · exact .inr (.inl ⟨h1, b, h2, by omega, h4⟩)
  · exact .inr (.inr ⟨b, B, c, h1, h2, h3, h4, by omega, h6⟩)
theorem Ow.frame (h : Ow enc sz n0 H v xs) {H' : Heap} (hn : H.next ≤ H'.next) (hb : ∀ b, blkV v = some b → H'.blk b = H.blk b) : Ow enc sz n0 H' v xs := by
  refine ⟨h.lim, ?_⟩
  rcases h.is with h | ⟨h1, b, h2, h3, h4⟩ | ⟨b, B, c, h1, h2, h3, h4, h5, h6, h7, h8⟩
  · exact .inl h
  · exact .inr (.inl ⟨h1, b, h2, h3, by omega⟩)
  · exact .inr (.inr ⟨b, B, c, h1, h2, h3, h4, h5, by omega, by rw [hb b (by rw [h1]; rfl)]; exact h7, h8⟩)
theorem Ow.ext (h : Ow enc sz n0 H v xs) {H' : Heap} (he : Ext H H') : Ow enc sz n0 H' v xs := h.frame he.next fun b hb => he.blk b (h.below b hb).2
theorem Ow.rows (h : Ow enc sz n0 H v xs) (he : ∀ x, (enc x).length = sz) : Rows enc sz H v xs := by
  rcases h.is with ⟨rfl, rfl⟩ | ⟨rfl, b, rfl, h1, h2⟩ | ⟨b, B, c, rfl, h2, h3, h4, h5, h6, h7, h8, h9, h10⟩
  · exact Rows.nil
  · exact ⟨by simp, _, _, rfl, .inr ⟨b, 0, rfl, h2, by simp, fun i hi => by simp at hi⟩⟩
  · refine ⟨by have := h.lim; omega, _, _, rfl, .inr ⟨b, 0, rfl, h6, by omega, fun i hi j hj => ?_⟩⟩
    rw [Nat.zero_add, show H.cell b (i * sz + j) = B.at_ (i * sz + j) by simp only [Heap.cell, h7]]
    rw [h10 _ (by
      have : (i + 1) * sz ≤ xs.length * sz := Nat.mul_le_mul_right _ hi
      rw [Nat.succ_mul] at this; omega), flat_get he xs i hi j hj]
theorem Ow.new {b : Nat} (hb : b = H.next) (hn : n0 ≤ b) (hl : xs.length ≤ 140737488355328) (h0 : xs ≠ []) {cs : List Value} (hc : cs = xs.flatMap enc) : Ow enc sz n0 (H.add (rowBlk sz cs)) (.slice (some ⟨b, 0, none⟩) xs.length (2 * xs.length)) xs := by
  subst hb
  have : 0 < xs.length := List.length_pos_iff.2 h0
  exact ⟨hl, .inr (.inr ⟨H.next, _, _, rfl, by omega, by omega, by omega, hn, by simp, blk_add_new _ _, rfl, rfl, fun j hj => by subst hc; rfl⟩)⟩
/-- The block, and a cell of it written. -/
theorem Ow.blkOf (h : Ow enc sz n0 H v xs) (he : ∀ x, (enc x).length = sz) (hne : xs ≠ []) : ∃ b B c, v = .slice (some ⟨b, 0, none⟩) xs.length c ∧ c % 2 = 0 ∧ xs.length ≤ c / 2 ∧ n0 ≤ b ∧ b < H.next ∧ H.blk b = some B ∧ B.ro = false ∧ B.esz = sz ∧
    (∀ (i : Nat) (hi : i < xs.length) (j : Nat), j < sz → B.at_ (i * sz + j) = (enc xs[i])[j]?) ∧
    ∀ (i k : Nat) (hi : i < xs.length) (hk : k < sz) (x' : α) (val : Value), (∀ r, r < sz → (enc x')[r]? = if r = k then some val else (enc xs[i])[r]?) → Ow enc sz n0 (H.set b (some (B.put (i * sz + k) val))) v (xs.set i x') := by
  rcases h.is with ⟨_, rfl⟩ | ⟨rfl, _⟩ | ⟨b, B, c, rfl, h2, h3, h4, h5, h6, h7, h8, h9, h10⟩
  · exact absurd rfl hne
  · exact absurd rfl hne
  · refine ⟨b, B, c, rfl, h2, h3, h5, h6, h7, h8, h9, fun i hi j hj => ?_, fun i k hi hk x' val hx => ?_⟩
    · rw [h10 _ (by
        have : (i + 1) * sz ≤ xs.length * sz := Nat.mul_le_mul_right _ hi
        rw [Nat.succ_mul] at this; omega), flat_get he xs i hi j hj]
    · refine ⟨by rw [List.length_set]; exact h.lim, .inr (.inr ⟨b, _, c, by rw [List.length_set], h2, by rw [List.length_set]; exact h3, h4, h5, h6, blk_set_self _ _ _, h8, h9, fun j hj => ?_⟩)⟩
      rw [List.length_set] at hj
      rw [flat_set he hi hk hx hj, at_put, h10 j hj]
theorem Ow.row (h : Ow enc sz n0 H v xs) (he : ∀ x, (enc x).length = sz) {b c : Nat} (hv : v = .slice (some ⟨b, 0, none⟩) xs.length c) : H.row b 0 (xs.length * sz) = some (xs.flatMap enc) := by
  refine row_of _ 0 (flat_len he xs) fun j hj => ?_
  rcases h.is with ⟨rfl, rfl⟩ | ⟨rfl, _⟩ | ⟨b', B, c', hv', h2, h3, h4, h5, h6, h7, h8, h9, h10⟩
  · cases hv
  · simp at hj
  · rw [hv] at hv'; cases hv'
    rw [Nat.zero_add, show H.cell b j = B.at_ j by simp only [Heap.cell, h7]]
    exact h10 j hj
end
theorem killB_blk {v : Value} {H : Heap} {k : Nat} (h : blkV v ≠ some k) : (killB v H).blk k = H.blk k := by
  unfold killB
  split
  · rename_i a n c
    exact blk_set_ne fun e => h (by rw [e]; rfl)
  · rfl
theorem binV_nilS {t e : TypeId} (h : K.P.underlying t = some (.slice e)) (a : Addr) (n c : Nat) : binV K.P .eql t (.slice (some a) n c) (.slice none 0 0) = some (.bool false) := by
  unfold binV
  rw [if_neg (by simp [flat1, flat2]), h]
  rfl
theorem pv_bind2 {α β : Type} (P : Program) (f : α → Sem β) : ∀ (s : Sem α) (a : α), pv P s = some a → pv P (s.bind f) = pv P (f a)
  | .pure b, a, h => by cases h; rfl
  | .program k, a, h => by simp only [Sem.bind, pv] at h ⊢; exact pv_bind2 P f (k P) a h
  | .mark _ k, a, h => by simp only [Sem.bind, pv] at h ⊢; exact pv_bind2 P f k a h
theorem binV_nilN {t e : TypeId} (h : K.P.underlying t = some (.slice e)) : binV K.P .eql t (.slice none 0 0) (.slice none 0 0) = some (.bool true) := by
  unfold binV
  rw [if_pos (by simp [flat1, flat2, bothNilIface])]
  have h2 : pv K.P (Op.equalIn (9999 + 1) t (.slice none 0 0) (.slice none 0 0)) = some true := by
    unfold Op.equalIn
    refine (pv_bind2 _ _ _ (.slice e) ?_).trans ?_
    · unfold underlying
      refine (pv_bind2 _ _ _ K.P rfl).trans ?_
      rw [h]; rfl
    · rfl
  have h3 : pv K.P (binOp .eql t (.slice none 0 0) (.slice none 0 0)) = some (.bool true) := by
    show pv K.P (Sem.bind (Op.equalIn Op.maxDepth t (.slice none 0 0) (.slice none 0 0)) _) = _
    exact (pv_bind2 _ _ _ true h2).trans rfl
  have h4 : pv K.P (eqGuard .eql t (.tmp 0) (.tmp 0) (.slice none 0 0) (.slice none 0 0)) = some () := by rfl
  show flatRes (pv K.P (Sem.bind (eqGuard .eql t (.tmp 0) (.tmp 0) (.slice none 0 0) (.slice none 0 0)) fun _ => binOp .eql t (.slice none 0 0) (.slice none 0 0))) = _
  rw [pv_bind2 _ _ _ () h4, h3]; rfl
theorem undInfos : K.P.underlying 22 = some (.slice 45) := by kernel_rfl
theorem undFiles : K.P.underlying 43 = some (.slice 51) := by kernel_rfl
/-- slices.Clone. -/
theorem clone_gen {α : Type} {enc : α → List Value} {sz by_ : Nat} (f : FuncId) (he : ∀ x, (enc x).length = sz) 
    (hnil : ∀ H, call K f [.slice none 0 0] H = some (.slice none 0 0, H))
    (hsome : ∀ H a n c r, appE sz by_ (.slice (some ⟨H.next, 0, none⟩) 0 1) (.slice (some a) n c) (H.add (rowBlk sz [])) = some r → call K f [.slice (some a) n c] H = some r)
    (v : Value) (xs : List α) (H : Heap) (h : Rows enc sz H v xs) (hw : xs.length * by_ ≤ 2 ^ 47) (hl : xs.length ≤ 140737488355328) (h1 : (xs.flatMap enc).all Value.oneCell' = true) : wpf (call K f [v] H) fun r H' => Ext H H' ∧ Ow enc sz H.next H' r xs := by
  obtain ⟨_, p, c, rfl, hp⟩ := h
  rcases hp with ⟨rfl, rfl, rfl⟩ | ⟨b, o, rfl, h2, h3, h4⟩
  · exact ⟨_, _, hnil H, Ext.refl _, Ow.nil⟩
  · have hR : Rows enc sz (H.add (rowBlk sz [])) (.slice (some ⟨b, o, none⟩) xs.length c) xs := Rows.ext ⟨by have := hl; omega, _, _, rfl, .inr ⟨b, o, rfl, h2, h3, h4⟩⟩ ((Ext.refl H).add _)
    have ha := hR.appE he by_ (.slice (some ⟨H.next, 0, none⟩) 0 1)
    by_cases h0 : xs = []
    · subst h0
      refine ⟨_, _, hsome H _ _ _ _ (ha.trans (by unfold appV; exact if_pos rfl)), (Ext.refl H).add _, ⟨by simp, .inr (.inl ⟨rfl, H.next, rfl, Nat.le_refl _, by simp⟩)⟩⟩
    · have hpos : xs.length ≠ 0 := fun h => h0 (List.eq_nil_of_length_eq_zero h)
      have hv : appV (H.add (rowBlk sz [])) sz by_ xs.length (.slice (some ⟨H.next, 0, none⟩) 0 1) (xs.flatMap enc) = some (.slice (some ⟨H.next + 1, 0, none⟩) xs.length (2 * xs.length), (H.add (rowBlk sz [])).add (rowBlk sz (xs.flatMap enc))) := by
        have := appV_odd (H := H.add (rowBlk sz [])) (esz := sz) (bytes := by_) (k := xs.length) (b := H.next) (o := 0) (n := 0) (c := 1) (xs := []) (ys := xs.flatMap enc) hpos (by omega) (by omega) (by simpa using hw) (by omega) h1 (by simp)
        simpa using this
      refine ⟨_, _, hsome H _ _ _ _ (ha.trans hv), ((Ext.refl H).add _).add _, ?_⟩
      exact Ow.new (H := H.add (rowBlk sz [])) (by simp) (by omega) hl h0 rfl
theorem encF_one (x : Fil) : (encF x).all Value.oneCell' = true := rfl
theorem cloneF_ok (v : Value) (xs : List Fil) (H : Heap) (h : Fils H v xs) (hw : xs.length * 40 ≤ 2 ^ 47) : wpf (call K f_slices_Clone_File [v] H) fun r H' => Ext H H' ∧ Ow encF 3 H.next H' r xs := by
  refine clone_gen (by_ := 40) f_slices_Clone_File encF_len (fun H => ?_) (fun H a n c r hr => ?_) v xs H h hw (by omega) (one_flat encF_one xs)
  · refine of_wpf (open_plain rfl fc_slices_Clone_File rfl (Nat.le_of_ble_eq_true rfl) ?_)
    simp [binV_nilN undFiles]
  · obtain ⟨r1, r2⟩ := r
    refine of_wpf (open_plain rfl fc_slices_Clone_File rfl (Nat.le_of_ble_eq_true rfl) ?_)
    simp only [appE_slice] at hr
    simp [binV_nilS undFiles, hr]
theorem encP_one {rs : List (Inf × Value)} (h : ∀ p ∈ rs, p.2.oneCell' = true) : (rs.flatMap encP).all Value.oneCell' = true := by
  rw [List.all_eq_true]
  intro a ha
  obtain ⟨x, hx, h2⟩ := List.mem_flatMap.1 ha
  have := h x hx
  simp at h2
  rcases h2 with rfl | rfl | rfl | rfl | rfl <;> first | rfl | exact this
theorem cloneP_ok (v : Value) (rs : List (Inf × Value)) (H : Heap) (h : Rows encP 5 H v rs) (hw : rs.length * 80 ≤ 2 ^ 47) (h1 : ∀ p ∈ rs, p.2.oneCell' = true) : wpf (call K f_slices_Clone_Info [v] H) fun r H' => Ext H H' ∧ Ow encP 5 H.next H' r rs := by
  refine clone_gen (by_ := 80) f_slices_Clone_Info encP_len (fun H => ?_) (fun H a n c r hr => ?_) v rs H h hw (by omega) (encP_one h1)
  · refine of_wpf (open_plain rfl fc_slices_Clone_Info rfl (Nat.le_of_ble_eq_true rfl) ?_)
    simp [binV_nilN undInfos]
  · obtain ⟨r1, r2⟩ := r
    refine of_wpf (open_plain rfl fc_slices_Clone_Info rfl (Nat.le_of_ble_eq_true rfl) ?_)
    simp only [appE_slice] at hr
    simp [binV_nilS undInfos, hr]
end Go.AM
