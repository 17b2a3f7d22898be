/- AM: slices that grow. -/
import Derived.Test.YtiiliffoclejlaaAmTxt
namespace Go.AM
set_option linter.unusedVariables false
set_option linter.unusedSimpArgs false
/-- The memory of what an append has left behind is gone. -/
def killB (v : Value) (H : Heap) : Heap := match v with | .slice (some a) _ _ => H.set a.block none | _ => H
@[simp] theorem next_killB (v : Value) (H : Heap) : (killB v H).next = H.next := by unfold killB; split <;> rfl
/-- v is no slice of block b. -/
def NotIn (v : Value) (b : Nat) : Prop := ∀ a n c, v = .slice (some a) n c → b ≠ a.block
theorem blk_killB {v : Value} {H : Heap} {b : Nat} (h : NotIn v b) : (killB v H).blk b = H.blk b := by
  unfold killB; split
  · rename_i a n c; exact blk_set_ne (h a n c rfl)
  · rfl
theorem cell_killB {v : Value} {H : Heap} {b o : Nat} (h : NotIn v b) : (killB v H).cell b o = H.cell b o := by simp only [Heap.cell, blk_killB h]
theorem flat_len {α : Type} {enc : α → List Value} {sz : Nat} (he : ∀ x, (enc x).length = sz) : ∀ xs : List α, (xs.flatMap enc).length = xs.length * sz
  | [] => by simp
  | x :: xs => by rw [List.flatMap_cons, List.length_append, he, flat_len he xs, List.length_cons, Nat.succ_mul]; omega
theorem flat_get {α : Type} {enc : α → List Value} {sz : Nat} (he : ∀ x, (enc x).length = sz) : ∀ (xs : List α) (i : Nat) (h : i < xs.length) (j : Nat), j < sz → (xs.flatMap enc)[i * sz + j]? = (enc xs[i])[j]?
  | x :: xs, 0, _, j, hj => by
    rw [List.flatMap_cons, Nat.zero_mul, Nat.zero_add, List.getElem?_append_left (by rw [he]; exact hj)]; rfl
  | x :: xs, i + 1, h, j, hj => by
    rw [List.flatMap_cons, List.getElem?_append_right (by rw [he, Nat.succ_mul]; omega), he]
    rw [show (i + 1) * sz + j - sz = i * sz + j by rw [Nat.succ_mul]; omega, flat_get he xs i (by simpa using h) j hj]
    rfl
/-- v is a slice of xs that nobody else holds; its memory, if any, begins at block n0 or behind. -/
structure Own {α : Type} (enc : α → List Value) (sz n0 : Nat) (H : Heap) (v : Value) (xs : List α) : Prop where
  lim : xs.length ≤ 140737488355328
  is : (v = .slice none 0 0 ∧ xs = []) ∨ ∃ b B, v = .slice (some ⟨b, 0, none⟩) xs.length (2 * xs.length) ∧ n0 ≤ b ∧ b < H.next ∧ H.blk b = some B ∧ B.ro = false ∧ B.esz = sz ∧ ∀ j, j < xs.length * sz → B.at_ j = (xs.flatMap enc)[j]?
section
variable {α : Type} {enc : α → List Value} {sz n0 : Nat} {H : Heap} {v : Value} {xs : List α}
theorem Own.nil : Own enc sz n0 H (.slice none 0 0) ([] : List α) := ⟨by simp, .inl ⟨rfl, rfl⟩⟩
theorem Own.low (h : Own enc sz n0 H v xs) {m : Nat} (hm : m ≤ n0) : Own enc sz m H v xs := by
  refine ⟨h.lim, h.is.imp id ?_⟩
  rintro ⟨b, B, h1, h2, h3⟩; exact ⟨b, B, h1, by omega, h3⟩
theorem Own.ext (h : Own enc sz n0 H v xs) {H' : Heap} (he : Ext H H') : Own enc sz n0 H' v xs := by
  refine ⟨h.lim, h.is.imp id ?_⟩
  rintro ⟨b, B, h1, h2, h3, h4, h5⟩; exact ⟨b, B, h1, h2, by have := he.next; omega, by rw [he.blk b h3]; exact h4, h5⟩
theorem Own.frame (h : Own enc sz n0 H v xs) {H' : Heap} (hn : H.next ≤ H'.next) (hb : ∀ b, n0 ≤ b → b < H.next → ¬ NotIn v b → H'.blk b = H.blk b) : Own enc sz n0 H' v xs := by
  refine ⟨h.lim, h.is.imp id ?_⟩
  rintro ⟨b, B, h1, h2, h3, h4, h5⟩
  exact ⟨b, B, h1, h2, by omega, by rw [hb b h2 h3 (fun hn => hn _ _ _ h1 rfl)]; exact h4, h5⟩
theorem Own.rows (h : Own enc sz n0 H v xs) (he : ∀ x, (enc x).length = sz) : Rows enc sz H v xs := by
  rcases h.is with ⟨rfl, rfl⟩ | ⟨b, B, rfl, h2, h3, h4, h5, h6, h7⟩
  · exact Rows.nil
  · refine ⟨by have := h.lim; omega, _, _, rfl, .inr ⟨b, 0, rfl, h3, by omega, fun i hi j hj => ?_⟩⟩
    rw [Nat.zero_add, show H.cell b (i * sz + j) = B.at_ (i * sz + j) by simp only [Heap.cell, h4]]
    rw [h7 _ (by
      have : (i + 1) * sz ≤ xs.length * sz := Nat.mul_le_mul_right _ hi
      rw [Nat.succ_mul] at this; omega), flat_get he xs i hi j hj]
theorem Own.notIn (h : Own enc sz n0 H v xs) {b : Nat} (hb : b < n0) : NotIn v b := by
  intro a n c e
  rcases h.is with ⟨rfl, rfl⟩ | ⟨b', B, rfl, h2, _⟩
  · cases e
  · cases e; simp only; omega
theorem Own.ext_kill (h : Own enc sz n0 H v xs) {A G : Heap} (hA : A.next ≤ n0) (hE : Ext A G) : Ext A (killB v G) :=
  ⟨by rw [next_killB]; exact hE.next, fun b hb => by rw [blk_killB (h.notIn (by omega))]; exact hE.blk b hb⟩
theorem Own.new (hn : n0 ≤ H.next) (hl : xs.length ≤ 140737488355328) (cs : List Value) (hc : cs = xs.flatMap enc) : Own enc sz n0 (H.add (rowBlk sz cs)) (.slice (some ⟨H.next, 0, none⟩) xs.length (2 * xs.length)) xs :=
  ⟨hl, .inr ⟨H.next, _, rfl, hn, by simp, blk_add_new _ _, rfl, rfl, fun j hj => by subst hc; rfl⟩⟩
theorem Own.new' {b : Nat} (hb : b = H.next) (hn : n0 ≤ b) (hl : xs.length ≤ 140737488355328) {cs : List Value} (hc : cs = xs.flatMap enc) : Own enc sz n0 (H.add (rowBlk sz cs)) (.slice (some ⟨b, 0, none⟩) xs.length (2 * xs.length)) xs := by
  subst hb; exact Own.new hn hl cs hc
/-- An append to what is one's own: one block behind another. -/
theorem Own.app (h : Own enc sz n0 H v xs) (he : ∀ x, (enc x).length = sz) {bytes k : Nat} (ys : List Value) (hk : k ≠ 0) (hy : ys.all Value.oneCell' = true) (h1 : (xs.length + k) * bytes ≤ 2 ^ 47) (h2 : xs.length + k ≤ 2 ^ 47) :
    appV H sz bytes k v ys = some (.slice (some ⟨H.next, 0, none⟩) (xs.length + k) (2 * (xs.length + k)), (killB v H).add (rowBlk sz (xs.flatMap enc ++ ys))) := by
  unfold appV
  rw [if_neg hk]
  rcases h.is with ⟨rfl, rfl⟩ | ⟨b, B, rfl, h3, h4, h5, h6, h7, h8⟩
  · simp only [List.length_nil, Nat.zero_add] at h1 h2 ⊢
    rw [if_pos ⟨h1, h2, hy⟩]; rfl
  · simp only
    have hr : H.row b 0 (xs.length * sz) = some (xs.flatMap enc) := by
      refine row_of _ 0 (flat_len he xs) fun j hj => ?_
      rw [Nat.zero_add, show H.cell b j = B.at_ j by simp only [Heap.cell, h5]]
      exact h8 j hj
    rw [if_neg (by omega), if_pos ⟨h1, h2, hy⟩, hr, h5]
    simp only
    rw [if_neg (by omega), if_pos ⟨h6, h7⟩]
    rfl
end
section
variable {α : Type} {enc : α → List Value} {sz n0 : Nat} {H : Heap} {v y : Value} {xs ys : List α}
theorem Own.len (h : Own enc sz n0 H v xs) : lenO v = some (.int .i64 (xs.length : Int)) := by
  rcases h.is with ⟨rfl, rfl⟩ | ⟨b, B, rfl, _⟩ <;> rfl
theorem Rows.appE (h : Rows enc sz H y ys) (he : ∀ x, (enc x).length = sz) (bytes : Nat) (x : Value) : appE sz bytes x y H = appV H sz bytes ys.length x (ys.flatMap enc) := by
  obtain ⟨l, p, c, rfl, hp⟩ := h
  rw [appE_slice]
  rcases hp with ⟨rfl, rfl, rfl⟩ | ⟨b, o, rfl, h2, h3, h4⟩
  · simp
  · rw [elems_at, row_of (vs := ys.flatMap enc) _ o (flat_len he ys) fun j hj => ?_]
    · rfl
    · have hz : 0 < sz := by
        rcases Nat.eq_zero_or_pos sz with h | h
        · subst h; simp at hj
        · exact h
      have hq : j / sz < ys.length := by rw [Nat.div_lt_iff_lt_mul hz]; exact hj
      have hm : j % sz < sz := Nat.mod_lt _ hz
      have e : j / sz * sz + j % sz = j := by rw [Nat.mul_comm]; exact Nat.div_add_mod j sz
      have := h4 (j / sz) hq (j % sz) hm
      rw [Nat.add_assoc, e] at this
      rw [this, ← flat_get he ys _ hq _ hm, e]
theorem one_flat (h1 : ∀ x, (enc x).all Value.oneCell' = true) (xs : List α) : (xs.flatMap enc).all Value.oneCell' = true := by
  rw [List.all_eq_true]
  intro a ha
  obtain ⟨x, _, hx⟩ := List.mem_flatMap.1 ha
  exact List.all_eq_true.1 (h1 x) a hx
theorem Own.appR (h : Own enc sz n0 H v xs) (hy : Rows enc sz H y ys) (he : ∀ x, (enc x).length = sz) (h1 : ∀ x, (enc x).all Value.oneCell' = true) {bytes : Nat} (hk : ys.length ≠ 0) (h2 : (xs.length + ys.length) * bytes ≤ 2 ^ 47) (h3 : xs.length + ys.length ≤ 2 ^ 47) :
    AM.appE sz bytes v y H = some (.slice (some ⟨H.next, 0, none⟩) (xs ++ ys).length (2 * (xs ++ ys).length), (killB v H).add (rowBlk sz ((xs ++ ys).flatMap enc))) := by
  rw [hy.appE he, h.app he _ hk (one_flat h1 ys) h2 h3, List.length_append, List.flatMap_append]
end
/-- v's memory, if any, lies ahead of block m. -/
def BelowB (v : Value) (m : Nat) : Prop := ∀ a n c, v = .slice (some a) n c → a.block < m
theorem BelowB.notIn {v : Value} {m b : Nat} (h : BelowB v m) (hb : m ≤ b) : NotIn v b := fun a n c e => by have := h a n c e; omega
theorem BelowB.mono {v : Value} {m k : Nat} (h : BelowB v m) (hk : m ≤ k) : BelowB v k := fun a n c e => by have := h a n c e; omega
section
variable {α : Type} {enc : α → List Value} {sz n0 : Nat} {H : Heap} {v y : Value} {xs ys : List α}
theorem Own.below (h : Own enc sz n0 H v xs) : BelowB v H.next := by
  intro a n c e
  rcases h.is with ⟨rfl, _⟩ | ⟨b, B, rfl, h2, h3, _⟩
  · cases e
  · cases e; exact h3
theorem Own.slc (h : Own enc sz n0 H v xs) : ∃ p c, v = .slice p xs.length c ∧ (∀ a, p = some a → a.spot = none ∧ a.off = 0) := by
  rcases h.is with ⟨rfl, rfl⟩ | ⟨b, B, rfl, h2⟩
  · exact ⟨none, 0, rfl, fun a h => by cases h⟩
  · exact ⟨_, _, rfl, fun a h => by cases h; exact ⟨rfl, rfl⟩⟩
end
@[simp] theorem set_set (H : Heap) (b : Nat) (f g : Option Blk) : (H.set b f).set b g = H.set b g := by
  unfold Heap.set; congr 1; funext k; by_cases h : k = b <;> simp [h]
section
variable {α : Type} {enc : α → List Value} {sz n0 : Nat} {H : Heap} {v y : Value} {xs ys : List α}
theorem Own.set (h : Own enc sz n0 H v xs) {k : Nat} (hk : k < n0) (f : Option Blk) : Own enc sz n0 (H.set k f) v xs :=
  h.frame (Nat.le_refl _) fun b h1 h2 _ => blk_set_ne (by omega)
theorem Own.setB (h : Own enc sz n0 H v xs) {k : Nat} (hk : NotIn v k) (f : Option Blk) : Own enc sz n0 (H.set k f) v xs :=
  h.frame (Nat.le_refl _) fun b h1 h2 h3 => blk_set_ne (fun e => h3 (e ▸ hk))
theorem Own.killB (h : Own enc sz n0 H v xs) {D : Nat} (hv : BelowB v D) {w : Value} (hw : ∀ b, b < D → NotIn w b) : Own enc sz n0 (killB w H) v xs :=
  h.frame (by simp) fun b h1 h2 h3 => blk_killB (hw b (Nat.lt_of_not_le fun hb => h3 (hv.notIn hb)))
theorem BelowB.slice {b o n c m : Nat} {sp} (h : b < m) : BelowB (.slice (some ⟨b, o, sp⟩) n c) m := fun a n c e => by cases e; exact h
theorem BelowB.nil {n c m : Nat} : BelowB (.slice none n c) m := fun a n c e => by cases e
end
theorem flat_set {α : Type} {enc : α → List Value} {sz : Nat} (he : ∀ x, (enc x).length = sz) {xs : List α} {i k : Nat} (hi : i < xs.length) (hk : k < sz) {x' : α} {val : Value}
    (hx : ∀ r, r < sz → (enc x')[r]? = if r = k then some val else (enc xs[i])[r]?) {j : Nat} (hj : j < xs.length * sz) : ((xs.set i x').flatMap enc)[j]? = if j = i * sz + k then some val else (xs.flatMap enc)[j]? := by
  have hz : 0 < sz := by omega
  have hq : j / sz < xs.length := by rw [Nat.div_lt_iff_lt_mul hz]; exact hj
  have hm : j % sz < sz := Nat.mod_lt _ hz
  have e : j / sz * sz + j % sz = j := by rw [Nat.mul_comm]; exact Nat.div_add_mod j sz
  have a1 := flat_get he (xs.set i x') (j / sz) (by rw [List.length_set]; exact hq) _ hm
  have a2 := flat_get he xs (j / sz) hq _ hm
  rw [e] at a1 a2
  rw [a1, a2]
  by_cases hqi : j / sz = i
  · have : (xs.set i x')[j / sz]'(by rw [List.length_set]; exact hq) = x' := by simp [hqi]
    rw [this, hx _ hm]
    by_cases hr : j % sz = k
    · rw [if_pos hr, if_pos (by rw [← e, hqi, hr])]
    · rw [if_neg hr, if_neg (fun h => hr (by rw [h, Nat.mul_comm, Nat.mul_add_mod, Nat.mod_eq_of_lt hk]))]
      simp only [hqi]
  · have : (xs.set i x')[j / sz]'(by rw [List.length_set]; exact hq) = xs[j / sz] := by rw [List.getElem_set_ne (fun h => hqi h.symm)]
    rw [this, if_neg (fun h => hqi (by rw [h, Nat.mul_comm, Nat.mul_add_div hz, Nat.div_eq_of_lt hk]; rfl))]
section
variable {α : Type} {enc : α → List Value} {sz n0 : Nat} {H : Heap} {v y : Value} {xs ys : List α}
/-- One's own slice of something: its block, and a cell written. -/
theorem Own.blkOf (h : Own enc sz n0 H v xs) (he : ∀ x, (enc x).length = sz) (hne : xs ≠ []) : ∃ b B, v = .slice (some ⟨b, 0, none⟩) xs.length (2 * xs.length) ∧ n0 ≤ b ∧ b < H.next ∧ H.blk b = some B ∧ B.ro = false ∧
    (∀ (i : Nat) (hi : i < xs.length) (j : Nat), j < sz → B.at_ (i * sz + j) = (enc xs[i])[j]?) ∧
    ∀ (i k : Nat) (hi : i < xs.length) (hk : k < sz) (x' : α) (val : Value), (∀ r, r < sz → (enc x')[r]? = if r = k then some val else (enc xs[i])[r]?) → Own enc sz n0 (H.set b (some (B.put (i * sz + k) val))) v (xs.set i x') := by
  rcases h.is with ⟨_, rfl⟩ | ⟨b, B, rfl, h2, h3, h4, h5, h6, h7⟩
  · exact absurd rfl hne
  · refine ⟨b, B, rfl, h2, h3, h4, h5, fun i hi j hj => ?_, fun i k hi hk x' val hx => ?_⟩
    · rw [h7 _ (by
        have : (i + 1) * sz ≤ xs.length * sz := Nat.mul_le_mul_right _ hi
        rw [Nat.succ_mul] at this; omega), flat_get he xs i hi j hj]
    · refine ⟨by rw [List.length_set]; exact h.lim, .inr ⟨b, _, by rw [List.length_set], h2, h3, blk_set_self _ _ _, h5, h6, fun j hj => ?_⟩⟩
      rw [List.length_set] at hj
      rw [flat_set he hi hk hx hj, at_put, h7 j hj]
end
theorem Own.appAny {α : Type} {enc : α → List Value} {sz n0 : Nat} {H : Heap} {v y : Value} {xs ys : List α} (h : Own enc sz n0 H v xs) (hn : n0 ≤ H.next) (hy : Rows enc sz H y ys) (he : ∀ x, (enc x).length = sz) (h1 : ∀ x, (enc x).all Value.oneCell' = true) {bytes : Nat} (h2 : (xs.length + ys.length) * bytes ≤ 2 ^ 47) (h3 : xs.length + ys.length ≤ 2 ^ 47) :
    ∃ v' H', AM.appE sz bytes v y H = some (v', H') ∧ Own enc sz n0 H' v' (xs ++ ys) ∧ ∀ A, A.next ≤ n0 → Ext A H → Ext A H' := by
  by_cases hk : ys.length = 0
  · obtain rfl : ys = [] := List.eq_nil_of_length_eq_zero hk
    refine ⟨v, H, ?_, by rw [List.append_nil]; exact h, fun A _ hE => hE⟩
    rw [hy.appE he]
    rcases h.is with ⟨rfl, rfl⟩ | ⟨b, B, rfl, _⟩ <;> rfl
  · refine ⟨_, _, h.appR hy he h1 hk h2 h3, Own.new' (by simp) hn (by rw [List.length_append]; omega) rfl, fun A hA hE => (h.ext_kill hA hE).add _⟩
theorem wpf_choose {C : Heap → Option (Value × Heap)} {Q : Heap → Value → Heap → Prop} (h : ∀ G, wpf (C G) (Q G)) : ∃ (fv : Heap → Value) (fG : Heap → Heap), (∀ G, C G = some (fv G, fG G)) ∧ ∀ G, Q G (fv G) (fG G) := by
  refine ⟨fun G => Classical.choose (h G), fun G => Classical.choose (Classical.choose_spec (h G)), fun G => (Classical.choose_spec (Classical.choose_spec (h G))).1, fun G => (Classical.choose_spec (Classical.choose_spec (h G))).2⟩
theorem wpf_choose' {C : Heap → Option (Value × Heap)} {Pre : Heap → Prop} {Q : Heap → Value → Heap → Prop} (h : ∀ G, Pre G → wpf (C G) (Q G)) : ∃ (fv : Heap → Value) (fG : Heap → Heap), (∀ G, Pre G → C G = some (fv G, fG G)) ∧ ∀ G, Pre G → Q G (fv G) (fG G) := by
  have h' : ∀ G, ∃ v G', Pre G → C G = some (v, G') ∧ Q G v G' := fun G => by
    by_cases hp : Pre G
    · obtain ⟨v, G', h1, h2⟩ := h G hp; exact ⟨v, G', fun _ => ⟨h1, h2⟩⟩
    · exact ⟨undef, G, fun h => absurd h hp⟩
  exact ⟨fun G => Classical.choose (h' G), fun G => Classical.choose (Classical.choose_spec (h' G)), fun G hp => (Classical.choose_spec (Classical.choose_spec (h' G)) hp).1, fun G hp => (Classical.choose_spec (Classical.choose_spec (h' G)) hp).2⟩
end Go.AM
