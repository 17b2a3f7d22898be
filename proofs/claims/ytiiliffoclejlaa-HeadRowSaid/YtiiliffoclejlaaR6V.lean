/- Contracts: disks copied, compared, spoilt. -/
import Derived.Test.YtiiliffoclejlaaR6U
import Derived.KernelRfl
namespace Go.AM
open Go.Proofs
set_option linter.unusedVariables false
set_option linter.unusedSimpArgs false
set_option maxRecDepth 100000
attribute [-simp] ByteArray.size_eq_zero_iff
theorem binV_nilS {t e : TypeId} (h : K.P.underlying t = some (.slice e)) (a : Addr) (n c : Nat) : binV K.P .eql t (.slice (some a) n c) (.slice none 0 0) = some (.bool false) := by
  unfold binV
  rw [if_neg (by simp [flat1, flat2]), h]
  rfl
theorem pv_bind2 {α β : Type} (P : Program) (f : α → Sem β) : ∀ (s : Sem α) (a : α), pv P s = some a → pv P (s.bind f) = pv P (f a)
  | .pure b, a, h => by cases h; rfl
  | .program k, a, h => by simp only [Sem.bind, pv] at h ⊢; exact pv_bind2 P f (k P) a h
  | .mark _ k, a, h => by simp only [Sem.bind, pv] at h ⊢; exact pv_bind2 P f k a h
theorem binV_nilN {t e : TypeId} (h : K.P.underlying t = some (.slice e)) : binV K.P .eql t (.slice none 0 0) (.slice none 0 0) = some (.bool true) := by
  unfold binV
  rw [if_pos (by simp [flat1, flat2, bothNilIface])]
  have h2 : pv K.P (Op.equalIn (9999 + 1) t (.slice none 0 0) (.slice none 0 0)) = some true := by
    unfold Op.equalIn
    refine (pv_bind2 _ _ _ (.slice e) ?_).trans ?_
    · unfold underlying
      refine (pv_bind2 _ _ _ K.P rfl).trans ?_
      rw [h]; rfl
    · rfl
  have h3 : pv K.P (binOp .eql t (.slice none 0 0) (.slice none 0 0)) = some (.bool true) := by
    show pv K.P (Sem.bind (Op.equalIn Op.maxDepth t (.slice none 0 0) (.slice none 0 0)) _) = _
    exact (pv_bind2 _ _ _ true h2).trans rfl
  have h4 : pv K.P (eqGuard .eql t (.tmp 0) (.tmp 0) (.slice none 0 0) (.slice none 0 0)) = some () := by rfl
  show flatRes (pv K.P (Sem.bind (eqGuard .eql t (.tmp 0) (.tmp 0) (.slice none 0 0) (.slice none 0 0)) fun _ => binOp .eql t (.slice none 0 0) (.slice none 0 0))) = _
  rw [pv_bind2 _ _ _ () h4, h3]; rfl
theorem undStrs : K.P.underlying tyStrs = some (.slice tyStr) := by kernel_rfl
theorem undWrs : ∃ e, K.P.underlying tyWrs = some (.slice e) := by
  have h : (match K.P.underlying tyWrs with | some (.slice _) => true | _ => false) = true := by kernel_rfl
  split at h
  · exact ⟨_, by assumption⟩
  · cases h
/-- An append to a slice of no room: what is there is copied. -/
theorem empty_app {α : Type} {enc : α → List Value} {sz n0 b : Nat} {H : Heap} {y : Value} {ys : List α} (hy : Rows enc sz H y ys) (he : ∀ x, (enc x).length = sz) (h1 : ∀ x, (enc x).all Value.oneCell' = true) {bytes : Nat} (hb : n0 ≤ b) (hbn : b < H.next)
    (h2 : ys.length * bytes ≤ 2 ^ 47) (h3 : ys.length ≤ 2 ^ 47) :
    ∃ v' H', AM.appE sz bytes (.slice (some ⟨b, 0, none⟩) 0 1) y H = some (v', H') ∧ Ext H H' ∧ OwnZ enc sz n0 H' v' ys ∧ ∀ k, k < H.next → k ≠ b → NotIn v' k := by
  rw [hy.appE he]
  by_cases hk : ys.length = 0
  · obtain rfl : ys = [] := List.eq_nil_of_length_eq_zero hk
    exact ⟨_, H, rfl, Ext.refl _, .inr ⟨rfl, b, rfl, hb, hbn⟩, fun k hk hne a n c e => by cases e; exact hne⟩
  · refine ⟨.slice (some ⟨H.next, 0, none⟩) ys.length (2 * ys.length), H.add (rowBlk sz (ys.flatMap enc)), ?_, (Ext.refl H).add _, .inl (Own.new' rfl (by omega) (by omega) rfl), fun k hk hne a n c e => by cases e; simp only; omega⟩
    unfold appV
    rw [if_neg hk]
    simp only [Nat.zero_add]
    rw [if_neg (by omega), if_pos ⟨h2, h3, one_flat h1 ys⟩]
    simp
theorem encI_one (x : Img) : (encI x).all Value.oneCell' = true := rfl
theorem OwnZ.rows {α : Type} {enc : α → List Value} {sz n0 : Nat} {H : Heap} {v : Value} {xs : List α} (h : OwnZ enc sz n0 H v xs) (he : ∀ x, (enc x).length = sz) : Rows enc sz H v xs := by
  rcases h with h | ⟨rfl, b, rfl, hb, hbn⟩
  · exact h.rows he
  · exact ⟨by simp, some ⟨b, 0, none⟩, 1, rfl, .inr ⟨b, 0, rfl, hbn, by simp, fun i hi => by simp at hi⟩⟩
theorem OwnZ.low {α : Type} {enc : α → List Value} {sz n0 m : Nat} {H : Heap} {v : Value} {xs : List α} (h : OwnZ enc sz n0 H v xs) (hm : m ≤ n0) : OwnZ enc sz m H v xs := by
  rcases h with h | ⟨rfl, b, rfl, hb, hbn⟩
  · exact .inl (h.low hm)
  · exact .inr ⟨rfl, b, rfl, by omega, hbn⟩
theorem OwnZ.nil {α : Type} {enc : α → List Value} {sz n0 : Nat} {H : Heap} : OwnZ enc sz n0 H (.slice none 0 0) ([] : List α) := .inl Own.nil
theorem OwnZ.notIn {α : Type} {enc : α → List Value} {sz n0 : Nat} {H : Heap} {v : Value} {xs : List α} (h : OwnZ enc sz n0 H v xs) {b : Nat} (hb : b < n0) : NotIn v b := by
  rcases h with h | ⟨rfl, b', rfl, hb', hbn⟩
  · exact h.notIn hb
  · intro a n c e; cases e; simp only; omega
theorem OwnZ.below {α : Type} {enc : α → List Value} {sz n0 : Nat} {H : Heap} {v : Value} {xs : List α} (h : OwnZ enc sz n0 H v xs) : BelowB v H.next := by
  rcases h with h | ⟨rfl, b', rfl, hb', hbn⟩
  · exact h.below
  · intro a n c e; cases e; exact hbn
theorem OwnZ.own {α : Type} {enc : α → List Value} {sz n0 : Nat} {H : Heap} {v : Value} {xs : List α} (h : OwnZ enc sz n0 H v xs) (hne : xs ≠ []) : Own enc sz n0 H v xs := by
  rcases h with h | ⟨rfl, _⟩
  · exact h
  · exact absurd rfl hne
theorem OwnZ.frame {α : Type} {enc : α → List Value} {sz n0 : Nat} {H H' : Heap} {v : Value} {xs : List α} (h : OwnZ enc sz n0 H v xs) (hn : H.next ≤ H'.next) (hb : ∀ b, n0 ≤ b → b < H.next → ¬ NotIn v b → H'.blk b = H.blk b) : OwnZ enc sz n0 H' v xs := by
  rcases h with h | ⟨h1, b', h2, hb', hbn⟩
  · exact .inl (h.frame hn hb)
  · exact .inr ⟨h1, b', h2, hb', by omega⟩
theorem cloneS_ok (v : Value) (xs : List ByteArray) (H : Heap) (h : Strs H v xs) (hw : xs.length ≤ 1000) : wpf (call K f_slices_Clone_string_string [v] H) fun r H' => Ext H H' ∧ OwnZ encS 1 H.next H' r xs := by
  refine open_plain rfl fc_slices_Clone_string_string rfl (Nat.le_of_ble_eq_true rfl) ?_
  obtain ⟨hl, p, c, rfl, hp⟩ := id h
  rcases hp with ⟨rfl, rfl, rfl⟩ | ⟨b, o, rfl, hb, _⟩
  · simp [binV_nilN undStrs]
    exact ⟨Ext.refl _, OwnZ.nil⟩
  · obtain ⟨v', H', c1, E1, o1, _⟩ := empty_app (n0 := H.next) (b := H.next) (H := H.add (rowBlk 1 [])) (h.ext ((Ext.refl H).add _)) encS_len encS_one (bytes := 16) (Nat.le_refl _) (by simp) (by omega) (by omega)
    simp at c1
    simp [binV_nilS undStrs, c1]
    exact ⟨((Ext.refl H).add _).trans E1, o1⟩
theorem cloneW_ok (v : Value) (xs : List Img) (H : Heap) (h : Imgs H v xs) (hw : xs.length ≤ 1000) : wpf (call K f_slices_Clone_Write [v] H) fun r H' => Ext H H' ∧ OwnZ encI 2 H.next H' r xs := by
  refine open_plain rfl fc_slices_Clone_Write rfl (Nat.le_of_ble_eq_true rfl) ?_
  obtain ⟨hl, p, c, rfl, hp⟩ := id h
  obtain ⟨_, hu⟩ := undWrs
  rcases hp with ⟨rfl, rfl, rfl⟩ | ⟨b, o, rfl, hb, _⟩
  · simp [binV_nilN hu]
    exact ⟨Ext.refl _, OwnZ.nil⟩
  · obtain ⟨v', H', c1, E1, o1, _⟩ := empty_app (n0 := H.next) (b := H.next) (H := H.add (rowBlk 2 [])) (h.ext ((Ext.refl H).add _)) encI_len encI_one (bytes := 24) (Nat.le_refl _) (by simp) (by omega) (by omega)
    simp at c1
    simp [binV_nilS hu, c1]
    exact ⟨((Ext.refl H).add _).trans E1, o1⟩
/-- A disk's value. -/
def DkR (H : Heap) (v : Value) (d : Dk) : Prop := ∃ s c, v = .agg #[s, c] ∧ Strs H s d.1 ∧ Imgs H c d.2
theorem DkR.ext {H H' : Heap} {v : Value} {d : Dk} (h : DkR H v d) (hE : Ext H H') : DkR H' v d := by
  obtain ⟨s, c, h1, h2, h3⟩ := h; exact ⟨s, c, h1, h2.ext hE, h3.ext hE⟩
theorem DkR.roAll {H : Heap} {v : Value} {d : Dk} (h : DkR H v d) : DkR H.roAll v d := by
  obtain ⟨s, c, h1, h2, h3⟩ := h; exact ⟨s, c, h1, h2.roAll, h3.roAll⟩
/-- .. of one's own. -/
def OwnD (n0 : Nat) (H : Heap) (v : Value) (d : Dk) : Prop := ∃ s c, v = .agg #[s, c] ∧ OwnZ encS 1 n0 H s d.1 ∧ OwnZ encI 2 n0 H c d.2 ∧ ∀ b, ¬ NotIn s b → NotIn c b
theorem OwnD.dk {n0 : Nat} {H : Heap} {v : Value} {d : Dk} (h : OwnD n0 H v d) : DkR H v d := by
  obtain ⟨s, c, h1, h2, h3, _⟩ := h; exact ⟨s, c, h1, h2.rows encS_len, h3.rows encI_len⟩
theorem OwnD.ext {n0 : Nat} {H H' : Heap} {v : Value} {d : Dk} (h : OwnD n0 H v d) (hE : Ext H H') : OwnD n0 H' v d := by
  obtain ⟨s, c, h1, h2, h3, h4⟩ := h; exact ⟨s, c, h1, h2.ext hE, h3.ext hE, h4⟩
theorem OwnD.low {n0 m : Nat} {H : Heap} {v : Value} {d : Dk} (h : OwnD n0 H v d) (hm : m ≤ n0) : OwnD m H v d := by
  obtain ⟨s, c, h1, h2, h3, h4⟩ := h; exact ⟨s, c, h1, h2.low hm, h3.low hm, h4⟩
theorem notIn_nil {n c b : Nat} : NotIn (.slice none n c) b := fun a n c e => by cases e
theorem OwnD.nil {n0 : Nat} {H : Heap} : OwnD n0 H (.agg #[.slice none 0 0, .slice none 0 0]) ([], []) := ⟨_, _, rfl, OwnZ.nil, OwnZ.nil, fun b _ => notIn_nil⟩
/-- Block b is none of a disk's. -/
def FarD (v : Value) (b : Nat) : Prop := ∃ s c, v = .agg #[s, c] ∧ NotIn s b ∧ NotIn c b
theorem OwnD.far {n0 b : Nat} {H : Heap} {v : Value} {d : Dk} (h : OwnD n0 H v d) (hb : b < n0) : FarD v b := by
  obtain ⟨s, c, h1, h2, h3, h4⟩ := h; exact ⟨s, c, h1, h2.notIn hb, h3.notIn hb⟩
theorem OwnD.far2 {n0 b : Nat} {H : Heap} {v : Value} {d : Dk} (h : OwnD n0 H v d) (hb : H.next ≤ b) : FarD v b := by
  obtain ⟨s, c, h1, h2, h3, h4⟩ := h; exact ⟨s, c, h1, h2.below.notIn hb, h3.below.notIn hb⟩
theorem OwnD.frame {n0 : Nat} {H H' : Heap} {v : Value} {d : Dk} (h : OwnD n0 H v d) (hn : H.next ≤ H'.next) (hb : ∀ b, n0 ≤ b → b < H.next → ¬ FarD v b → H'.blk b = H.blk b) : OwnD n0 H' v d := by
  obtain ⟨s, c, rfl, h2, h3, h4⟩ := h
  refine ⟨s, c, rfl, h2.frame hn fun b h1 h2 h3 => hb b h1 h2 ?_, h3.frame hn fun b h1 h2 h3 => hb b h1 h2 ?_, h4⟩
  · rintro ⟨s', c', e, g1, _⟩; cases e; exact h3 g1
  · rintro ⟨s', c', e, _, g1⟩; cases e; exact h3 g1
theorem copyD_ok (v : Value) (d : Dk) (H : Heap) (h : DkR H v d) (h1 : (d.1.length + 2) * 16 ≤ 140737488355328) (h2 : (d.2.length + 2) * 24 ≤ 140737488355328) : wpf (call K f_law0_CopyDisk [v] H) fun r H' => Ext H H' ∧ OwnD H.next H' r d := by
  obtain ⟨s, c, rfl, hs, hc⟩ := h
  obtain ⟨S, C⟩ := d
  simp only at hs hc h1 h2
  refine open_plain rfl fc_law0_CopyDisk rfl (Nat.le_of_ble_eq_true rfl) ?_
  obtain ⟨ps, ks, rfl⟩ := hs.slice
  obtain ⟨pc, kc, rfl⟩ := hc.slice
  obtain ⟨G0, hG0⟩ : ∃ G0, G0 = (((H.add (rowBlk 2 [.slice ps S.length ks, .slice pc C.length kc])).add (rowBlk 2 [.slice none 0 0, .slice none 0 0])).add (rowBlk 1 [])).add (rowBlk 2 []) := ⟨_, rfl⟩
  have E0 : Ext H G0 := by subst hG0; exact ((((Ext.refl H).add _).add _).add _).add _
  have n0 : G0.next = H.next + 4 := by subst hG0; simp
  obtain ⟨v1, G1, c1, E1, o1, f1⟩ := empty_app (n0 := H.next) (b := H.next + 1 + 1) (hs.ext E0) encS_len encS_one (bytes := 16) (by omega) (by omega) (by omega) (by omega)
  obtain ⟨v2, G2, c2, E2, o2, f2⟩ := empty_app (n0 := H.next) (b := H.next + 1 + 1 + 1) ((hc.ext E0).ext E1) encI_len encI_one (bytes := 24) (by omega) (by have := E1.next; omega) (by omega) (by omega)
  have k1 : G1.cell H.next 1 = some (.slice pc C.length kc) := by rw [E1.cell (by omega)]; subst hG0; simp; omega
  have k0 : G0.cell H.next 1 = some (.slice pc C.length kc) := by subst hG0; simp; omega
  have b1 : G2.blk (H.next + 1) = some (rowBlk 2 [.slice none 0 0, .slice none 0 0]) := by rw [E2.blk _ (by have := E1.next; omega), E1.blk _ (by omega)]; subst hG0; simp
  have q2 : G2.cell (H.next + 1) = (rowBlk 2 [.slice none 0 0, .slice none 0 0]).at_ := by funext o; simp only [Heap.cell, b1]
  have e1 := E1.next; have e2 := E2.next
  obtain ⟨p1, m1, hv1⟩ := (o1.rows encS_len).slice
  obtain ⟨p2, m2, hv2⟩ := (o2.rows encI_len).slice
  rw [hv1] at c1
  rw [hv2] at c2
  have x2 : ¬ H.next = H.next + 1 + 1 := by omega
  have x3 : ¬ H.next = H.next + 1 + 1 + 1 := by omega
  simp [run_regd_tr, finD_some, Chk, wanted, x2, x3, ← hG0, c1, k0, k1, c2, b1, q2]
  have hE : Ext H (G2.set (H.next + 1) (some (((rowBlk 2 [.slice none 0 0, .slice none 0 0]).put 0 (.slice p1 S.length m1)).put 1 (.slice p2 C.length m2)))) := (E0.trans (E1.trans E2)).set (by omega) _
  refine ⟨hE, .slice p1 S.length m1, .slice p2 C.length m2, rfl, ?_, ?_, ?_⟩
  · rw [← hv1]
    exact (o1.ext E2).frame (by simp) fun b _ _ hb => blk_set_ne fun e => hb (by subst e; exact f1 _ (by omega) (by omega))
  · rw [← hv2]
    exact o2.frame (by simp) fun b _ _ hb => blk_set_ne fun e => hb (by subst e; exact f2 _ (by omega) (by omega))
  · intro b hb
    rw [← hv1] at hb
    rw [← hv2]
    refine f2 b (Nat.lt_of_not_le fun h => hb (o1.below.notIn h)) fun e => hb ?_
    subst e
    exact f1 _ (by omega) (by omega)
end Go.AM
