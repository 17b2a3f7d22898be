/- AM: a row's arguments as abstract values; the call's world behind it. -/
import Derived.Test.YtiiliffoclejlaaAmOwn
import Derived.Deep.Slices
import Derived.OpenShut
import Derived.Carry
import Derived.ChangeOld
import Derived.SizedLaws
import Derived.ShutString
namespace Go.AM
open Go.ChangeShapes Go.WideShapes Go.Deep
set_option linter.unusedVariables false
/-- Nothing of this memory may be written. -/
def AllRo (H : Heap) : Prop := ∀ b B, H.blk b = some B → B.ro = true
/-- What stands for the arguments so far. -/
structure Ent (ρ : Rho) (H : Heap) (w : World) : Prop where
  hw : Hw H
  rel : RelH ρ H w
  ro : AllRo H
def rho0 : Rho := fun _ => none
def heap0 : Heap := ⟨0, fun _ => none⟩
theorem Ent.zero (w : World) : Ent rho0 heap0 w := ⟨fun _ _ => rfl, ⟨fun b L h => (by cases h), fun b L B h => (by cases h), fun b1 b2 L1 L2 B1 B2 h => (by cases h)⟩, fun b B h => (by cases h)⟩
theorem rset_le0 {ρ : Rho} {b : Nat} {L : Loc} (h : ρ b = none) : RhoLe ρ (rset ρ b L) := fun k M hk => by
  unfold rset; split
  · rename_i e; subst e; rw [h] at hk; cases hk
  · exact hk
theorem Ent.slice {ρ : Rho} {H : Heap} {w : World} (h : Ent ρ H w) (a : Addr) (hs : a.spot = none) (len cap esz : Nat) (hl : len ≤ cap) (V : Nat → Value)
    (hV : ∀ j, j < cap * esz → w.cell? ⟨a.block, a.off + j, none⟩ = some (V j)) (hf : ∀ j, j < cap * esz → flat1 (V j) = true) :
    ∃ ρ' H', Ent ρ' H' w ∧ RhoLe ρ ρ' ∧ Ext H H' ∧ H.next < H'.next ∧ V3 ρ' (.slice (some ⟨H.next, 0, none⟩) len (2 * len)) (.slice (some a) len cap) ∧ (∀ j, j < len * esz → H'.cell H.next j = some (V j)) ∧ (cap * esz = 0 ∨ H'.eszIs H.next esz = true) := by
  have hnone : ρ H.next = none := h.rel.none_ge (Nat.le_refl _)
  have haddr : a = ⟨a.block, a.off, none⟩ := by cases a; simp only at hs; subst hs; rfl
  by_cases hc : cap * esz = 0
  · -- nothing can be read
    refine ⟨rset ρ H.next ⟨a.block, a.off, 0, a.off⟩, { next := H.next + 1, blk := H.blk }, ⟨fun b hb => h.hw b (by simp at hb; omega), ⟨?_, ?_, ?_⟩, h.ro⟩, rset_le0 hnone, ⟨by simp, fun b hb => rfl⟩, by simp, ?_, ?_⟩
    · intro b L hb
      unfold rset at hb; split at hb
      · subst b; simp
      · have := h.rel.dom b L hb; simp; omega
    · intro b L B hb hB
      unfold rset at hb; split at hb
      · subst b; rw [h.hw _ (Nat.le_refl _)] at hB; cases hB
      · exact (h.rel.blk b L B hb hB).imp fun c hc => hc.imp fun t ht => ht.imp fun fr hfr => ⟨hfr.1, hfr.2.1, hfr.2.2.1, hfr.2.2.2.1, fun o v hv => by
          obtain ⟨v', h1, h2⟩ := hfr.2.2.2.2 o v hv
          exact ⟨v', h1, h2.mono (rset_le0 hnone)⟩⟩
    · intro b1 b2 L1 L2 B1 B2 hb1 hb2 hB1 hB2 hro
      have := h.ro b1 B1 hB1; rw [this] at hro; cases hro
    · refine ⟨_, a.off, cap, if_pos rfl, rfl, by rw [haddr], by omega, by omega, by omega, fun _ => by simp, by simp⟩
    · refine ⟨fun j hj => ?_, .inl hc⟩
      have : len * esz ≤ cap * esz := Nat.mul_le_mul_right _ hl
      omega
  · have hpos : 0 < cap * esz := Nat.pos_of_ne_zero hc
    have h0 := hV 0 hpos
    obtain ⟨c, t, fr, hb⟩ : ∃ c t fr, w.heap[a.block]? = some (.cells c t fr) := by
      unfold World.cell? at h0
      split at h0
      · rename_i c t fr hh; exact ⟨c, t, fr, hh⟩
      · cases h0
    have hcell : ∀ j, j < cap * esz → c[a.off + j]? = some (V j) := fun j hj => by
      have := hV j hj
      simpa [World.cell?, hb] using this
    have hsize : a.off + cap * esz ≤ c.size := by
      have := hcell (cap * esz - 1) (by omega)
      have := (Array.getElem?_eq_some_iff.1 this).1
      omega
    have hle := rset_le0 (L := ⟨a.block, c.size, esz, a.off⟩) hnone
    refine ⟨rset ρ H.next ⟨a.block, c.size, esz, a.off⟩, H.add { esz := esz, ro := true, at_ := fun o => if o < cap * esz then some (V o) else none }, ⟨fun b hb => ?_, ⟨?_, ?_, ?_⟩, ?_⟩, hle, (Ext.refl H).add _, by simp, ?_, ?_⟩
    · simp at hb; rw [blk_add, if_neg (by omega)]; exact h.hw b (by omega)
    · intro b L hb
      unfold rset at hb; split at hb
      · subst b; simp
      · have := h.rel.dom b L hb; simp; omega
    · intro b L B hL hB
      unfold rset at hL; split at hL
      · rename_i e; subst e; cases hL
        rw [blk_add, if_pos rfl] at hB; cases hB
        refine ⟨c, t, fr, hb, rfl, rfl, (fun h => by cases h), fun o v hv => ?_⟩
        simp only at hv
        split at hv
        · rename_i ho; cases hv
          exact ⟨_, by rw [Nat.add_comm]; exact hcell o ho, V1.of_flat (hf o ho)⟩
        · cases hv
      · rename_i hne
        rw [blk_add, if_neg hne] at hB
        exact (h.rel.blk b L B hL hB).imp fun c hc => hc.imp fun t ht => ht.imp fun fr hfr => ⟨hfr.1, hfr.2.1, hfr.2.2.1, hfr.2.2.2.1, fun o v hv => by
          obtain ⟨v', h1, h2⟩ := hfr.2.2.2.2 o v hv
          exact ⟨v', h1, h2.mono hle⟩⟩
    · intro b1 b2 L1 L2 B1 B2 hb1 hb2 hB1 hB2 hro
      rw [blk_add] at hB1
      split at hB1
      · cases hB1; cases hro
      · have := h.ro b1 B1 hB1; rw [this] at hro; cases hro
    · intro b B hB
      rw [blk_add] at hB
      split at hB
      · cases hB; rfl
      · exact h.ro b B hB
    · refine ⟨_, a.off, cap, if_pos rfl, rfl, by rw [haddr], by omega, by omega, by omega, fun _ => by simp, ?_⟩
      exact hsize
    · refine ⟨fun j hj => ?_, .inr (by simp [Heap.eszIs])⟩
      have : len * esz ≤ cap * esz := Nat.mul_le_mul_right _ hl
      rw [cell_add, if_pos rfl]
      simp only
      rw [if_pos (by omega)]
/-- What is read at type e is enc of something: flat cells. -/
structure Shp (P : Program) (e : TypeId) {α : Type} (enc : α → List Value) (sz : Nat) : Prop where
  cells : P.cellsOf e = sz
  len : ∀ x, (enc x).length = sz
  flat : ∀ x, (enc x).all flat1 = true
  shp : ∀ {H : Type} {en : TypeId × Value → H} {w : World} {base : Nat} {sp : Nat → Bool} {held : Bool} {fuel : Nat} {cs : List Value} {y : DataW H × List MemPlace}, DataW.trod en P w base sp held fuel e cs = some y → ∃ x, cs = enc x
theorem Ent.rows {P : Program} {e t : TypeId} {α : Type} [Inhabited α] {enc : α → List Value} {sz : Nat} (S : Shp P e enc sz) (ht : P.underlying t = some (.slice e)) {r : Reach} {base b0 : Nat} {held : Bool} {v : Value} {H : Type} {en : TypeId × Value → H} {d : DataW H} {p : List MemPlace} {w : World}
    (hval : Value.okWide P w r b0 t v) (hd : DataW.Trod en P w base (fun _ => true) held t v d p) {ρ : Rho} {A : Heap} (h : Ent ρ A w) :
    ∃ ρ' A' v' xs, Ent ρ' A' w ∧ RhoLe ρ ρ' ∧ Ext A A' ∧ V3 ρ' v' v ∧ Rows enc sz A' v' xs := by
  obtain ⟨a0, l0, c0, rfl⟩ := okWide_slice ht hval
  obtain ⟨fuel, hf⟩ := hd
  rcases open_slice ht hf with ⟨e0, _⟩ | ⟨a, len, cap, m, n, D, Pl, e0, hb, hl, hm, hmm, _, hx⟩
  · have e1 : (Value.slice a0 l0 c0) = .slice none 0 0 := by simpa [Value.cells] using e0
    cases e1
    exact ⟨ρ, A, .slice none 0 0, [], h, RhoLe.refl _, Ext.refl _, V3.of_flat rfl, Rows.nil⟩
  · have e1 : (Value.slice a0 l0 c0) = .slice (some a) len cap := by simpa [Value.cells] using e0
    obtain ⟨rfl, rfl, rfl⟩ := Value.slice.inj e1
    simp only [if_true] at hmm
    subst hmm
    have hs : a.spot = none := by
      simp only [Value.okWide, ht, Cell.okWide, Cell.ok] at hval
      exact hval.2.2.2.1
    rw [S.cells] at hx
    obtain ⟨X, hX⟩ := choose_lt (α := α) (p := fun i x => ∀ j, j < sz → w.cell? ⟨a.block, a.off + (i * sz + j), none⟩ = (enc x)[j]?) (fun i hi => by
      obtain ⟨cs', h1, h2⟩ := hx i hi
      obtain ⟨x, rfl⟩ := S.shp h2
      obtain ⟨_, _, hg⟩ := World.cells?_some h1
      refine ⟨x, fun j hj => ?_⟩
      rw [← hg j hj]
      have : (a.add (i * sz)).add j = ⟨a.block, a.off + (i * sz + j), none⟩ := by
        cases a; simp only at hs; subst hs; by_cases q1 : j = 0 <;> by_cases q2 : i * sz = 0 <;> simp [Addr.add, q1, q2, Nat.add_assoc]
      rw [this])
    have hV : ∀ j, j < m * sz → w.cell? ⟨a.block, a.off + j, none⟩ = some (((enc (X (j / sz)))[j % sz]?).getD undef) ∧ flat1 (((enc (X (j / sz)))[j % sz]?).getD undef) = true := fun j hj => by
      have hz : 0 < sz := by
        rcases Nat.eq_zero_or_pos sz with h | h
        · subst h; simp at hj
        · exact h
      have hq : j / sz < m := by rw [Nat.div_lt_iff_lt_mul hz]; exact hj
      have hmod : j % sz < sz := Nat.mod_lt _ hz
      have e : j / sz * sz + j % sz = j := by rw [Nat.mul_comm]; exact Nat.div_add_mod j sz
      have h1 := hX _ hq _ hmod
      rw [e] at h1
      have hlen := S.len (X (j / sz))
      have hg : (enc (X (j / sz)))[j % sz]? = some ((enc (X (j / sz)))[j % sz]'(by omega)) := List.getElem?_eq_getElem _
      rw [hg] at h1 ⊢
      refine ⟨h1, ?_⟩
      exact List.all_eq_true.1 (S.flat (X (j / sz))) _ (List.getElem_mem _)
    obtain ⟨ρ', A', g1, g2, g3, g4, g5, g6, g7⟩ := h.slice a hs l0 m sz hl (fun j => ((enc (X (j / sz)))[j % sz]?).getD undef) (fun j hj => (hV j hj).1) (fun j hj => (hV j hj).2)
    have hml : maxLen = 9223372036854775807 := by decide
    have hlim : ((List.range l0).map X).length ≤ 9223372036854775807 := by simp; omega
    refine ⟨ρ', A', _, (List.range l0).map X, g1, g2, g3, g5, ⟨hlim, some ⟨A.next, 0, none⟩, 2 * l0, by simp, .inr ⟨A.next, 0, rfl, g4, by simp, fun i hi j hj => ?_⟩⟩⟩
    simp at hi
    have hlt : i * sz + j < l0 * sz := by
      have : (i + 1) * sz ≤ l0 * sz := Nat.mul_le_mul_right _ hi
      rw [Nat.succ_mul] at this; omega
    rw [Nat.zero_add, g6 _ hlt]
    have hz : 0 < sz := by omega
    have hdiv : (i * sz + j) / sz = i := by rw [Nat.mul_comm, Nat.mul_add_div hz, Nat.div_eq_of_lt hj]; rfl
    have hmod : (i * sz + j) % sz = j := by rw [Nat.mul_comm, Nat.mul_add_mod, Nat.mod_eq_of_lt hj]
    rw [hdiv, hmod]
    have hlen := S.len (X i)
    have hg : (enc (X i))[j]? = some ((enc (X i))[j]'(by omega)) := List.getElem?_eq_getElem _
    simp [hg]
theorem Ent.rows2 {P : Program} {e t : TypeId} {α : Type} [Inhabited α] {enc : α → List Value} {sz : Nat} (S : Shp P e enc sz) (ht : P.underlying t = some (.slice e)) {r : Reach} {base b0 : Nat} {held : Bool} {v : Value} {H : Type} {en : TypeId × Value → H} {d : DataW H} {p : List MemPlace} {w : World}
    (hval : Value.okWide P w r b0 t v) (hd : DataW.Trod en P w base (fun _ => true) held t v d p) (hwt : (d.weights P t).all (· ≤ reachBytes) = true) (hsz0 : 0 < sz) {ρ : Rho} {A : Heap} (h : Ent ρ A w) :
    ∃ ρ' A' v' xs, Ent ρ' A' w ∧ RhoLe ρ ρ' ∧ Ext A A' ∧ V3 ρ' v' v ∧ Rows enc sz A' v' xs ∧ (∀ b o n c, v' = .slice (some ⟨b, o, none⟩) n c → n = 0 ∨ A'.eszIs b sz = true) ∧ xs.length * P.bytesOf e ≤ reachBytes := by
  obtain ⟨a0, l0, c0, rfl⟩ := okWide_slice ht hval
  obtain ⟨fuel, hf⟩ := hd
  rcases open_slice ht hf with ⟨e0, _⟩ | ⟨a, len, cap, m, n, D, Pl, e0, hb, hl, hm, hmm, hdd, hx⟩
  · have e1 : (Value.slice a0 l0 c0) = .slice none 0 0 := by simpa [Value.cells] using e0
    cases e1
    exact ⟨ρ, A, .slice none 0 0, [], h, RhoLe.refl _, Ext.refl _, V3.of_flat rfl, Rows.nil, (fun b o n c h => by cases h), by simp⟩
  · have e1 : (Value.slice a0 l0 c0) = .slice (some a) len cap := by simpa [Value.cells] using e0
    obtain ⟨rfl, rfl, rfl⟩ := Value.slice.inj e1
    simp only [if_true] at hmm
    subst hmm
    have hs : a.spot = none := by
      simp only [Value.okWide, ht, Cell.okWide, Cell.ok] at hval
      exact hval.2.2.2.1
    rw [S.cells] at hx
    obtain ⟨X, hX⟩ := choose_lt (α := α) (p := fun i x => ∀ j, j < sz → w.cell? ⟨a.block, a.off + (i * sz + j), none⟩ = (enc x)[j]?) (fun i hi => by
      obtain ⟨cs', h1, h2⟩ := hx i hi
      obtain ⟨x, rfl⟩ := S.shp h2
      obtain ⟨_, _, hg⟩ := World.cells?_some h1
      refine ⟨x, fun j hj => ?_⟩
      rw [← hg j hj]
      have : (a.add (i * sz)).add j = ⟨a.block, a.off + (i * sz + j), none⟩ := by
        cases a; simp only at hs; subst hs; by_cases q1 : j = 0 <;> by_cases q2 : i * sz = 0 <;> simp [Addr.add, q1, q2, Nat.add_assoc]
      rw [this])
    have hV : ∀ j, j < m * sz → w.cell? ⟨a.block, a.off + j, none⟩ = some (((enc (X (j / sz)))[j % sz]?).getD undef) ∧ flat1 (((enc (X (j / sz)))[j % sz]?).getD undef) = true := fun j hj => by
      have hz : 0 < sz := by
        rcases Nat.eq_zero_or_pos sz with h | h
        · subst h; simp at hj
        · exact h
      have hq : j / sz < m := by rw [Nat.div_lt_iff_lt_mul hz]; exact hj
      have hmod : j % sz < sz := Nat.mod_lt _ hz
      have e : j / sz * sz + j % sz = j := by rw [Nat.mul_comm]; exact Nat.div_add_mod j sz
      have h1 := hX _ hq _ hmod
      rw [e] at h1
      have hlen := S.len (X (j / sz))
      have hg : (enc (X (j / sz)))[j % sz]? = some ((enc (X (j / sz)))[j % sz]'(by omega)) := List.getElem?_eq_getElem _
      rw [hg] at h1 ⊢
      refine ⟨h1, ?_⟩
      exact List.all_eq_true.1 (S.flat (X (j / sz))) _ (List.getElem_mem _)
    obtain ⟨ρ', A', g1, g2, g3, g4, g5, g6, g7⟩ := h.slice a hs l0 m sz hl (fun j => ((enc (X (j / sz)))[j % sz]?).getD undef) (fun j hj => (hV j hj).1) (fun j hj => (hV j hj).2)
    have hml : maxLen = 9223372036854775807 := by decide
    have hlim : ((List.range l0).map X).length ≤ 9223372036854775807 := by simp; omega
    refine ⟨ρ', A', _, (List.range l0).map X, g1, g2, g3, g5, ?_, ?_, ?_⟩
    rotate_left
    · intro b o n c h
      cases h
      refine g7.imp (fun h => ?_) id
      rcases Nat.mul_eq_zero.1 h with h | h
      · omega
      · omega
    · have e1 := congrArg Prod.fst hdd
      simp only at e1
      rw [e1] at hwt
      simp only [DataW.weights, ht, List.all_cons, Bool.and_eq_true, decide_eq_true_eq] at hwt
      refine Nat.le_trans (Nat.mul_le_mul_right _ ?_) hwt.1
      simp
    refine ⟨hlim, some ⟨A.next, 0, none⟩, 2 * l0, by simp, .inr ⟨A.next, 0, rfl, g4, by simp, fun i hi j hj => ?_⟩⟩
    simp at hi
    have hlt : i * sz + j < l0 * sz := by
      have : (i + 1) * sz ≤ l0 * sz := Nat.mul_le_mul_right _ hi
      rw [Nat.succ_mul] at this; omega
    rw [Nat.zero_add, g6 _ hlt]
    have hz : 0 < sz := by omega
    have hdiv : (i * sz + j) / sz = i := by rw [Nat.mul_comm, Nat.mul_add_div hz, Nat.div_eq_of_lt hj]; rfl
    have hmod : (i * sz + j) % sz = j := by rw [Nat.mul_comm, Nat.mul_add_mod, Nat.mod_eq_of_lt hj]
    rw [hdiv, hmod]
    have hlen := S.len (X i)
    have hg : (enc (X i))[j]? = some ((enc (X i))[j]'(by omega)) := List.getElem?_eq_getElem _
    simp [hg]
/-- A struct whose fields are one cell each. -/
theorem struct_cells {P : Program} {t : TypeId} {fs : Array Field} (ht : P.underlying t = some (.struct fs)) (hf : ∀ (i : Nat) (f : Field), fs[i]? = some f → f.offset = i ∧ P.cellsOf f.type = 1) (hn : P.cellsOf t = fs.size)
    {H : Type} {en : TypeId × Value → H} {w : World} {base : Nat} {sp : Nat → Bool} {held : Bool} {fuel : Nat} {cs : List Value} {y : DataW H × List MemPlace} (h : DataW.trod en P w base sp held fuel t cs = some y) :
    cs.length = fs.size ∧ ∀ (i : Nat) (f : Field), fs[i]? = some f → ∃ v n y', cs[i]? = some v ∧ DataW.trod en P w base sp held n f.type [v] = some y' := by
  obtain ⟨xs, n, _, rfl, hl, hlen, hx⟩ := DataW.trod_struct ht h
  refine ⟨hl.trans hn, fun i f hi => ?_⟩
  obtain ⟨ho, hc⟩ := hf i f hi
  have hlt := (Array.getElem?_eq_some_iff.1 hi).1
  have h1 := hx i f hi
  rw [ho, hc] at h1
  have hci : i < cs.length := by rw [hl, hn]; exact hlt
  have e : (cs.drop i).take 1 = [cs[i]] := by rw [List.drop_eq_getElem_cons hci]; rfl
  rw [e, List.getElem?_eq_getElem (by omega)] at h1
  exact ⟨cs[i], n, _, List.getElem?_eq_getElem hci, h1⟩
theorem Shp.text {P : Program} {e : TypeId} (ht : P.underlying e = some .string) (hc : P.cellsOf e = 1) : Shp P e (fun s : ByteArray => [Value.string s]) 1 :=
  ⟨hc, fun _ => rfl, fun _ => rfl, fun h => by obtain ⟨s, rfl, _⟩ := DataW.trod_string ht h; exact ⟨s, rfl⟩⟩
/-! ### arguments behind the call: they read as they did -/
open Go.RowKit in
def rowed (P : Program) (ts : List TypeId) : Bool := ts.all fun t => P.readableRec t && decide (t < P.types.size)

section
open Go.RowKit Go.WideElems
variable {H : Type} {enc : TypeId × Value → H} {P : Program}

theorem args_stay (hl : laidOutB P = true) {W W' : World} (hb : Below W.heap.size W W') : ∀ {ts : List TypeId} {vs : List Value} {ds : List (DataW H)} {ps : List MemPlace}, rowed P ts = true →
    DataW.TrodAll enc P W 0 (fun _ => true) true ts vs ds ps → DataW.TrodAll enc P W' 0 (fun b => decide (b < W.heap.size)) true ts vs ds ps
  | [], [], [], _, _, h => h
  | [], [], _ :: _, _, _, h => h.elim
  | [], _ :: _, [], _, _, h => h.elim
  | [], _ :: _, _ :: _, _, _, h => h.elim
  | _ :: _, [], [], _, _, h => h.elim
  | _ :: _, [], _ :: _, _, _, h => h.elim
  | t :: ts, v :: vs, [], _, _, h => h.elim
  | t :: ts, v :: vs, d :: ds, ps, hr, h => by
    have hlt := h.lt
    obtain ⟨p, q, h1, h2, e⟩ := h
    simp only [rowed, List.all_cons, Bool.and_eq_true, decide_eq_true_eq] at hr
    have hp : ∀ x ∈ p, x.block < W.heap.size := fun x hx => hlt x (by rw [e]; simp [hx])
    exact ⟨p, q, Trod_stays hl hr.1.1 hr.1.2 h1 (fun x hx => hb.same (hp x hx)) (fun x hx => by simpa using hp x hx), args_stay hl hb hr.2 h2, e⟩

end

/-- The call of a law: true, and nothing below the old memory's end has turned. -/
theorem law_calls {K : Cfg} (hK : KOk K) {f : FuncId} {args args' : List Value} {ρ : Rho} {A A' : Heap} {w : World} (h : Ent ρ A w) (ha : All2 (V3 ρ) args args') (hc : call K f args A = some (.bool true, A')) :
    Calls K.P f args'.toArray w fun e w' => e = .returned (.bool true) ∧ Go.RowKit.Below w.heap.size w w' := by
  refine (call_sound hK hc h.hw h.rel ha).mono fun e w' he => ?_
  obtain ⟨v', ρ', rfl, hv, hadv⟩ := he
  obtain ⟨_, rfl⟩ := hv
  refine ⟨rfl, hadv.os, hadv.tape, hadv.output, hadv.size, fun cb hcb => hadv.keep cb hcb fun b L B hL hB hro => ?_⟩
  have := h.ro b B hB; rw [this] at hro; cases hro
theorem V3.bool' {ρ : Rho} (b : Bool) : V3 ρ (.bool b) (.bool b) := V3.of_flat rfl
theorem V3.int' {ρ : Rho} (k : IntKind) (n : Int) : V3 ρ (.int k n) (.int k n) := V3.of_flat rfl
theorem V3.string' {ρ : Rho} (s : ByteArray) : V3 ρ (.string s) (.string s) := V3.of_flat rfl
end Go.AM
