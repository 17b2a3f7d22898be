import Derived.Test.YtbgidagbogpfkaaR7Aw
import Derived.Test.YtbgidagbogpfkaaAg2
/- The arguments of the forest's laws: rows of snapshots, each with its row of files. -/
namespace Go.AM
open Go.Proofs Go.ChangeShapes Go.WideShapes Go.Deep
set_option linter.unusedVariables false
set_option linter.unusedSimpArgs false
set_option maxRecDepth 100000
attribute [-simp] ByteArray.size_eq_zero_iff
/-- A row of flat elements: nothing asked of the cell that holds it. -/
theorem Ent.rowsT {P : Program} {e t : TypeId} {α : Type} [Inhabited α] {enc : α → List Value} {sz : Nat} (S : Shp P e enc sz) (ht : P.underlying t = some (.slice e)) {base : Nat} {held : Bool} {v : Value} {H : Type} {en : TypeId × Value → H} {y : DataW H × List MemPlace} {fuel : Nat} {w : World}
    (hf : DataW.trod en P w base (fun _ => true) held fuel t [v] = some y) (hsz0 : 0 < sz) {ρ : Rho} {A : Heap} (h : Ent ρ A w) :
    ∃ ρ' A' v' xs, Ent ρ' A' w ∧ RhoLe ρ ρ' ∧ Ext A A' ∧ V1 ρ' v' v ∧ Rows enc sz A' v' xs ∧ ∃ D : Nat → DataW H, ∃ sp : List (DataW H), (xs = [] ∨ y.1 = .slice ((List.range xs.length).map D) sp) ∧
      ∀ (i : Nat) (hi : i < xs.length), ∃ n p, DataW.trod en P w base (fun _ => true) held n e (enc xs[i]) = some (D i, p) := by
  rcases open_slice ht hf with ⟨e0, _⟩ | ⟨a, len, cap, m, n, D, Pl, e0, hb, hl, hm, hmm, hdd, hx⟩
  · obtain rfl : v = .slice none 0 0 := by simpa using e0
    exact ⟨ρ, A, .slice none 0 0, [], h, RhoLe.refl _, Ext.refl _, V1.of_flat rfl, Rows.nil, fun _ => .nil, [], .inl rfl, fun i hi => absurd hi (by simp)⟩
  · obtain rfl : v = .slice (some a) len cap := by simpa using e0
    simp only [if_true] at hmm
    subst hmm
    rw [S.cells] at hx
    have hs : 0 < m → a.spot = none := fun hm0 => by
      obtain ⟨cs', h1, _⟩ := hx 0 hm0
      obtain ⟨_, hlen, hg⟩ := World.cells?_some h1
      have h2 := hg 0 hsz0
      have h3 : cs'[0]? = some (cs'[0]'(by omega)) := List.getElem?_eq_getElem _
      rw [h3] at h2
      have h4 := World.cell?_spot h2
      rw [Nat.zero_mul] at h4
      simpa [Addr.add] using h4
    obtain ⟨X, hX⟩ := choose_lt (α := α) (p := fun i x => (∀ j, j < sz → w.cell? ⟨a.block, a.off + (i * sz + j), none⟩ = (enc x)[j]?) ∧ DataW.trod en P w base (fun _ => true) held n e (enc x) = some (D i, Pl i)) (fun i hi => by
      obtain ⟨cs', h1, h2⟩ := hx i hi
      obtain ⟨x, rfl⟩ := S.shp h2
      obtain ⟨_, _, hg⟩ := World.cells?_some h1
      refine ⟨x, fun j hj => ?_, h2⟩
      rw [← hg j hj]
      have hs := hs (by omega)
      have : (a.add (i * sz)).add j = ⟨a.block, a.off + (i * sz + j), none⟩ := by
        cases a; simp only at hs; subst hs; by_cases q1 : j = 0 <;> by_cases q2 : i * sz = 0 <;> simp [Addr.add, q1, q2, Nat.add_assoc]
      rw [this])
    have hV : ∀ j, j < m * sz → w.cell? ⟨a.block, a.off + j, none⟩ = some (((enc (X (j / sz)))[j % sz]?).getD undef) ∧ flat1 (((enc (X (j / sz)))[j % sz]?).getD undef) = true := fun j hj => by
      have hz : 0 < sz := hsz0
      have hq : j / sz < m := by rw [Nat.div_lt_iff_lt_mul hz]; exact hj
      have hmod : j % sz < sz := Nat.mod_lt _ hz
      have e : j / sz * sz + j % sz = j := by rw [Nat.mul_comm]; exact Nat.div_add_mod j sz
      have h1 := (hX _ hq).1 _ hmod
      rw [e] at h1
      have hlen := S.len (X (j / sz))
      have hg : (enc (X (j / sz)))[j % sz]? = some ((enc (X (j / sz)))[j % sz]'(by omega)) := List.getElem?_eq_getElem _
      rw [hg] at h1 ⊢
      refine ⟨h1, ?_⟩
      exact List.all_eq_true.1 (S.flat (X (j / sz))) _ (List.getElem_mem _)
    obtain ⟨ρ', A', g1, g2, g3, g4, g5, g6, g7⟩ := h.sliceG a len m sz hs hl (fun j => ((enc (X (j / sz)))[j % sz]?).getD undef) (fun j => ((enc (X (j / sz)))[j % sz]?).getD undef) (fun j hj => (hV j hj).1) (fun j hj => V1.of_flat (hV j hj).2)
    have hml : maxLen = 9223372036854775807 := by decide
    have hlim : ((List.range len).map X).length ≤ 9223372036854775807 := by simp; omega
    refine ⟨ρ', A', .slice (some ⟨A.next, 0, none⟩) len (2 * len), (List.range len).map X, g1, g2, g3, g5, ?_, D, (List.range (m - len)).map fun j => D (len + j), .inr (by rw [hdd]; simp), fun i hi => ?_⟩
    rotate_left
    · simp at hi
      exact ⟨n, Pl i, by simpa using (hX i (by omega)).2⟩
    refine ⟨hlim, some ⟨A.next, 0, none⟩, 2 * len, by simp, .inr ⟨A.next, 0, rfl, g4, by simp, fun i hi j hj => ?_⟩⟩
    simp at hi
    have hlt : i * sz + j < len * sz := by
      have : (i + 1) * sz ≤ len * sz := Nat.mul_le_mul_right _ hi
      rw [Nat.succ_mul] at this; omega
    rw [Nat.zero_add, g6 _ hlt]
    have hz : 0 < sz := by omega
    have hdiv : (i * sz + j) / sz = i := by rw [Nat.mul_comm, Nat.mul_add_div hz, Nat.div_eq_of_lt hj]; rfl
    have hmod : (i * sz + j) % sz = j := by rw [Nat.mul_comm, Nat.mul_add_mod, Nat.mod_eq_of_lt hj]
    rw [hdiv, hmod]
    have hlen := S.len (X i)
    have hg : (enc (X i))[j]? = some ((enc (X i))[j]'(by omega)) := List.getElem?_eq_getElem _
    simp [hg]
/-- A struct of one-cell fields: each field's cell, and its weights. -/
theorem struct_weights {P : Program} {t : TypeId} {fs : Array Field} (ht : P.underlying t = some (.struct fs)) (hf : ∀ (i : Nat) (f : Field), fs[i]? = some f → f.offset = i ∧ P.cellsOf f.type = 1) (hn : P.cellsOf t = fs.size)
    {H : Type} {en : TypeId × Value → H} {w : World} {base : Nat} {sp : Nat → Bool} {held : Bool} {fuel : Nat} {cs : List Value} {y : DataW H × List MemPlace} (h : DataW.trod en P w base sp held fuel t cs = some y) (hw : (y.1.weights P t).all (· ≤ reachBytes) = true) :
    cs.length = fs.size ∧ ∀ (i : Nat) (f : Field), fs[i]? = some f → ∃ v n y', cs[i]? = some v ∧ DataW.trod en P w base sp held n f.type [v] = some y' ∧ (y'.1.weights P f.type).all (· ≤ reachBytes) = true := by
  obtain ⟨xs, n, _, rfl, hl, hlen, hx⟩ := DataW.trod_struct ht h
  refine ⟨hl.trans hn, fun i f hi => ?_⟩
  obtain ⟨ho, hc⟩ := hf i f hi
  have hlt := (Array.getElem?_eq_some_iff.1 hi).1
  have h1 := hx i f hi
  rw [ho, hc] at h1
  have hci : i < cs.length := by rw [hl, hn]; exact hlt
  have e : (cs.drop i).take 1 = [cs[i]] := by rw [List.drop_eq_getElem_cons hci]; rfl
  rw [e, List.getElem?_eq_getElem (by omega)] at h1
  refine ⟨cs[i], n, _, List.getElem?_eq_getElem hci, h1, ?_⟩
  simp only [DataW.weights, ht] at hw
  rw [List.all_eq_true] at hw ⊢
  exact fun m hm => hw m (DataW.weights_mem_each (j := i) (t := f.type) (d := xs[i].1) (by simp [hi]) (by simp [List.getElem?_eq_getElem (show i < xs.length by omega)]) m hm)
theorem weights_all {H : Type} {P : Program} {e : TypeId} : ∀ {ds : List (DataW H)} {d : DataW H}, d ∈ ds → ∀ n ∈ d.weights P e, n ∈ DataW.weightsAll P e ds
  | d0 :: ds, d, h, n, hn => by
    simp only [DataW.weightsAll, List.mem_append]
    rcases List.mem_cons.1 h with rfl | h
    · exact .inl hn
    · exact .inr (weights_all h n hn)
theorem slice_weights {H : Type} {P : Program} {t e : TypeId} (ht : P.underlying t = some (.slice e)) {xs sp : List (DataW H)} (hw : ((DataW.slice xs sp).weights P t).all (· ≤ reachBytes) = true) : xs.length * P.bytesOf e ≤ reachBytes ∧ ∀ d ∈ xs, (d.weights P e).all (· ≤ reachBytes) = true := by
  simp only [DataW.weights, ht, List.all_cons, Bool.and_eq_true, decide_eq_true_eq] at hw
  refine ⟨Nat.le_trans (Nat.mul_le_mul_right _ (by omega)) hw.1, fun d hd => ?_⟩
  have h2 := hw.2
  rw [List.all_eq_true] at h2 ⊢
  exact fun n hn => h2 n (List.mem_append.2 (.inl (weights_all hd n hn)))
theorem size_weight {s : ByteArray} {H : Type} {P : Program} {t : TypeId} (h : ((DataW.lit (.string s.data.toList) : DataW H).weights P t).all (· ≤ reachBytes) = true) : s.size ≤ 140737488351232 := by
  simp only [DataW.weights, List.all_cons, List.all_nil, Bool.and_true, decide_eq_true_eq] at h
  have e : reachBytes = 140737488351232 := by decide
  rw [e, Array.length_toList] at h
  exact h
/-! ### this program's -/
instance : Inhabited Fil := ⟨⟨⟨#[]⟩, ⟨#[]⟩, false⟩⟩
instance : Inhabited Inf := ⟨⟨⟨#[]⟩, 0, ⟨#[]⟩, ⟨#[]⟩, []⟩⟩
theorem shpFil : Shp Try.prog 51 encF 3 :=
  ⟨by kernel_rfl, encF_len, fun _ => rfl, fun {H en w base sp held fuel cs y} h => by
    obtain ⟨hl, hf⟩ := struct_cells Try.underlying51 (fun i f hi => by
      match i, hi with
      | 0, hi => cases hi; exact ⟨rfl, by kernel_rfl⟩
      | 1, hi => cases hi; exact ⟨rfl, by kernel_rfl⟩
      | 2, hi => cases hi; exact ⟨rfl, by kernel_rfl⟩
      | i + 3, hi => simp at hi) (by kernel_rfl) h
    obtain ⟨v, n, y1, e1, t1⟩ := hf 0 _ rfl
    obtain ⟨v', n', y2, e2, t2⟩ := hf 1 _ rfl
    obtain ⟨v'', n'', y3, e3, t3⟩ := hf 2 _ rfl
    obtain ⟨a, ha, _⟩ := DataW.trod_string Try.underlying9 t1
    obtain ⟨b, hb, _⟩ := DataW.trod_string Try.underlying9 t2
    obtain ⟨c, hc, _⟩ := DataW.trod_bool Try.underlying4 t3
    cases ha; cases hb; cases hc
    match cs, hl, e1, e2, e3 with
    | [_, _, _], _, e1, e2, e3 => cases e1; cases e2; cases e3; exact ⟨⟨a, b, c⟩, rfl⟩⟩
theorem by51 : Try.prog.bytesOf 51 = 40 := by kernel_rfl
theorem by45 : Try.prog.bytesOf 45 = 80 := by kernel_rfl
theorem rb7 : reachBytes = 140737488351232 := by decide
theorem cl45 : Try.prog.cellsOf 45 = 5 := by kernel_rfl
/-- A file's cells: its texts are no longer than a memory bears. -/
theorem fil_weight {W : World} {H : Type} {en : TypeId × Value → H} {base : Nat} {sp : Nat → Bool} {held : Bool} {fuel : Nat} {x : Fil} {y : DataW H × List MemPlace} (h : DataW.trod en Try.prog W base sp held fuel 51 (encF x) = some y) (hw : (y.1.weights Try.prog 51).all (· ≤ reachBytes) = true) : FilZ x ∧ x.content.size ≤ 140737488355328 := by
  obtain ⟨_, hf⟩ := struct_weights Try.underlying51 (fun i f hi => by
      match i, hi with
      | 0, hi => cases hi; exact ⟨rfl, by kernel_rfl⟩
      | 1, hi => cases hi; exact ⟨rfl, by kernel_rfl⟩
      | 2, hi => cases hi; exact ⟨rfl, by kernel_rfl⟩
      | i + 3, hi => simp at hi) (by kernel_rfl) h hw
  obtain ⟨v, n, y1, e1, t1, w1⟩ := hf 0 _ rfl
  obtain ⟨v', n', y2, e2, t2, w2⟩ := hf 1 _ rfl
  cases e1; cases e2
  obtain ⟨a, ha, hy, _⟩ := DataW.trod_string Try.underlying9 t1
  obtain ⟨b, hb, hy2, _⟩ := DataW.trod_string Try.underlying9 t2
  cases ha; cases hb
  rw [hy] at w1
  rw [hy2] at w2
  have h1 := size_weight w1
  have h2 := size_weight w2
  exact ⟨by unfold FilZ; omega, by omega⟩
/-- What a snapshot of the arguments is. -/
structure InfOk (A : Heap) (ρ : Rho) (x : Inf × Value) (c : Value) : Prop where
  v1 : V1 ρ x.2 c
  fils : Fils A x.2 x.1.files
  z : InfZ x.1
  c : ∀ f ∈ x.1.files, f.content.size ≤ 140737488355328
  len : x.1.files.length * 40 ≤ 140737488351232
theorem InfOk.mono {A A' : Heap} {ρ ρ' : Rho} {x : Inf × Value} {c : Value} (h : InfOk A ρ x c) (hE : Ext A A') (hr : RhoLe ρ ρ') : InfOk A' ρ' x c := ⟨h.v1.mono hr, h.fils.ext hE, h.z, h.c, h.len⟩
theorem entInfo {W : World} {H : Type} {en : TypeId × Value → H} {base : Nat} {held : Bool} {fuel : Nat} {cs : List Value} {y : DataW H × List MemPlace} (h : DataW.trod en Try.prog W base (fun _ => true) held fuel 45 cs = some y) (hw : (y.1.weights Try.prog 45).all (· ≤ reachBytes) = true) {ρ : Rho} {A : Heap} (hE : Ent ρ A W) :
    ∃ ρ' A', ∃ x : Inf × Value, ∃ c, Ent ρ' A' W ∧ RhoLe ρ ρ' ∧ Ext A A' ∧ cs = encP (x.1, c) ∧ InfOk A' ρ' x c := by
  obtain ⟨hl, hf⟩ := struct_weights Try.underlying45 (fun i f hi => by
      match i, hi with
      | 0, hi => cases hi; exact ⟨rfl, by kernel_rfl⟩
      | 1, hi => cases hi; exact ⟨rfl, by kernel_rfl⟩
      | 2, hi => cases hi; exact ⟨rfl, by kernel_rfl⟩
      | 3, hi => cases hi; exact ⟨rfl, by kernel_rfl⟩
      | 4, hi => cases hi; exact ⟨rfl, by kernel_rfl⟩
      | i + 5, hi => simp at hi) (by kernel_rfl) h hw
  obtain ⟨v0, n0, y0, e0, t0, w0⟩ := hf 0 _ rfl
  obtain ⟨v1, n1, y1, e1, t1, w1⟩ := hf 1 _ rfl
  obtain ⟨v2, n2, y2, e2, t2, w2⟩ := hf 2 _ rfl
  obtain ⟨v3, n3, y3, e3, t3, w3⟩ := hf 3 _ rfl
  obtain ⟨v4, n4, y4, e4, t4, w4⟩ := hf 4 _ rfl
  obtain ⟨nm, ha, hy, _⟩ := DataW.trod_string Try.underlying9 t0
  obtain ⟨kd, hb, _⟩ := DataW.trod_int Try.underlying3 t1
  obtain ⟨pa, hc, _⟩ := DataW.trod_string Try.underlying9 t2
  obtain ⟨lb, hd, _⟩ := DataW.trod_string Try.underlying9 t3
  cases ha; cases hb; cases hc; cases hd
  rw [hy] at w0
  have s0 := size_weight w0
  obtain ⟨ρ', A', v', xs, g1, g2, g3, g4, g5, D, sp, g6, g7⟩ := Ent.rowsT shpFil Try.underlying43 t4 (by decide) hE
  have hfs : xs.length * 40 ≤ 140737488351232 ∧ ∀ f ∈ xs, FilZ f ∧ f.content.size ≤ 140737488355328 := by
    rcases g6 with rfl | g6
    · exact ⟨by simp, fun f hf => by cases hf⟩
    · rw [g6] at w4
      obtain ⟨h1, h2⟩ := slice_weights Try.underlying43 w4
      rw [by51, rb7, List.length_map, List.length_range] at h1
      refine ⟨h1, fun f hf => ?_⟩
      obtain ⟨i, hi, rfl⟩ := List.mem_iff_getElem.1 hf
      obtain ⟨n, p, hn⟩ := g7 i hi
      exact fil_weight hn (h2 _ (List.mem_map.2 ⟨i, List.mem_range.2 hi, rfl⟩))
  refine ⟨ρ', A', (⟨nm, kd, pa, lb, xs⟩, v'), v4, g1, g2, g3, ?_, ⟨g4, g5, ⟨by show nm.size ≤ _; omega, fun f hf => (hfs.2 f hf).1⟩, fun f hf => (hfs.2 f hf).2, hfs.1⟩⟩
  match cs, hl, e0, e1, e2, e3, e4 with
  | [_, _, _, _, _], _, e0, e1, e2, e3, e4 => cases e0; cases e1; cases e2; cases e3; cases e4; rfl
/-- Snapshots one behind the other, each with its row of files. -/
theorem entInfs {W : World} {H : Type} {en : TypeId × Value → H} {base : Nat} {held : Bool} {n : Nat} {D : Nat → DataW H} {Pl : Nat → List MemPlace} (cs : Nat → List Value) : ∀ (m : Nat), (∀ i, i < m → DataW.trod en Try.prog W base (fun _ => true) held n 45 (cs i) = some (D i, Pl i)) → (∀ i, i < m → ((D i).weights Try.prog 45).all (· ≤ reachBytes) = true) → ∀ {ρ : Rho} {A : Heap}, Ent ρ A W →
    ∃ ρ' A', ∃ x : Nat → Inf × Value, ∃ c : Nat → Value, Ent ρ' A' W ∧ RhoLe ρ ρ' ∧ Ext A A' ∧ ∀ i, i < m → cs i = encP ((x i).1, c i) ∧ InfOk A' ρ' (x i) (c i)
  | 0, _, _, ρ, A, h => ⟨ρ, A, fun _ => default, fun _ => undef, h, RhoLe.refl _, Ext.refl _, fun i hi => absurd hi (by omega)⟩
  | m + 1, h1, h2, ρ, A, h => by
    obtain ⟨ρ1, A1, x, c, g1, g2, g3, g4⟩ := entInfs cs m (fun i hi => h1 i (by omega)) (fun i hi => h2 i (by omega)) h
    obtain ⟨ρ2, A2, x2, c2, k1, k2, k3, k4, k5⟩ := entInfo (h1 m (by omega)) (h2 m (by omega)) g1
    refine ⟨ρ2, A2, fun i => if i = m then x2 else x i, fun i => if i = m then c2 else c i, k1, g2.trans k2, g3.trans k3, fun i hi => ?_⟩
    by_cases e : i = m
    · subst e; simp only [if_pos]; exact ⟨k4, k5⟩
    · simp only [if_neg e]
      obtain ⟨q1, q2⟩ := g4 i (by omega)
      exact ⟨q1, q2.mono k3 k2⟩
/-- The texts too are no longer than a memory bears. -/
def FoC (rs : List (Inf × Value)) : Prop := ∀ p ∈ rs, ∀ f ∈ p.1.files, f.content.size ≤ 140737488355328
theorem entI {W : World} {r : Reach} {b0 : Nat} {H : Type} {en : TypeId × Value → H} {v : Value} {d : DataW H} {p : List MemPlace} {ρ : Rho} {A : Heap} (hv : Value.okWide Try.prog W r b0 22 v) (h : DataW.Trod en Try.prog W 0 (fun _ => true) true 22 v d p) (hw : (d.weights Try.prog 22).all (· ≤ reachBytes) = true) (hE : Ent ρ A W) :
    ∃ ρ' A' u, ∃ rs : List (Inf × Value), Ent ρ' A' W ∧ RhoLe ρ ρ' ∧ Ext A A' ∧ V3 ρ' u v ∧ Fo A' u rs ∧ (FoZ rs ∧ FoW rs ∧ FoC rs) := by
  obtain ⟨a0, l0, c0, rfl⟩ := okWide_slice Try.underlying22 hv
  obtain ⟨fuel, hf⟩ := h
  rcases open_slice Try.underlying22 hf with ⟨e0, _⟩ | ⟨a, len, cap, m, n, D, Pl, e0, hb, hl, hm, hmm, hdd, hx⟩
  · have e1 : (Value.slice a0 l0 c0) = .slice none 0 0 := by simpa [Value.cells] using e0
    cases e1
    exact ⟨ρ, A, .slice none 0 0, [], hE, RhoLe.refl _, Ext.refl _, V3.of_flat rfl, ⟨Rows.nil, fun p hp => by cases hp⟩, ⟨by simp, fun p hp => by cases hp⟩, ⟨by simp, fun p hp => by cases hp⟩, fun p hp => by cases hp⟩
  · have e1 : (Value.slice a0 l0 c0) = .slice (some a) len cap := by simpa [Value.cells] using e0
    obtain ⟨rfl, rfl, rfl⟩ := Value.slice.inj e1
    simp only [if_true] at hmm
    subst hmm
    have hs : a.spot = none := by
      simp only [Value.okWide, Try.underlying22, Cell.okWide, Cell.ok] at hv
      exact hv.2.2.2.1
    have hdd1 : d = .slice ((List.range l0).map D) ((List.range (m - l0)).map fun j => D (l0 + j)) := congrArg Prod.fst hdd
    rw [hdd1] at hw
    have hwD : ∀ i, i < m → ((D i).weights Try.prog 45).all (· ≤ reachBytes) = true := by
      simp only [DataW.weights, Try.underlying22, List.all_cons, Bool.and_eq_true, decide_eq_true_eq] at hw
      have h2 := hw.2
      intro i hi
      rw [List.all_eq_true] at h2 ⊢
      intro k hk
      refine h2 k (List.mem_append.2 ?_)
      by_cases hil : i < l0
      · exact .inl (weights_all (List.mem_map.2 ⟨i, List.mem_range.2 hil, rfl⟩) k hk)
      · exact .inr (weights_all (List.mem_map.2 ⟨i - l0, List.mem_range.2 (by omega), by rw [show l0 + (i - l0) = i by omega]⟩) k hk)
    have hlen := (slice_weights Try.underlying22 hw).1
    rw [by45, rb7, List.length_map, List.length_range] at hlen
    rw [cl45] at hx
    obtain ⟨cs, hcs⟩ := choose_lt (α := List Value) (p := fun i cs => cs.length = 5 ∧ (∀ j, j < 5 → W.cell? ⟨a.block, a.off + (i * 5 + j), none⟩ = cs[j]?) ∧ DataW.trod en Try.prog W 0 (fun _ => true) true n 45 cs = some (D i, Pl i)) (fun i hi => by
      obtain ⟨cs', h1, h2⟩ := hx i hi
      obtain ⟨_, hl5, hg⟩ := World.cells?_some h1
      refine ⟨cs', hl5, fun j hj => ?_, h2⟩
      rw [← hg j hj]
      have : (a.add (i * 5)).add j = ⟨a.block, a.off + (i * 5 + j), none⟩ := by
        cases a; simp only at hs; subst hs; by_cases q1 : j = 0 <;> by_cases q2 : i * 5 = 0 <;> simp [Addr.add, q1, q2, Nat.add_assoc]
      rw [this])
    obtain ⟨ρ1, A1, x, c, g1, g2, g3, g4⟩ := entInfs cs m (fun i hi => (hcs i hi).2.2) hwD hE
    have hV : ∀ j, j < m * 5 → W.cell? ⟨a.block, a.off + j, none⟩ = some (((encP ((x (j / 5)).1, c (j / 5)))[j % 5]?).getD undef) ∧ V1 ρ1 (((encP (x (j / 5)))[j % 5]?).getD undef) (((encP ((x (j / 5)).1, c (j / 5)))[j % 5]?).getD undef) := fun j hj => by
      have hq : j / 5 < m := by omega
      have hmod : j % 5 < 5 := by omega
      have e : j / 5 * 5 + j % 5 = j := by omega
      obtain ⟨k1, k2, _⟩ := hcs _ hq
      obtain ⟨k3, k4⟩ := g4 _ hq
      have h1 := k2 _ hmod
      rw [e, k3] at h1
      generalize x (j / 5) = X at *
      generalize c (j / 5) = C at *
      generalize j % 5 = r at *
      refine ⟨?_, ?_⟩
      · rw [h1]
        match r, hmod with
        | 0, _ => rfl
        | 1, _ => rfl
        | 2, _ => rfl
        | 3, _ => rfl
        | 4, _ => rfl
      · match r, hmod with
        | 0, _ => exact V1.of_flat rfl
        | 1, _ => exact V1.of_flat rfl
        | 2, _ => exact V1.of_flat rfl
        | 3, _ => exact V1.of_flat rfl
        | 4, _ => exact k4.v1
    obtain ⟨ρ', A', k1, k2, k3, k4, k5, k6, k7⟩ := g1.sliceG a l0 m 5 (fun _ => hs) hl (fun j => ((encP (x (j / 5)))[j % 5]?).getD undef) (fun j => ((encP ((x (j / 5)).1, c (j / 5)))[j % 5]?).getD undef) (fun j hj => (hV j hj).1) (fun j hj => (hV j hj).2)
    have hmem : ∀ p ∈ (List.range l0).map x, ∃ i, i < l0 ∧ p = x i := fun p hp => by
      obtain ⟨i, hi, rfl⟩ := List.mem_map.1 hp
      exact ⟨i, List.mem_range.1 hi, rfl⟩
    refine ⟨ρ', A', .slice (some ⟨A1.next, 0, none⟩) l0 (2 * l0), (List.range l0).map x, k1, g2.trans k2, g3.trans k3, k5, ⟨⟨?_, some ⟨A1.next, 0, none⟩, 2 * l0, by simp, .inr ⟨A1.next, 0, rfl, k4, by simp, fun i hi j hj => ?_⟩⟩, fun p hp => ?_⟩, ⟨?_, fun p hp => ?_⟩, ⟨?_, fun p hp => ?_⟩, fun p hp => ?_⟩
    · simp; omega
    · simp at hi
      rw [Nat.zero_add, k6 _ (by omega)]
      have hdiv : (i * 5 + j) / 5 = i := by omega
      have hmod : (i * 5 + j) % 5 = j := by omega
      rw [hdiv, hmod]
      simp only [List.getElem_map, List.getElem_range]
      match j, hj with
      | 0, _ => rfl
      | 1, _ => rfl
      | 2, _ => rfl
      | 3, _ => rfl
      | 4, _ => rfl
    · obtain ⟨i, hi, rfl⟩ := hmem p hp
      exact ((g4 i (by omega)).2.fils).ext k3
    · simp; omega
    · obtain ⟨i, hi, rfl⟩ := hmem p hp
      have := (g4 i (by omega)).2
      have h2 := this.len
      exact ⟨this.z, by omega⟩
    · simp; omega
    · obtain ⟨i, hi, rfl⟩ := hmem p hp
      have := (g4 i (by omega)).2.len
      omega
    · obtain ⟨i, hi, rfl⟩ := hmem p hp
      exact (g4 i (by omega)).2.c
end Go.AM
