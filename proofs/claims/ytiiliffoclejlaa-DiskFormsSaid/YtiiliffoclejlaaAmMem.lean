/- AM: reading and writing rows of cells, on both sides. -/
import Derived.Test.YtiiliffoclejlaaAmRel
import Derived.Laws.Cells
namespace Go.AM
set_option linter.unusedVariables false
set_option linter.unusedSimpArgs false

theorem add_at (g o n : Nat) : (⟨g, o, none⟩ : Addr).add n = ⟨g, o + n, none⟩ := by unfold Addr.add; split <;> simp_all
theorem V3.ptr_inv {ρ : Rho} {b o : Nat} {v' : Value} (h : V3 ρ (.pointer (some ⟨b, o, none⟩)) v') : ∃ L, ρ b = some L ∧ v' = .pointer (some ⟨L.blk, o + L.shift, none⟩) := by
  obtain ⟨L, h1, _, h2⟩ := h; exact ⟨L, h1, h2⟩
theorem V3.slice_inv {ρ : Rho} {b o n c : Nat} {v' : Value} (h : V3 ρ (.slice (some ⟨b, o, none⟩) n c) v') : ∃ L o' c', ρ b = some L ∧ v' = .slice (some ⟨L.blk, o', none⟩) n c' ∧
    n ≤ c / 2 ∧ c / 2 ≤ c' ∧ (c % 2 = 1 → c' = c / 2) ∧ (0 < c / 2 → o' = o + L.shift) ∧ o' + c' * L.esz ≤ L.size := by
  obtain ⟨L, o', c', h1, _, h2⟩ := h; exact ⟨L, o', c', h1, h2⟩
theorem V3.nil_inv {ρ : Rho} {n c : Nat} {v' : Value} (h : V3 ρ (.slice none n c) v') : n = 0 ∧ c = 0 ∧ v' = .slice none 0 0 := by
  obtain ⟨h1, h2⟩ := h
  have h1' : (n == 0 && c == 0) = true := h1
  simp only [Bool.and_eq_true, beq_iff_eq] at h1'
  obtain ⟨rfl, rfl⟩ := h1'
  exact ⟨rfl, rfl, h2⟩
theorem V3.int_inv {ρ : Rho} {k : IntKind} {n : Int} {v' : Value} (h : V3 ρ (.int k n) v') : v' = .int k n := h.2
theorem V3.bool_inv {ρ : Rho} {b : Bool} {v' : Value} (h : V3 ρ (.bool b) v') : v' = .bool b := h.2
theorem V3.string_inv {ρ : Rho} {s : ByteArray} {v' : Value} (h : V3 ρ (.string s) v') : v' = .string s := h.2
theorem V3.agg_inv {ρ : Rho} {cs : Array Value} {v' : Value} (h : V3 ρ (.agg cs) v') : ∃ cs', v' = .agg cs' ∧ All2 (V1 ρ) cs.toList cs'.toList := h
theorem V3.tuple_inv {ρ : Rho} {cs : Array Value} {v' : Value} (h : V3 ρ (.tuple cs) v') : ∃ cs', v' = .tuple cs' ∧ All2 (V2 ρ) cs.toList cs'.toList := h
theorem V3.func_inv {ρ : Rho} {f : FuncId} {first cap : Array Value} {v' : Value} (h : V3 ρ (.func (.func f) first cap) v') : first = #[] ∧ ∃ cap', v' = .func (.func f) #[] cap' ∧ All2 (V0 ρ) cap.toList cap'.toList := by
  obtain ⟨_, h1, h2⟩ := h; exact ⟨h1, h2⟩
theorem V3.ptr {ρ : Rho} {b o : Nat} {L : Loc} (h : ρ b = some L) : V3 ρ (ptr b o) (.pointer (some ⟨L.blk, o + L.shift, none⟩)) := ⟨L, h, rfl, rfl⟩
theorem V1.three {ρ : Rho} {v v' : Value} (h : V1 ρ v v') : V3 ρ v v' := h.two.three
theorem V3.cells {ρ : Rho} {v v' : Value} (h : V3 ρ v v') (h1 : v.cells.toList.all Value.oneCell' = true) : All2 (V1 ρ) v.cells.toList v'.cells.toList := by
  cases v
  case tuple vs => simp [Value.cells, Value.oneCell'] at h1
  case pointer a => exact V2.cells (v := .pointer a) h
  case slice a n c => exact V2.cells (v := .slice a n c) h
  case func fn first cap => exact V2.cells (v := .func fn first cap) h
  case agg cs => exact V2.cells (v := .agg cs) h
  case bool b => exact V2.cells (v := .bool b) h
  case int k n => exact V2.cells (v := .int k n) h
  case float k n => exact V2.cells (v := .float k n) h
  case complex k a b => exact V2.cells (v := .complex k a b) h
  case string s => exact V2.cells (v := .string s) h
  case map r => exact V2.cells (v := .map r) h
  case chan r => exact V2.cells (v := .chan r) h
  case nilFunc => exact V2.cells (v := .nilFunc) h
  case iface t v => exact V2.cells (v := .iface t v) h
  case nilIface => exact V2.cells (v := .nilIface) h

/-! ### reading -/
theorem cell_sound {ρ : Rho} {H : Heap} {w : World} (hr : RelH ρ H w) {b o : Nat} {v : Value} (h : H.cell b o = some v) {L : Loc} (hb : ρ b = some L) :
    ∃ v', w.cell? ⟨L.blk, o + L.shift, none⟩ = some v' ∧ V1 ρ v v' := by
  unfold Heap.cell at h
  cases hB : H.blk b with
  | none => rw [hB] at h; cases h
  | some B =>
    rw [hB] at h
    obtain ⟨c, t, fr, h1, _, _, _, h2⟩ := hr.blk b L B hb hB
    obtain ⟨v', h3, h4⟩ := h2 o v h
    exact ⟨v', by simp [World.cell?, h1, h3], h4⟩
theorem row_length {H : Heap} {b : Nat} : ∀ (n o : Nat) {vs : List Value}, H.row b o n = some vs → vs.length = n
  | 0, o, vs, h => by simp [Heap.row] at h; subst h; rfl
  | n + 1, o, vs, h => by
    simp only [Heap.row] at h
    split at h
    · split at h
      · rename_i hr; cases h; simp [row_length n _ hr]
      · cases h
    · cases h
theorem row_get {H : Heap} {b : Nat} : ∀ (n o : Nat) {vs : List Value}, H.row b o n = some vs → ∀ j, j < n → H.cell b (o + j) = vs[j]?
  | 0, o, vs, h, j, hj => by omega
  | n + 1, o, vs, h, j, hj => by
    simp only [Heap.row] at h
    split at h
    · rename_i v hc
      split at h
      · rename_i hr; cases h
        cases j with
        | zero => simpa using hc
        | succ j => have := row_get n _ hr j (by omega); rw [show o + (j + 1) = o + 1 + j by omega, this]; simp
      · cases h
    · cases h
theorem row_of {H : Heap} {b : Nat} : ∀ (n o : Nat) {vs : List Value}, vs.length = n → (∀ j, j < n → H.cell b (o + j) = vs[j]?) → H.row b o n = some vs
  | 0, o, vs, hl, h => by cases vs <;> simp_all [Heap.row]
  | n + 1, o, [], hl, h => by simp at hl
  | n + 1, o, v :: vs, hl, h => by
    have h0 := h 0 (by omega)
    simp only [Heap.row]
    rw [show H.cell b o = some v by simpa using h0, row_of n (o + 1) (vs := vs) (by simpa using hl) (fun j hj => by have := h (j + 1) (by omega); rw [show o + 1 + j = o + (j + 1) by omega, this]; simp)]
theorem row_sound {ρ : Rho} {H : Heap} {w : World} (hr : RelH ρ H w) {b : Nat} {L : Loc} (hb : ρ b = some L) : ∀ (n o : Nat) {vs : List Value}, H.row b o n = some vs →
    ∃ vs', All2 (V1 ρ) vs vs' ∧ vs'.length = n ∧ ∀ j v, vs'[j]? = some v → w.cell? ((⟨L.blk, o + L.shift, none⟩ : Addr).add j) = some v
  | 0, o, vs, h => by simp [Heap.row] at h; subst h; exact ⟨[], trivial, rfl, fun j v h => by simp at h⟩
  | n + 1, o, vs, h => by
    simp only [Heap.row] at h
    split at h
    · rename_i v hc
      split at h
      · rename_i ws hrow; cases h
        obtain ⟨v', h1, h2⟩ := cell_sound hr hc hb
        obtain ⟨vs', h3, h4, h5⟩ := row_sound hr hb n (o + 1) hrow
        refine ⟨v' :: vs', ⟨h2, h3⟩, by simp [h4], fun j u hu => ?_⟩
        cases j with
        | zero => simp at hu; subst hu; rw [add_at]; exact h1
        | succ j =>
          have := h5 j u (by simpa using hu)
          rw [add_at] at this ⊢
          rw [show o + L.shift + (j + 1) = o + 1 + L.shift + j by omega]; exact this
      · cases h
    · cases h
theorem run_row {P : Program} {w : World} {a : Addr} {vs : List Value} {n : Nat} (hl : vs.length = n) (h : ∀ j v, vs[j]? = some v → w.cell? (a.add j) = some v) : (loadCells a n).run P w = .ok vs.toArray w := by
  subst hl; exact run_loadCells_list (P := P) w a vs h

/-! ### writing -/
def putsA (c : Array Value) : Nat → List Value → Array Value
  | _, [] => c
  | o, v :: vs => putsA (c.setIfInBounds o v) (o + 1) vs
theorem putsA_size : ∀ (vs : List Value) (o : Nat) (c : Array Value), (putsA c o vs).size = c.size
  | [], _, _ => rfl
  | v :: vs, o, c => by simp [putsA, putsA_size vs]
theorem putsA_out : ∀ (vs : List Value) (o : Nat) (c : Array Value) (i : Nat), i < o ∨ o + vs.length ≤ i → (putsA c o vs)[i]? = c[i]?
  | [], _, _, _, _ => rfl
  | v :: vs, o, c, i, h => by
    simp only [putsA]
    rw [putsA_out vs (o + 1) _ i (by simp at h; omega), Array.getElem?_setIfInBounds_ne (by simp at h; omega)]
theorem putsA_in : ∀ (vs : List Value) (o : Nat) (c : Array Value) (i : Nat), o + vs.length ≤ c.size → i < vs.length → (putsA c o vs)[o + i]? = vs[i]?
  | [], _, _, _, _, h => by simp at h
  | v :: vs, o, c, 0, hl, h => by
    simp only [putsA]
    rw [putsA_out vs (o + 1) _ (o + 0) (by omega)]
    simp at hl
    simp [Array.getElem?_setIfInBounds_self_of_lt (show o < c.size by omega)]
  | v :: vs, o, c, i + 1, hl, h => by
    simp only [putsA]
    simp at hl h
    have := putsA_in vs (o + 1) (c.setIfInBounds o v) i (by simp; omega) h
    rw [show o + (i + 1) = o + 1 + i by omega, this]; simp
def wput (w : World) (g : Nat) (c : Array Value) (t : TypeId) (fr : Nat × Nat) : World := { w with heap := w.heap.setIfInBounds g (.cells c t fr) }
theorem wput_self {w : World} {g : Nat} {c : Array Value} {t : TypeId} {fr : Nat × Nat} (h : w.heap[g]? = some (.cells c t fr)) : wput w g c t fr = w := by
  unfold wput
  have : w.heap.setIfInBounds g (.cells c t fr) = w.heap := by
    apply Array.ext_getElem?
    intro i
    by_cases e : i = g
    · subst e; rw [Array.getElem?_setIfInBounds_self_of_lt (Array.getElem?_eq_some_iff.1 h).1, h]
    · rw [Array.getElem?_setIfInBounds_ne (by omega)]
  rw [this]
theorem wput_heap {w : World} {g : Nat} {c0 c : Array Value} {t0 t : TypeId} {fr0 fr : Nat × Nat} (h : w.heap[g]? = some (.cells c0 t0 fr0)) : (wput w g c t fr).heap[g]? = some (.cells c t fr) :=
  Array.getElem?_setIfInBounds_self_of_lt (Array.getElem?_eq_some_iff.1 h).1
theorem wput_other {w : World} {g k : Nat} {c : Array Value} {t : TypeId} {fr : Nat × Nat} (h : k ≠ g) : (wput w g c t fr).heap[k]? = w.heap[k]? := Array.getElem?_setIfInBounds_ne (by omega)
theorem wput_wput {w : World} {g : Nat} {c d : Array Value} {t : TypeId} {fr : Nat × Nat} : wput (wput w g c t fr) g d t fr = wput w g d t fr := by
  unfold wput
  congr 1
  apply Array.ext_getElem?
  intro i
  by_cases e : i = g
  · subst e
    by_cases hl : i < w.heap.size
    · rw [Array.getElem?_setIfInBounds_self_of_lt (by simpa using hl), Array.getElem?_setIfInBounds_self_of_lt hl]
    · simp [Array.getElem?_eq_none (Nat.le_of_not_lt hl), Array.getElem?_setIfInBounds, hl]
  · rw [Array.getElem?_setIfInBounds_ne (by omega), Array.getElem?_setIfInBounds_ne (by omega), Array.getElem?_setIfInBounds_ne (by omega)]
theorem setCell_wput {w : World} {g o : Nat} {c : Array Value} {t : TypeId} {fr : Nat × Nat} {v : Value} (h : w.heap[g]? = some (.cells c t fr)) : w.setCell ⟨g, o, none⟩ v = wput w g (c.setIfInBounds o v) t fr := by
  unfold World.setCell wput
  congr 1
  apply Array.ext_getElem?
  intro i
  rw [Array.getElem?_modify]
  by_cases e : g = i
  · subst e
    rw [if_pos rfl, Array.getElem?_setIfInBounds_self_of_lt (Array.getElem?_eq_some_iff.1 h).1, h]; rfl
  · rw [if_neg e, Array.getElem?_setIfInBounds_ne e]
theorem run_store_at {P : Program} {w : World} {g o : Nat} {c : Array Value} {t : TypeId} {fr : Nat × Nat} {v : Value} (h : w.heap[g]? = some (.cells c t fr)) (hf : fr.2 ≤ fr.1 ∨ c.size ≤ fr.1) (hl : o < c.size) (h1 : v.oneCell' = true) :
    (store ⟨g, o, none⟩ v).run P w = .ok () (wput w g (c.setIfInBounds o v) t fr) := by
  have hc : w.cell? ⟨g, o, none⟩ = some c[o] := by simp [World.cell?, h, hl]
  have hz : w.frozen? ⟨g, o, none⟩ = false := by
    obtain ⟨lo, hi⟩ := fr
    simp only at hf
    simp only [World.frozen?, h, Bool.and_eq_false_iff, decide_eq_false_iff_not]
    omega
  rw [run_store P w _ v _ h1, hc]
  simp [hz, setCell_wput h]
theorem run_storeCells_w {P : Program} (g o : Nat) (t : TypeId) (fr : Nat × Nat) : ∀ (vs : List Value) (i : Nat) (c : Array Value) (w : World), w.heap[g]? = some (.cells c t fr) → (fr.2 ≤ fr.1 ∨ c.size ≤ fr.1) → o + i + vs.length ≤ c.size →
    (∀ v ∈ vs, v.oneCell' = true) → (storeCells ⟨g, o, none⟩ vs i).run P w = .ok () (wput w g (putsA c (o + i) vs) t fr)
  | [], i, c, w, h, _, _, _ => by simp only [storeCells, putsA, wput_self h]; rfl
  | v :: vs, i, c, w, h, hf, hl, h1 => by
    simp at hl
    have hs := run_store_at (P := P) (o := o + i) h hf (by omega) (h1 v (by simp))
    have ih := run_storeCells_w (P := P) g o t fr vs (i + 1) (c.setIfInBounds (o + i) v) (wput w g (c.setIfInBounds (o + i) v) t fr) (wput_heap h) (by simpa using hf) (by simp; omega) (fun x hx => h1 x (by simp [hx]))
    simp only [storeCells, add_at, Sem.run_bind, hs, Result.andThen_ok, ih, wput_wput, putsA]
    rfl
theorem puts_out {B : Blk} : ∀ (vs : List Value) (o : Nat) (B : Blk) (i : Nat), i < o ∨ o + vs.length ≤ i → (B.puts o vs).at_ i = B.at_ i
  | [], _, _, _, _ => rfl
  | v :: vs, o, B, i, h => by
    simp only [Blk.puts]
    rw [puts_out (B := B) vs (o + 1) _ i (by simp at h; omega)]
    have : i ≠ o := by simp at h; omega
    simp [Blk.put, this]
theorem puts_in {B : Blk} : ∀ (vs : List Value) (o : Nat) (B : Blk) (i : Nat), i < vs.length → (B.puts o vs).at_ (o + i) = vs[i]?
  | [], _, _, _, h => by simp at h
  | v :: vs, o, B, 0, h => by
    simp only [Blk.puts]
    rw [puts_out (B := B) vs (o + 1) _ (o + 0) (by omega)]
    simp [Blk.put]
  | v :: vs, o, B, i + 1, h => by
    simp only [Blk.puts]
    simp at h
    have := puts_in (B := B) vs (o + 1) (B.put o v) i h
    rw [show o + (i + 1) = o + 1 + i by omega, this]; simp
theorem puts_esz : ∀ (vs : List Value) (o : Nat) (B : Blk), (B.puts o vs).esz = B.esz ∧ (B.puts o vs).ro = B.ro
  | [], _, _ => ⟨rfl, rfl⟩
  | v :: vs, o, B => by simp only [Blk.puts]; have := puts_esz vs (o + 1) (B.put o v); exact this
/-- A store, on both sides. -/
theorem store_sound {ρ : Rho} {H H' : Heap} {w : World} (hr : RelH ρ H w) {b o base : Nat} {vs vs' : List Value} (hs : H.store b o vs = some H') {L : Loc} (hb : ρ b = some L) (hbase : base ≤ H.next) (hv : All2 (V1 ρ) vs vs') (P : Program) :
    ∃ w', (storeCells ⟨L.blk, o + L.shift, none⟩ vs').run P w = .ok () w' ∧ Adv base ρ H w ρ H' w' := by
  cases hvs : vs with
  | nil =>
    subst hvs
    obtain rfl := hv.nil_left
    simp only [Heap.store] at hs
    cases hs
    exact ⟨w, rfl, Adv.refl hr⟩
  | cons v0 vt =>

    have hs' : (match H.blk b with
      | some B => if B.ro = false ∧ (H.row b o vs.length).isSome = true ∧ vs.all Value.oneCell' = true then some (H.set b (some (B.puts o vs))) else none
      | none => none) = some H' := by rw [← hs, hvs]; rfl
    cases hB : H.blk b with
    | none => rw [hB] at hs'; cases hs'
    | some B =>
      rw [hB] at hs'
      simp only at hs'
      split at hs'
      · rename_i hcond
        obtain ⟨hro, hrow, hone⟩ := hcond
        cases hs'
        obtain ⟨rs, hrs⟩ := Option.isSome_iff_exists.1 hrow
        obtain ⟨c, t, fr, h1, h2, h3, h4, h5⟩ := hr.blk b L B hb hB
        have hlen : vs.length = vs'.length := hv.length
        have hpos : 0 < vs.length := by rw [hvs]; simp
        have hfit : o + L.shift + vs'.length ≤ c.size := by
          have hlast := row_get _ _ hrs (vs.length - 1) (by omega)
          have hl2 := row_length _ _ hrs
          have : ∃ x, rs[vs.length - 1]? = some x := ⟨_, List.getElem?_eq_getElem (by omega)⟩
          obtain ⟨x, hx⟩ := this
          rw [hx] at hlast
          simp only [Heap.cell, hB] at hlast
          obtain ⟨y, hy, _⟩ := h5 _ _ hlast
          have := (Array.getElem?_eq_some_iff.1 hy).1
          omega
        have hone' : ∀ v ∈ vs', v.oneCell' = true := by
          intro v hv'
          obtain ⟨i, hi, hiv⟩ := List.mem_iff_getElem.1 hv'
          have hi2 : i < vs.length := by omega
          obtain ⟨y, hy, hV⟩ := hv.get (List.getElem?_eq_getElem hi2)
          rw [List.getElem?_eq_getElem hi] at hy
          cases hy
          rw [← hiv]; exact hV.oneCell.2
        have hrun := run_storeCells_w (P := P) L.blk (o + L.shift) t fr vs' 0 c w h1 (h4 hro) (by simpa using hfit) hone'
        refine ⟨_, hrun, ?_⟩
        have hother : ∀ k, k ≠ b → (H.set b (some (B.puts o vs))).blk k = H.blk k := fun k hk => by simp [Heap.set, hk]
        have hself : (H.set b (some (B.puts o vs))).blk b = some (B.puts o vs) := by simp [Heap.set]
        have hpz := puts_esz vs o B
        refine ⟨RhoLe.refl _, ⟨fun k M hk => hr.dom k M hk, ?_, ?_⟩, rfl, rfl, rfl, by simp [wput], ?_, ?_, (fun k M h h' => by rw [h] at h'; cases h'), Nat.le_refl _, ?_⟩
        · intro k M C hk hC
          by_cases e : k = b
          · subst e
            rw [hb] at hk; cases hk
            rw [hself] at hC; cases hC
            refine ⟨putsA c (o + L.shift + 0) vs', t, fr, wput_heap h1, by rw [putsA_size]; exact h2, by rw [hpz.1]; exact h3, fun _ => by rw [putsA_size]; exact h4 hro, fun i v hiv => ?_⟩
            by_cases hin : o ≤ i ∧ i < o + vs.length
            · obtain ⟨j, rfl⟩ : ∃ j, i = o + j := ⟨i - o, by omega⟩
              rw [puts_in (B := B) vs o B j (by omega)] at hiv
              obtain ⟨y, hy, hV⟩ := hv.get hiv
              refine ⟨y, ?_, hV⟩
              rw [show o + j + L.shift = o + L.shift + 0 + j by omega, putsA_in vs' _ c j (by simpa using hfit) (by omega), hy]
            · rw [puts_out (B := B) vs o B i (by omega)] at hiv
              obtain ⟨y, hy, hV⟩ := h5 i v hiv
              exact ⟨y, by rw [putsA_out vs' _ c _ (by omega)]; exact hy, hV⟩
          · rw [hother k e] at hC
            have hne : M.blk ≠ L.blk := fun he => e (hr.inj b k L M B C hb hk hB hC hro he.symm).symm
            obtain ⟨c', t', fr', g1, g2⟩ := hr.blk k M C hk hC
            exact ⟨c', t', fr', by rw [wput_other hne]; exact g1, g2⟩
        · intro k1 k2 M1 M2 C1 C2 g1 g2 g3 g4 g5 g6
          have f : ∀ k C, (H.set b (some (B.puts o vs))).blk k = some C → ∃ C', H.blk k = some C' ∧ C'.ro = C.ro := fun k C hC => by
            by_cases e : k = b
            · subst e; rw [hself] at hC; cases hC; exact ⟨B, hB, hpz.2.symm⟩
            · rw [hother k e] at hC; exact ⟨C, hC, rfl⟩
          obtain ⟨D1, hD1, hr1⟩ := f k1 C1 g3
          obtain ⟨D2, hD2, _⟩ := f k2 C2 g4
          exact hr.inj k1 k2 M1 M2 D1 D2 g1 g2 hD1 hD2 (hr1.trans g5) g6
        · intro cb hcb hno
          exact wput_other (fun e => hno b L B hb hB hro e.symm)
        · intro k hk h0
          refine ⟨h0, hother k fun e => ?_⟩
          subst e; rw [hb] at h0; cases h0
        · intro k M B' hk hB'
          by_cases e : k = b
          · subst e; rw [hself] at hB'; cases hB'; exact ⟨B, hB, hpz.2.symm, hpz.1.symm⟩
          · rw [hother k e] at hB'; exact ⟨B', hB', rfl, rfl⟩
      · cases hs'
end Go.AM
