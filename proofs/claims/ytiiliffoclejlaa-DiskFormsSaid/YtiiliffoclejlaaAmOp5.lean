/- AM: operations that write; calls. -/
import Derived.Test.YtiiliffoclejlaaAmOp4
import Derived.Deep.AppendSrc
namespace Go.AM
set_option linter.unusedVariables false
set_option linter.unusedSimpArgs false
def CallOk (P : Program) (C : CallF) : Prop := ∀ f args H v H', C f args H = some (v, H') → ∀ ρ args' w, Hw H → RelH ρ H w → All2 (V3 ρ) args args' →
  Calls P f args'.toArray w fun e w' => ∃ v' ρ', e = .returned v' ∧ V3 ρ' v v' ∧ Adv H.next ρ H w ρ' H' w'
section
variable {P : Program} {w : World}
/-- A block is forgotten. -/
theorem Adv.kill {base : Nat} {ρ : Rho} {H : Heap} (hr : RelH ρ H w) {b : Nat} {L : Loc} (hb : ρ b = some L) : Adv base ρ H w ρ (H.set b none) w where
  ext := RhoLe.refl _
  rel := ⟨fun k M hk => hr.dom k M hk, fun k M C hk hC => by
      have e : k ≠ b := fun e => by subst e; simp [Heap.set] at hC
      simp [Heap.set, e] at hC
      exact hr.blk k M C hk hC,
    fun k1 k2 M1 M2 C1 C2 g1 g2 g3 g4 g5 g6 => by
      have e1 : k1 ≠ b := fun e => by subst e; simp [Heap.set] at g3
      have e2 : k2 ≠ b := fun e => by subst e; simp [Heap.set] at g4
      simp [Heap.set, e1] at g3
      simp [Heap.set, e2] at g4
      exact hr.inj k1 k2 M1 M2 C1 C2 g1 g2 g3 g4 g5 g6⟩
  os := rfl
  tape := rfl
  output := rfl
  size := Nat.le_refl _
  keep := fun _ _ _ => rfl
  ghost := fun k hk h0 => ⟨h0, by
    have e : k ≠ b := fun e => by subst e; rw [hb] at h0; cases h0
    simp [Heap.set, e]⟩
  fresh := fun k L h h' => by rw [h] at h'; cases h'
  next := Nat.le_refl _
  back := fun k M B' hk hB' => by
    have e : k ≠ b := fun e => by subst e; simp [Heap.set] at hB'
    simp [Heap.set, e] at hB'
    exact ⟨B', hB', rfl, rfl⟩
theorem growBy_le (need : Nat) (h : 256 ≤ need) : ∀ (r c : Nat), c ≤ 2 * need → Builtin.growBy need r c ≤ 2 * need
  | 0, c, hc => hc
  | r + 1, c, hc => by
    simp only [Builtin.growBy]
    split
    · exact hc
    · exact growBy_le need h r _ (by omega)
theorem nextcap_le (need old : Nat) (h : old < need) : Builtin.nextslicecap need old ≤ 2 * need := by
  unfold Builtin.nextslicecap
  split
  · omega
  · split
    · omega
    · exact growBy_le need (by omega) 4 old (by omega)

theorem elems_sound {ρ : Rho} {H : Heap} (hr : RelH ρ H w) {esz k : Nat} {y y' : Value} {ys : List Value} {tx : TypeId} (hk : (∃ e', P.underlying tx = some (.slice e')) ∨ P.underlying tx = some .string) (hy : V3 ρ y y') (hl : strLen y = some k) (h : elems H esz k y = some ys) :
    ∃ ys', All2 (V1 ρ) ys ys' ∧ ys.length = k * esz ∧ Src P esz tx y' k ys' w := by
  have mk : ∀ ys', All2 (V1 ρ) ys ys' → ys.length = k * esz → (∀ w' : World, (Builtin.lenOf y').run P w' = .ok k w') → (∀ w' : World, w'.heap = w.heap → (Builtin.firstCells esz k y').run P w' = .ok ys'.toArray w') →
      ∃ ys', All2 (V1 ρ) ys ys' ∧ ys.length = k * esz ∧ Src P esz tx y' k ys' w := by
    intro ys' h1 h2 h3 h4
    refine ⟨ys', h1, h2, hk, h3, h4 w rfl, h4 w.drew rfl, by rw [← h1.length, h2], fun u hu => ?_⟩
    obtain ⟨i, hi, hiv⟩ := List.mem_iff_getElem.1 hu
    have hi2 : i < ys.length := by rw [h1.length]; exact hi
    obtain ⟨z, hz, hV⟩ := h1.get (List.getElem?_eq_getElem hi2)
    rw [List.getElem?_eq_getElem hi] at hz
    cases hz
    rw [← hiv]; exact hV.oneCell.2
  unfold elems at h
  split at h
  · rename_i b o n c
    simp only [strLen, Option.some.injEq] at hl
    subst hl
    obtain ⟨L, o', c', q1, rfl, q3, q4, q5, q6, q7⟩ := hy.slice_inv
    obtain ⟨ys', g1, g2, g3⟩ := row_sound hr q1 _ _ h
    refine mk ys' g1 (row_length _ _ h) (fun _ => rfl) fun w' hw' => ?_
    have hcell : ∀ a, w'.cell? a = w.cell? a := fun a => by simp [World.cell?, hw']
    by_cases h0 : 0 < n * esz
    · have hn : 0 < n := by rcases Nat.eq_zero_or_pos n with h | h; rw [h] at h0; simp at h0; exact h
      simp only [Builtin.firstCells]
      rw [q6 (by omega)]
      exact run_row g2 fun j v hv => by rw [hcell]; exact g3 j v hv
    · have h00 : n * esz = 0 := by omega
      have : ys' = [] := by rw [h00] at g2; simpa using g2
      subst this
      simp [Builtin.firstCells, h00, loadCells, loadCellsFrom]
  · rename_i n c
    obtain ⟨rfl, rfl, rfl⟩ := hy.nil_inv
    simp only [strLen, Option.some.injEq] at hl
    subst hl
    simp at h
    subst h
    exact mk [] trivial (by simp) (fun _ => rfl) fun w' _ => rfl
  · rename_i s
    split at h
    · rename_i he; subst he
      simp only [strLen, Option.some.injEq] at hl
      subst hl
      obtain rfl := hy.string_inv
      simp only [Option.some.injEq] at h
      have hlen : (rowOfBytes s).length = s.size := by unfold rowOfBytes; rw [List.length_map, Array.length_toList]; rfl
      have hys : ys = rowOfBytes s := by rw [← h, List.take_of_length_le (by omega)]
      subst hys
      refine mk (rowOfBytes s) (All2.refl fun a ha => V1.of_flat ?_) (by omega) (fun _ => rfl) fun w' _ => firstCells_string s w'
      unfold rowOfBytes at ha
      obtain ⟨_, _, rfl⟩ := List.mem_map.1 ha
      rfl
    · cases h
  · cases h
theorem firstN_sound {ρ : Rho} {H : Heap} (hr : RelH ρ H w) {esz k m : Nat} {y y' : Value} {ys : List Value} (hy : V3 ρ y y') (hl : strLen y = some k) (hm : m ≤ k) (h : elems H esz m y = some ys) :
    ∃ ys', All2 (V1 ρ) ys ys' ∧ ys.length = m * esz ∧ (∀ w' : World, (Builtin.lenOf y').run P w' = .ok k w') ∧ (Builtin.firstCells esz m y').run P w = .ok ys'.toArray w := by
  unfold elems at h
  split at h
  · rename_i b o n c
    simp only [strLen, Option.some.injEq] at hl
    subst hl
    obtain ⟨L, o', c', q1, rfl, q3, q4, q5, q6, q7⟩ := hy.slice_inv
    obtain ⟨ys', g1, g2, g3⟩ := row_sound hr q1 _ _ h
    refine ⟨ys', g1, row_length _ _ h, fun _ => rfl, ?_⟩
    by_cases h0 : 0 < m * esz
    · have hn : 0 < m := by rcases Nat.eq_zero_or_pos m with h | h; rw [h] at h0; simp at h0; exact h
      simp only [Builtin.firstCells]
      rw [q6 (by omega)]
      exact run_row g2 g3
    · have h00 : m * esz = 0 := by omega
      have : ys' = [] := by rw [h00] at g2; simpa using g2
      subst this
      simp [Builtin.firstCells, h00, loadCells, loadCellsFrom]
  · rename_i n c
    obtain ⟨rfl, rfl, rfl⟩ := hy.nil_inv
    simp only [strLen, Option.some.injEq] at hl
    subst hl
    split at h
    · rename_i h0; cases h
      exact ⟨[], trivial, by simpa using h0.symm, fun _ => rfl, rfl⟩
    · cases h
  · rename_i s
    split at h
    · rename_i he; subst he
      simp only [strLen, Option.some.injEq] at hl
      subst hl
      obtain rfl := hy.string_inv
      simp only [Option.some.injEq] at h
      subst h
      have hlen : (rowOfBytes s).length = s.size := by unfold rowOfBytes; rw [List.length_map, Array.length_toList]; rfl
      refine ⟨(rowOfBytes s).take m, All2.refl fun a ha => V1.of_flat ?_, by rw [List.length_take]; omega, fun _ => rfl, ?_⟩
      · have := List.mem_of_mem_take ha
        unfold rowOfBytes at this
        obtain ⟨_, _, rfl⟩ := List.mem_map.1 this
        rfl
      · simp only [Builtin.firstCells, Sem.run_pure]
        congr 1
        apply Array.ext'
        simp [rowOfBytes, ByteArray.data_extract, Array.toList_extract, List.extract_eq_take_drop, List.map_take]
    · cases h
  · cases h
theorem run_copy_gen {t u ty el : TypeId} {esz : Nat} {a : Addr} {n c k : Nat} {src : Value} {ys' : List Value} {w' : World} (hu : P.underlying t = some (.slice el)) (hz : szOf P el = some esz)
    (hlen : ∀ w' : World, (Builtin.lenOf src).run P w' = .ok k w') (hcells : (Builtin.firstCells esz (Nat.min k n) src).run P w = .ok ys'.toArray w) (hst : (storeCells a ys').run P w = .ok () w') :
    (Builtin.copy_ #[t, u] ty #[.slice (some a) n c, src]).run P w = .ok (.int .i64 ((Nat.min k n : Nat) : Int)) w' := by
  unfold Builtin.copy_
  simp only [List.getElem?_toArray, List.getElem?_cons_zero, List.getElem?_cons_succ, Sem.run_bind, run_und hu, Result.andThen_ok, hlen, run_sz hz, hcells, hst, Sem.run_pure, goInt]
theorem run_copy_none {ρ : Rho} {t u ty el : TypeId} {esz k : Nat} {y y' : Value} (hu : P.underlying t = some (.slice el)) (hz : szOf P el = some esz) (hy : V3 ρ y y') (hl : strLen y = some k) :
    (Builtin.copy_ #[t, u] ty #[.slice none 0 0, y']).run P w = .ok (.int .i64 0) w := by
  have h1 : (∃ k, ∀ w' : World, (Builtin.lenOf y').run P w' = .ok k w') ∧ ∃ cs, (Builtin.firstCells esz 0 y').run P w = .ok cs w := by
    cases y <;> simp [strLen] at hl
    · obtain rfl := hy.string_inv; exact ⟨⟨_, fun _ => rfl⟩, _, rfl⟩
    · rename_i a n c
      cases a with
      | none => obtain ⟨_, _, rfl⟩ := hy.nil_inv; exact ⟨⟨_, fun _ => rfl⟩, _, rfl⟩
      | some ad => obtain ⟨L, o', c', _, _, rfl, _⟩ := hy; exact ⟨⟨_, fun _ => rfl⟩, #[], by simp [Builtin.firstCells, loadCells, loadCellsFrom]⟩
  obtain ⟨⟨k', hk⟩, cs, hcs⟩ := h1
  unfold Builtin.copy_
  have hmin : Nat.min k' 0 = 0 := Nat.min_zero k'
  simp only [List.getElem?_toArray, List.getElem?_cons_zero, List.getElem?_cons_succ, Sem.run_bind, run_und hu, Result.andThen_ok, hk, run_sz hz, hmin, hcs, Sem.run_pure, goInt]
  rfl
theorem run_app_room (t tx ty e : TypeId) (i : TypeInfo) (ht : P.underlying t = some (.slice e)) (hi : P.info? e = some i) (base : Option Addr) (sLen sCap : Nat) (x : Value) (n : Nat) (news : List Value) (hs : Src P i.size tx x n news w)
    (hroom : sLen + n ≤ sCap) (w' : World) (hst : (match base with | some a => storeCells (a.add (sLen * i.size)) news | none => pure () : Sem Unit).run P w = .ok () w') :
    (Builtin.append_ #[t, tx] ty #[.slice base sLen sCap, x]).run P w = .ok (.slice base (sLen + n) sCap) w' := by
  cases base with
  | none =>
    cases hst
    rcases hs.kind with ⟨e', hk⟩ | hk <;> simp [Builtin.append_, run_underlying ht, run_underlying hk, sizeOf, typeInfo, hi, hs.len, hroom, hs.cells]
  | some a =>
    simp only at hst
    rcases hs.kind with ⟨e', hk⟩ | hk <;> simp [Builtin.append_, run_underlying ht, run_underlying hk, sizeOf, typeInfo, hi, hs.len, hroom, hs.cells, hst]
theorem zero_cells (z : Value) (n : Nat) : (Builtin.zeroCells z.cells n).toList = rep z.cells.toList n := by
  have := rep_range z.cells.toList z.cells rfl n
  unfold Builtin.zeroCells
  rw [← this, Array.length_toList]
theorem app_sound {ρ : Rho} {H H' : Heap} (hr : RelH ρ H w) {esz k : Nat} {x x' v : Value} {ys ys' : List Value} {y' : Value} {t tx ty e : TypeId} {inf : TypeInfo} {zv : Value} {z : List Value}
    (ht : P.underlying t = some (.slice e)) (hz : zeroOf P e = some z) (hi : P.info? e = some inf) (hzl : z.length = esz) (hx : V3 ρ x x') (hys : All2 (V1 ρ) ys ys') (hlen : ys.length = k * esz)
    (hs : Src P esz tx y' k ys' w) (h : appV H esz inf.bytes k x ys = some (v, H')) :
    ∃ v' w' ρ', (Builtin.append_ #[t, tx] ty #[x', y']).run P w = .ok v' w' ∧ V3 ρ' v v' ∧ Adv H.next ρ H w ρ' H' w' := by
  obtain ⟨inf', zv, q1, q2, q3, q4, q5, q6⟩ := zero_inv hz
  rw [hi] at q1; cases q1
  have hsz : inf.size = esz := by omega
  subst hsz
  unfold appV at h
  split at h
  · -- nothing is appended
    rename_i hk0
    subst hk0
    split at h
    · rename_i a n c
      cases h
      have hys0 : ys' = [] := by have := hys.length; simp at hlen; rw [hlen] at this; simpa using this.symm
      subst hys0
      cases a with
      | none =>
        obtain ⟨rfl, rfl, rfl⟩ := hx.nil_inv
        exact ⟨_, w, ρ, run_app_room t tx ty e inf ht hi none 0 0 y' 0 [] hs (by omega) w rfl, hx, Adv.refl hr⟩
      | some ad =>
        have hx0 := hx
        obtain ⟨L, o', c', g1, g2, rfl, g3, g4, _⟩ := hx
        exact ⟨_, w, ρ, run_app_room t tx ty e inf ht hi _ n c' y' 0 [] hs (by omega) w rfl, hx0, Adv.refl hr⟩
    · cases h
  rename_i hk0
  split at h
  · -- onto nil
    split at h
    case isFalse => cases h
    rename_i hcond
    cases h
    obtain ⟨c1, c2, c3⟩ := hcond
    obtain ⟨_, _, rfl⟩ := hx.nil_inv
    have hn := nextcap_le k 0 (by omega)
    have hrun := run_append_grow_src (P := P) w t tx ty e inf zv ht hi q2 none 0 0 [] (by rw [run_firstCells_none]) y' k ys' hs (by omega) (by simp; omega) (by
      simp only [Nat.zero_add]
      calc Builtin.nextslicecap k 0 * inf.bytes ≤ 2 * k * inf.bytes := Nat.mul_le_mul_right _ hn
        _ ≤ 281474976710656 := by rw [Nat.mul_assoc]; omega)
    simp only [Nat.zero_add, List.nil_append] at hrun
    have hge := grownCap_ge w k 0 e
    have hcl : (ys'.toArray ++ Builtin.zeroCells zv.cells (grownCap w k 0 e - k)).size = grownCap w k 0 e * inf.size := by
      have h1 : (Builtin.zeroCells zv.cells (grownCap w k 0 e - k)).size = (grownCap w k 0 e - k) * inf.size := by
        rw [← Array.length_toList, zero_cells, rep_length, q3, hzl]
      have h2 : ys'.length = k * inf.size := by rw [← hys.length, hlen]
      rw [Array.size_append, List.size_toArray, h1, h2, ← Nat.add_mul]; congr 1; omega
    let L : Loc := ⟨w.heap.size, grownCap w k 0 e * inf.size, inf.size, 0⟩
    refine ⟨_, _, rset ρ H.next L, hrun, ?_, ?_⟩
    · refine ⟨L, 0, grownCap w k 0 e, by simp [rset], rfl, rfl, ?_, ?_, ?_, ?_, ?_⟩
      · omega
      · omega
      · intro _; omega
      · intro _; rfl
      · simp [L]
    · refine Adv.alloc hr H.next (hr.none_ge (Nat.le_refl _)) (Nat.le_refl _) (by simp [Heap.add]) (by simp [Heap.add]) (rowBlk inf.size ys) (by simp [Heap.add]) (fun k hk => by simp [Heap.add, hk]) L _ e (0, 0) rfl rfl hcl rfl (.inl (Nat.le_refl _)) ?_ rfl rfl rfl
      intro o u hu
      obtain ⟨u', r1, r2⟩ := hys.get (show ys[o]? = some u from hu)
      refine ⟨u', ?_, r2⟩
      have : o < ys'.toArray.size := by have := (List.getElem?_eq_some_iff.1 r1).1; simpa using this
      rw [Array.getElem?_append_left (by simpa [L] using this)]
      simpa [L] using r1
  · rename_i b o n c
    obtain ⟨L, o', c', g1, rfl, g3, g4, g5, g6, g7⟩ := hx.slice_inv
    split at h
    · -- there is room, for sure
      rename_i hroom
      split at h
      case h_2 => cases h
      rename_i H1 hst
      cases h
      have ho := g6 (by omega)
      obtain ⟨w1, s1, s2⟩ := store_sound hr hst g1 (Nat.le_refl H.next) hys P
      refine ⟨_, w1, ρ, run_app_room t tx ty e inf ht hi _ n c' y' k ys' hs (by omega) w1 ?_, ?_, s2⟩
      · simp only [add_at]
        rw [show o' + n * inf.size = o + n * inf.size + L.shift by omega]; exact s1
      · exact ⟨L, o', c', g1, rfl, rfl, by omega, g4, g5, g6, g7⟩
    · rename_i hnr
      split at h
      case isFalse => cases h
      rename_i hcond
      obtain ⟨c1, c2, c3⟩ := hcond
      split at h
      case h_2 => cases h
      rename_i xs hrow
      obtain ⟨xs', x1, x2, x3⟩ := row_sound hr g1 _ _ hrow
      have hxl := row_length _ _ hrow
      have hxy : All2 (V1 ρ) (xs ++ ys) (xs' ++ ys') := x1.append hys
      have hyl : ys'.length = k * inf.size := by rw [← hys.length, hlen]
      -- no room
      have grow : c' < n + k → ∀ (H0 : Heap), RelH ρ H0 w → H0.next = H.next → (∀ j, ρ j = none → True) → ∃ v' w' ρ', (Builtin.append_ #[t, tx] ty #[.slice (some ⟨L.blk, o', none⟩) n c', y']).run P w = .ok v' w' ∧
          V3 ρ' (.slice (some ⟨H.next, 0, none⟩) (n + k) (2 * (n + k))) v' ∧ Adv H.next ρ H0 w ρ' (H0.add (rowBlk inf.size (xs ++ ys))) w' := by
        intro hlt H0 hr0 hnx _
        have hn := nextcap_le (n + k) c' hlt
        have hcells : ∀ w' : World, w'.heap = w.heap → (Builtin.firstCells inf.size n (.slice (some ⟨L.blk, o', none⟩) n c')).run P w' = .ok xs'.toArray w' := by
          intro w' hw'
          have hcell : ∀ a, w'.cell? a = w.cell? a := fun a => by simp [World.cell?, hw']
          simp only [Builtin.firstCells]
          by_cases h0 : 0 < c / 2
          · rw [g6 h0]; exact run_row x2 fun j v hv => by rw [hcell]; exact x3 j v hv
          · have : n = 0 := by omega
            subst this
            have : xs' = [] := by simpa using x2
            subst this
            simp [loadCells, loadCellsFrom]
        have hrun := run_append_grow_src (P := P) w t tx ty e inf zv ht hi q2 (some ⟨L.blk, o', none⟩) n c' xs' (hcells w.drew rfl) y' k ys' hs hlt (by simp; omega) (by
          calc Builtin.nextslicecap (n + k) c' * inf.bytes ≤ 2 * (n + k) * inf.bytes := Nat.mul_le_mul_right _ hn
            _ ≤ 281474976710656 := by rw [Nat.mul_assoc]; omega)
        have hge := grownCap_ge w (n + k) c' e
        have hcl : ((xs' ++ ys').toArray ++ Builtin.zeroCells zv.cells (grownCap w (n + k) c' e - (n + k))).size = grownCap w (n + k) c' e * inf.size := by
          have h1 : (Builtin.zeroCells zv.cells (grownCap w (n + k) c' e - (n + k))).size = (grownCap w (n + k) c' e - (n + k)) * inf.size := by
            rw [← Array.length_toList, zero_cells, rep_length, q3, hzl]
          rw [Array.size_append, List.size_toArray, h1, List.length_append, x2, hyl, ← Nat.add_mul, ← Nat.add_mul]; congr 1; omega
        let L2 : Loc := ⟨w.heap.size, grownCap w (n + k) c' e * inf.size, inf.size, 0⟩
        refine ⟨_, _, rset ρ H.next L2, hrun, ?_, ?_⟩
        · refine ⟨L2, 0, grownCap w (n + k) c' e, by simp [rset], rfl, rfl, ?_, ?_, ?_, ?_, ?_⟩
          · omega
          · omega
          · intro _; omega
          · intro _; rfl
          · simp [L2]
        · refine Adv.alloc hr0 H.next (hr0.none_ge (by omega)) (Nat.le_refl _) (by simp [Heap.add]; omega) (by simp [Heap.add]) (rowBlk inf.size (xs ++ ys)) (by simp [Heap.add, hnx]) (fun k hk => by simp [Heap.add, hnx, hk]) L2 _ e (0, 0) rfl rfl hcl rfl (.inl (Nat.le_refl _)) ?_ rfl rfl rfl
          intro j u hu
          obtain ⟨u', r1, r2⟩ := hxy.get (show (xs ++ ys)[j]? = some u from hu)
          refine ⟨u', ?_, r2⟩
          have : j < (xs' ++ ys').toArray.size := by have := (List.getElem?_eq_some_iff.1 r1).1; simpa using this
          rw [Array.getElem?_append_left (by simpa [L2] using this)]
          simpa [L2] using r1
      split at h
      · rename_i hodd
        cases h
        have hc' := g5 hodd
        exact grow (by omega) H hr rfl (fun _ _ => trivial)
      · rename_i heven
        split at h
        case h_2 => cases h
        rename_i B hB
        split at h
        case isFalse => cases h
        rename_i hBc
        cases h
        obtain ⟨hro, hBe⟩ := hBc
        have kl : Adv H.next ρ H w ρ (H.set b none) w := Adv.kill hr g1
        by_cases hlt : c' < n + k
        · obtain ⟨v', w', ρ', r1, r2, r3⟩ := grow hlt (H.set b none) kl.rel rfl (fun _ _ => trivial)
          exact ⟨v', w', ρ', r1, r2, kl.trans r3⟩
        · -- in place
          obtain ⟨cb, tb, fr, b1, b2, b3, b4, b5⟩ := hr.blk b L B g1 hB
          have hLe : L.esz = inf.size := b3.trans hBe
          have hfit : o' + n * inf.size + ys'.length ≤ cb.size := by
            rw [hyl, b2]
            have h1 : (n + k) * inf.size ≤ c' * inf.size := Nat.mul_le_mul_right _ (by omega)
            rw [hLe] at g7
            rw [Nat.add_mul] at h1
            omega
          have hone : ∀ u ∈ ys', u.oneCell' = true := hs.one
          have hrun := run_storeCells_w (P := P) L.blk (o' + n * inf.size) tb fr ys' 0 cb w b1 (b4 hro) (by simpa using hfit) hone
          let L2 : Loc := ⟨L.blk, L.size, inf.size, o'⟩
          let w1 := wput w L.blk (putsA cb (o' + n * inf.size + 0) ys') tb fr
          have hnew : ρ H.next = none := hr.none_ge (Nat.le_refl _)
          have hle : RhoLe ρ (rset ρ H.next L2) := rset_le hnew
          have hblt : b < H.next := hr.dom b L g1
          have hother : ∀ j M C, j ≠ b → ρ j = some M → H.blk j = some C → M.blk ≠ L.blk := fun j M C hj hM hC he => hj (hr.inj b j L M B C g1 hM hB hC hro he.symm).symm
          have hxs0 : ∀ j, j < n * inf.size → xs'[j]? = cb[o' + j]? := by
            intro j hj
            have hn : 0 < n := by rcases Nat.eq_zero_or_pos n with h | h; rw [h] at hj; simp at hj; exact h
            have ho := g6 (by omega)
            have hjl : j < xs'.length := by omega
            have := x3 j xs'[j] (List.getElem?_eq_getElem hjl)
            rw [add_at] at this
            simp only [World.cell?, b1] at this
            rw [List.getElem?_eq_getElem hjl, ← this, ho]
            simp
          refine ⟨_, w1, rset ρ H.next L2, run_app_room t tx ty e inf ht hi _ n c' y' k ys' hs (by omega) w1 (by simp only [add_at]; exact hrun), ?_, ?_⟩
          · refine ⟨L2, o', c', by simp [rset], rfl, rfl, ?_, ?_, ?_, ?_, ?_⟩
            · omega
            · omega
            · intro _; omega
            · intro _; simp [L2]
            · show o' + c' * inf.size ≤ L.size
              rw [← hLe]; exact g7
          · refine ⟨hle, ⟨?_, ?_, ?_⟩, rfl, rfl, rfl, by simp [w1, wput], ?_, ?_, ?_, by simp [Heap.add, Heap.set], ?_⟩
            · intro j M hj
              unfold rset at hj
              by_cases ej : j = H.next
              · simp [Heap.add, Heap.set, ej]
              · rw [if_neg ej] at hj; have := hr.dom j M hj; simp [Heap.add, Heap.set]; omega
            · intro j M C hj hC
              unfold rset at hj
              by_cases ej : j = H.next
              · subst ej
                rw [if_pos rfl] at hj; cases hj
                have hC' : rowBlk inf.size (xs ++ ys) = C := by simpa [Heap.add, Heap.set] using hC
                subst hC'
                refine ⟨_, tb, fr, wput_heap b1, by rw [putsA_size]; exact b2, rfl, fun _ => by rw [putsA_size]; exact b4 hro, fun i u hu => ?_⟩
                obtain ⟨u', r1, r2⟩ := hxy.get (show (xs ++ ys)[i]? = some u from hu)
                refine ⟨u', ?_, r2.mono hle⟩
                show (putsA cb (o' + n * inf.size + 0) ys')[i + o']? = some u'
                by_cases hi1 : i < n * inf.size
                · rw [putsA_out ys' _ cb _ (.inl (by omega))]
                  rw [List.getElem?_append_left (by omega)] at r1
                  rw [← r1, hxs0 i hi1, Nat.add_comm i o']
                · rw [List.getElem?_append_right (by omega), x2] at r1
                  have hj2 := (List.getElem?_eq_some_iff.1 r1).1
                  rw [show i + o' = o' + n * inf.size + 0 + (i - n * inf.size) by omega, putsA_in ys' _ cb _ (by simpa using hfit) hj2]
                  exact r1
              · rw [if_neg ej] at hj
                have hjb : j ≠ b := fun e => by subst e; simp [Heap.add, Heap.set, ej] at hC
                have hC' : H.blk j = some C := by simpa [Heap.add, Heap.set, ej, hjb] using hC
                obtain ⟨c2, t2, f2, m1, m2, m3, m4, m5⟩ := hr.blk j M C hj hC'
                refine ⟨c2, t2, f2, by rw [wput_other (hother j M C hjb hj hC')]; exact m1, m2, m3, m4, fun i u hu => ?_⟩
                obtain ⟨u', r1, r2⟩ := m5 i u hu
                exact ⟨u', r1, r2.mono hle⟩
            · intro j1 j2 M1 M2 C1 C2 h1 h2 h3 h4 h5 h6
              unfold rset at h1 h2
              by_cases e1 : j1 = H.next
              · by_cases e2 : j2 = H.next
                · rw [e1, e2]
                · rw [if_pos e1] at h1; cases h1
                  rw [if_neg e2] at h2
                  have hjb : j2 ≠ b := fun e => by subst e; simp [Heap.add, Heap.set, e2] at h4
                  have hC' : H.blk j2 = some C2 := by simpa [Heap.add, Heap.set, e2, hjb] using h4
                  exact absurd h6.symm (hother j2 M2 C2 hjb h2 hC')
              · rw [if_neg e1] at h1
                have hjb1 : j1 ≠ b := fun e => by subst e; simp [Heap.add, Heap.set, e1] at h3
                have hC1 : H.blk j1 = some C1 := by simpa [Heap.add, Heap.set, e1, hjb1] using h3
                by_cases e2 : j2 = H.next
                · rw [if_pos e2] at h2; cases h2
                  exact absurd h6 (hother j1 M1 C1 hjb1 h1 hC1)
                · rw [if_neg e2] at h2
                  have hjb : j2 ≠ b := fun e => by subst e; simp [Heap.add, Heap.set, e2] at h4
                  have hC' : H.blk j2 = some C2 := by simpa [Heap.add, Heap.set, e2, hjb] using h4
                  exact hr.inj j1 j2 M1 M2 C1 C2 h1 h2 hC1 hC' h5 h6
            · intro cb2 hcb hno
              exact wput_other (fun e => hno b L B g1 hB hro e.symm)
            · intro j hj h0
              have ej : j ≠ H.next := by omega
              have ejb : j ≠ b := fun e => by subst e; rw [g1] at h0; cases h0
              exact ⟨by unfold rset; rw [if_neg ej]; exact h0, by simp [Heap.add, Heap.set, ej, ejb]⟩
            · intro j M h0 hj
              unfold rset at hj
              by_cases ej : j = H.next
              · rw [if_pos ej] at hj; cases hj
                exact ⟨by omega, .inr ⟨b, L, B, g1, hB, hro, rfl⟩⟩
              · rw [if_neg ej] at hj; rw [h0] at hj; cases hj
            · intro j M B' hj hB'
              have ej : j ≠ H.next := fun e => by subst e; rw [hnew] at hj; cases hj
              have ejb : j ≠ b := fun e => by subst e; simp [Heap.add, Heap.set, ej] at hB'
              exact ⟨B', by simpa [Heap.add, Heap.set, ej, ejb] using hB', rfl, rfl⟩
  · cases h
theorem wp_value {o : Oper} {a : Act} {K : Act → World → Prop} {Q : Exit → Act → World → Prop} {v : Value} {w' : World} (h : (execOp a.eval o).run P w = .ok (.value v) w') (hK : K (a.put o.dst v) w') : o.wp P a w K Q := by
  unfold Oper.wp; rw [h]; exact hK
theorem wp_skip' {o : Oper} {a : Act} {K : Act → World → Prop} {Q : Exit → Act → World → Prop} {w' : World} (h : (execOp a.eval o).run P w = .ok .skip w') (hK : K (a.put o.dst undef) w') : o.wp P a w K Q := by
  unfold Oper.wp; rw [h]; exact hK
theorem wp_enter {o : Oper} {a : Act} {K : Act → World → Prop} {Q : Exit → Act → World → Prop} {f : FuncId} {args : Array Value} {w' : World} (h : (execOp a.eval o).run P w = .ok (.enter f args) w')
    (hK : Calls P f args w' fun e w'' => ∃ v, e = .returned v ∧ K (a.put o.dst v) w'') : o.wp P a w K Q := by
  unfold Oper.wp; rw [h]
  refine hK.mono fun e w'' he => ?_
  obtain ⟨v, rfl, hk⟩ := he
  exact hk
/-- Which functions may be called: those that stand in the model with a body and are not the one the model keeps for itself. -/
def Callable (P : Program) (f : FuncId) : Prop := ∃ fn, P.funcs[f]? = some fn ∧ fn.name ≠ "runtime.NumGoroutine" ∧ fn.body.isSome = true
theorem run_callFunc {f : FuncId} {args : Array Value} (h : Callable P f) : (callFunc f args).run P w = .ok (.enter f args) w := by
  obtain ⟨fn, h1, h2, h3⟩ := h
  have h5 : fn.body ≠ none := by intro hb; rw [hb] at h3; cases h3
  simp [callFunc, h1, h2, h5, Sem.run_ite]
theorem eff_sound {C : CallF} (hC : CallOk P C) (hCb : ∀ f args H r, C f args H = some r → Callable P f) {ρ : Rho} {e : Env} {a : Act} {N : Nat} {H H' : Heap} {o : Oper} {i : Ins} {v : Value} (hc : cOp P o.op = some i) (hk : isEff i = true) (hs : step P C i e H = some (v, H'))
    (ha : ArgR ρ e a.eval) (hw : Hw H) (hr : RelH ρ H w) (K : Act → World → Prop) (Q : Exit → Act → World → Prop) (hK : ∀ v' w' ρ', V3 ρ' v v' → Adv H.next ρ H w ρ' H' w' → K (a.put o.dst v') w') : o.wp P a w K Q := by
  obtain ⟨dst, op, ty, pos, after, guard⟩ := o
  simp only at hc
  cases op
  case store t ad x =>
    simp only [cOp] at hc
    split at hc <;> cases hc
    rename_i ad' x' n h1 h2 h3
    have hav := ha ad ad' h1
    simp only [step] at hs
    split at hs
    · rename_i b off hb
      split at hs
      · rename_i hl
        split at hs
        · rename_i H1 hst; cases hs
          rw [hb] at hav
          obtain ⟨L, q1, q2⟩ := hav.ptr_inv
          have hxr := ha x x' h2
          have hone : (ev e x').cells.toList.all Value.oneCell' = true ∨ (ev e x').cells.toList = [] := by
            cases hcs : (ev e x').cells.toList with
            | nil => exact .inr rfl
            | cons c0 cs =>
              left
              rw [hcs] at hst
              simp only [Heap.store] at hst
              split at hst
              · split at hst
                · rename_i hcnd; exact hcnd.2.2
                · cases hst
              · cases hst
          have hcells : All2 (V1 ρ) (ev e x').cells.toList (a.eval x).cells.toList := by
            rcases hone with h | h
            · exact hxr.cells h
            · exact hxr.cells (by rw [h]; rfl)
          obtain ⟨w', r1, r2⟩ := store_sound hr hst q1 (Nat.le_refl H.next) hcells P
          refine wp_skip' (w' := w') ?_ (hK undef w' ρ V3.undef r2)
          have hsz : (a.eval x).cells.size = n := by rw [← Array.length_toList, ← hcells.length]; exact hl
          simp only [execOp, Instr.storeAt, q2, Instr.sureAddr, Sem.run_bind, Sem.run_pure, Result.andThen_ok, storeVar, run_sz h3]
          rw [if_neg (by simpa using hsz)]
          simp only [r1, Result.andThen_ok]
        · cases hs
      · cases hs
    · cases hs
  case call c =>
    obtain ⟨callee, args, argTypes⟩ := c
    simp only [cOp] at hc
    cases callee
    case invoke => cases hc
    case value g =>
      cases g <;> simp at hc <;> obtain ⟨xs, h1, rfl⟩ := hc
      · rename_i n
        have hargs := args_sound ha h1
        have hgv := ha (.tmp n) (.t n) rfl
        simp only [step] at hs
        split at hs
        · rename_i fid first cap hb
          split at hs
          · rename_i hz
            rw [hb] at hgv
            obtain ⟨q1, cap', q2, q3⟩ := hgv.func_inv
            have hall : All2 (V3 ρ) (xs.map (ev e) ++ cap.toList) (args.map a.eval ++ cap').toList := by
              rw [Array.toList_append, Array.toList_map]
              exact hargs.append (q3.mono fun _ _ h => h.one.three)
            have hcall := hC _ _ _ _ _ hs ρ _ w hw hr hall
            rw [Array.toArray_toList] at hcall
            refine wp_enter (f := fid) (args := args.map a.eval ++ cap') (w' := w) ?_ ?_
            · simp only [execOp, resolve, Sem.run_bind, q2, Deferred.ofValue, Sem.run_pure, Result.andThen_ok, invoke]
              rw [show (#[] ++ args.map a.eval : Array Value) = args.map a.eval by simp]
              exact run_callFunc (hCb _ _ _ _ hs)
            · refine Calls.mono hcall fun e' w'' he => ?_
              obtain ⟨v', ρ', rfl, p1, p2⟩ := he
              exact ⟨v', rfl, hK v' w'' ρ' p1 p2⟩
          · cases hs
        · cases hs
      · rename_i fid
        have hargs := args_sound ha h1
        simp only [step] at hs
        have hcall := hC _ _ _ _ _ hs ρ (args.map a.eval).toList w hw hr (by rw [Array.toList_map]; exact hargs)
        rw [Array.toArray_toList] at hcall
        refine wp_enter (f := fid) (args := args.map a.eval) (w' := w) ?_ ?_
        · simp only [execOp, resolve, Sem.run_bind, Act.eval, Deferred.ofValue, Sem.run_pure, Result.andThen_ok, invoke]
          rw [show (#[] ++ args.map a.eval ++ #[] : Array Value) = args.map a.eval by simp]
          exact run_callFunc (hCb _ _ _ _ hs)
        · refine Calls.mono hcall fun e' w'' he => ?_
          obtain ⟨v', ρ', rfl, p1, p2⟩ := he
          exact ⟨v', rfl, hK v' w'' ρ' p1 p2⟩
    case builtin b =>
      simp only at hc
      split at hc <;> try (cases hc; done)
      rename_i xs h1
      have hxs := args_sound ha h1
      have htl : ∀ tl, argTypes.toList = tl → argTypes = tl.toArray := fun tl h => by rw [← h]
      have two : ∀ x y, xs = [x, y] → ∃ x' y', args.map a.eval = #[x', y'] ∧ V3 ρ (ev e x) x' ∧ V3 ρ (ev e y) y' := by
        intro x y hx
        subst hx
        obtain ⟨x', l, q1, q2, q3⟩ := hxs.cons_left
        obtain ⟨y', l', rfl, q5, q6⟩ := q3.cons_left
        obtain rfl := q6.nil_left
        exact ⟨x', y', by apply Array.ext'; simpa using q1, q2, q5⟩
      have one : ∀ x, xs = [x] → ∃ x', args.map a.eval = #[x'] ∧ V3 ρ (ev e x) x' := by
        intro x hx
        subst hx
        obtain ⟨x', l, q1, q2, q3⟩ := hxs.cons_left
        obtain rfl := q3.nil_left
        exact ⟨x', by apply Array.ext'; simpa using q1, q2⟩
      have sem : ∀ (b : Builtin) (v' : Value) (w' : World), (builtin b argTypes ty (args.map fun | .const _ => true | _ => false) (args.map a.eval)).run P w = .ok (.value v') w' →
          (execOp a.eval ⟨dst, .call ⟨.builtin b, args, argTypes⟩, ty, pos, after, guard⟩).run P w = .ok (.value v') w' := by
        intro b v' w' h
        simp only [execOp, resolve, Sem.run_bind, Sem.run_pure, Result.andThen_ok, invoke]
        exact h
      cases b <;> simp only [cBuiltin] at hc <;> try (cases hc; done)
      case len => unfold cLen at hc; repeat' split at hc
                  all_goals first | (cases hc; done) | (cases hc; simp [isEff] at hk; done)
      case cap => unfold cCap at hc; repeat' split at hc
                  all_goals first | (cases hc; done) | (cases hc; simp [isEff] at hk; done)
      case min => unfold cMM at hc; repeat' split at hc
                  all_goals first | (cases hc; done) | (cases hc; simp [isEff] at hk; done)
      case max => unfold cMM at hc; repeat' split at hc
                  all_goals first | (cases hc; done) | (cases hc; simp [isEff] at hk; done)
      case append =>
        have fin : ∀ (t u el : TypeId) (x y : Arg) (z : List Value) (inf : TypeInfo) (esz : Nat), argTypes.toList = [t, u] → xs = [x, y] → P.underlying t = some (.slice el) → ((∃ e', P.underlying u = some (.slice e')) ∨ P.underlying u = some .string) → zeroOf P el = some z → P.info? el = some inf → z.length = esz →
            i = .app esz inf.bytes x y → Oper.wp P ⟨dst, .call ⟨.builtin .append, args, argTypes⟩, ty, pos, after, guard⟩ a w K Q := by
          intro t u el x y z inf esz e1 e2 e3 e4 e5 e6 e7 e8
          subst e8
          obtain ⟨x', y', g1, g2, g3⟩ := two x y e2
          have hty := htl _ e1
          simp only [step] at hs
          split at hs
          case h_2 => cases hs
          rename_i k hk1
          split at hs
          case h_2 => cases hs
          rename_i ys hel
          obtain ⟨ys', p1, p2, p3⟩ := elems_sound (P := P) hr e4 g3 hk1 hel
          obtain ⟨v', w', ρ', r1, r2, r3⟩ := app_sound (P := P) (ty := ty) (zv := default) hr e3 e5 e6 e7 g2 p1 p2 p3 hs
          refine wp_value (sem _ v' w' ?_) (hK v' w' ρ' r2 r3)
          rw [g1, hty]
          simp only [builtin, Sem.run_bind, r1, Result.andThen_ok, Sem.run_pure]
        unfold cApp at hc
        split at hc
        · rename_i t u x y e1
          split at hc
          · rename_i el el' h2 h3
            split at hc
            · rename_i z n' inf h4 h5 h6
              split at hc <;> cases hc
              exact fin t u el x y z inf z.length e1 rfl h2 (.inl ⟨_, h3⟩) h4 h6 rfl rfl
            · cases hc
          · rename_i el h2 h3
            split at hc
            · rename_i z inf h4 h6; cases hc
              exact fin t u el x y [z] inf 1 e1 rfl h2 (.inr h3) h4 h6 rfl rfl
            · cases hc
          · cases hc
        · cases hc
      case copy =>
        have fin : ∀ (t u el : TypeId) (x y : Arg) (esz : Nat), argTypes.toList = [t, u] → xs = [x, y] → P.underlying t = some (.slice el) → ((∃ e', P.underlying u = some (.slice e')) ∨ P.underlying u = some .string) → szOf P el = some esz →
            i = .copy esz x y → Oper.wp P ⟨dst, .call ⟨.builtin .copy, args, argTypes⟩, ty, pos, after, guard⟩ a w K Q := by
          intro t u el x y esz e1 e2 e3 e4 e5 e8
          subst e8
          obtain ⟨x', y', g1, g2, g3⟩ := two x y e2
          have hty := htl _ e1
          simp only [step] at hs
          split at hs
          · rename_i b off n c k hbx hk1
            split at hs
            case h_2 => cases hs
            rename_i ys hel
            split at hs
            case h_2 => cases hs
            rename_i H1 hst
            cases hs
            rw [hbx] at g2
            obtain ⟨L, o', c', q1, rfl, q3, q4, q5, q6, q7⟩ := g2.slice_inv
            obtain ⟨ys', p1, p2, p3⟩ := firstN_sound (P := P) hr g3 hk1 (Nat.min_le_left k n) hel
            obtain ⟨w', r1, r2⟩ := store_sound hr hst q1 (Nat.le_refl H.next) p1 P
            refine wp_value (sem _ (.int .i64 ((Nat.min k n : Nat) : Int)) w' ?_) (hK _ w' ρ (V1.of_flat (v := .int .i64 _) rfl).three r2)
            rw [g1, hty]
            have hst' : (storeCells ⟨L.blk, o', none⟩ ys').run P w = .ok () w' := by
              by_cases h0 : 0 < c / 2
              · rw [q6 h0]; exact r1
              · have hn0 : n = 0 := by omega
                have : ys' = [] := by
                  have h1 := p1.length
                  rw [p2, hn0] at h1
                  have : min k 0 = 0 := Nat.min_zero k
                  rw [this] at h1
                  simpa using h1.symm
                subst this
                simp only [storeCells, Sem.run_pure] at r1 ⊢
                exact r1
            simp only [builtin, Sem.run_bind]
            rw [run_copy_gen (P := P) e3 e5 p3.1 p3.2 hst']
            rfl
          · rename_i k hbx hk1
            cases hs
            rw [hbx] at g2
            obtain ⟨_, _, rfl⟩ := g2.nil_inv
            refine wp_value (sem _ (.int .i64 0) w ?_) (hK _ w ρ (V1.of_flat (v := .int .i64 _) rfl).three (Adv.refl hr))
            rw [g1, hty]
            simp only [builtin, Sem.run_bind]
            rw [run_copy_none (P := P) e3 e5 g3 hk1]
            rfl
          · cases hs
        unfold cCopy at hc
        split at hc
        · rename_i t u x y e1
          split at hc
          · rename_i el el' h2 h3
            split at hc
            · rename_i n n' h4 h5
              split at hc <;> cases hc
              exact fin t u el x y n e1 rfl h2 (.inl ⟨_, h3⟩) h4 rfl
            · cases hc
          · rename_i el h2 h3
            split at hc
            · rename_i h4; cases hc
              exact fin t u el x y 1 e1 rfl h2 (.inr h3) h4 rfl
            · cases hc
          · cases hc
        · cases hc
      case clear =>
        unfold cClear at hc
        split at hc
        · rename_i t x e1
          obtain ⟨x', g1, g2⟩ := one x rfl
          have hty := htl _ e1
          split at hc
          · rename_i el h2
            simp only [Option.map_eq_some_iff] at hc
            obtain ⟨z, h3, rfl⟩ := hc
            obtain ⟨inf, zv, z1, z2, z3, z4, z5, z6⟩ := zero_inv h3
            simp only [step] at hs
            split at hs
            · rename_i n c hb; cases hs
              rw [hb] at g2
              obtain ⟨rfl, rfl, rfl⟩ := g2.nil_inv
              refine wp_value (sem _ undef w ?_) (hK _ w ρ V3.undef (Adv.refl hr))
              rw [g1, hty]
              simp [builtin, Builtin.clear_, run_und h2, undef]
            · rename_i b off n c hb
              split at hs
              · rename_i H1 hst; cases hs
                rw [hb] at g2
                obtain ⟨L, o', c', q1, rfl, q3, q4, q5, q6, q7⟩ := g2.slice_inv
                have hrr : All2 (V1 ρ) (rep z n) (Builtin.zeroCells zv.cells n).toList := by
                  rw [zero_cells, z3]
                  refine All2.refl fun a ha => V1.of_flat ?_
                  have : ∀ n, ∀ a ∈ rep z n, flat1 a = true := by
                    intro n
                    induction n with
                    | zero => intro a h; simp [rep] at h
                    | succ n ih => intro a h; simp only [rep, List.mem_append] at h; rcases h with h | h; exact List.all_eq_true.1 z5 a h; exact ih a h
                  exact this n a ha
                obtain ⟨w', r1, r2⟩ := store_sound hr hst q1 (Nat.le_refl H.next) hrr P
                refine wp_value (sem _ undef w' ?_) (hK _ w' ρ V3.undef r2)
                rw [g1, hty]
                cases n with
                | zero =>
                  have : w' = w := by
                    rw [zero_cells] at r1
                    simp only [rep, storeCells, Sem.run_pure] at r1
                    cases r1; rfl
                  subst this
                  simp [builtin, Builtin.clear_, run_und h2, undef]
                | succ n =>
                  rw [q6 (by omega)]
                  simp [builtin, Builtin.clear_, run_und h2, undef, run_zero z1 z2, r1]
              · cases hs
            · cases hs
          · cases hc
        · cases hc
  all_goals first
    | (simp only [cOp] at hc; cases hc; done)
    | (simp only [cOp, Option.map_eq_some_iff] at hc; obtain ⟨_, _, rfl⟩ := hc; simp [isEff] at hk; done)
    | (simp only [cOp, cBin] at hc; repeat' split at hc
       all_goals first | (cases hc; done) | (cases hc; simp [isEff] at hk; done) | (simp only [Option.map_eq_some_iff] at hc; obtain ⟨_, _, rfl⟩ := hc; simp [isEff] at hk; done))
    | (rename_i fn first cap; cases fn <;> simp only [cOp] at hc <;> try (cases hc; done)
       split at hc <;> try (cases hc; done)
       simp only [Option.map_eq_some_iff] at hc; obtain ⟨_, _, rfl⟩ := hc; simp [isEff] at hk; done)
    | trace_state
end
end Go.AM
