import Derived.Test.YtpadejamelppfaaWWords
/- '[]byte(s)' and what is appended to it: a row of the call's own whose block bears a mark beyond its cells. One element appended is laid behind the elements, in place or in a new row. -/
namespace Go.Proofs.ByteRow
open Go.RowKit Go.Proofs.YtpadejamelppfaaW.PrintWords

/-- The slice v owns the cells xs; of its block no cell is frozen. -/
def OwnsM (w : World) (base : Nat) (e : TypeId) (v : Value) (xs : List Value) : Prop :=
  ∃ (g cap : Nat) (cur : Array Value) (fz : Nat × Nat), v = .slice (some ⟨g, 0, none⟩) xs.length cap ∧ base ≤ g ∧ w.heap[g]? = some (.cells cur e fz) ∧ (fz = (0, 0) ∨ cur.size ≤ fz.1) ∧
    xs.length ≤ cap ∧ cap ≤ maxLen ∧ cur.size = cap ∧ cur.toList.take xs.length = xs

theorem OwnsM.below {w w1 : World} {base : Nat} {e : TypeId} {v : Value} {xs : List Value} (h : OwnsM w base e v xs) (hb : Below w.heap.size w w1) : OwnsM w1 base e v xs := by
  obtain ⟨g, cap, cur, fz, rfl, h1, h2, h3⟩ := h
  exact ⟨g, cap, cur, fz, rfl, h1, (hb.block g (Array.getElem?_eq_some_iff.1 h2).1).trans h2, h3⟩

theorem add_zero_ (a : Addr) : a.add 0 = a := by
  cases a; unfold Addr.add; split <;> simp_all

theorem run_store_one (P : Program) (g o : Nat) (t : TypeId) (fz : Nat × Nat) (v : Value) (cur : Array Value) (w : World) (hg : w.heap[g]? = some (.cells cur t fz)) (hfz : fz = (0, 0) ∨ cur.size ≤ fz.1) (hl : o < cur.size) (h1 : v.oneCell' = true) :
    (storeCells ⟨g, o, none⟩ [v] 0).run P w = .ok () (w.setRow g (cur.setIfInBounds o v)) := by
  have hcell : w.cell? ⟨g, o, none⟩ = some cur[o] := by simp [World.cell?, hg, hl]
  have hfro : w.frozen? ⟨g, o, none⟩ = false := by
    obtain ⟨lo, hi'⟩ := fz
    simp only [World.frozen?, hg, Bool.and_eq_false_iff, decide_eq_false_iff_not]
    rcases hfz with h | h
    · simp only [Prod.mk.injEq] at h; right; omega
    · simp only at h; left; omega
  have hst : (store (⟨g, o, none⟩ : Addr) v).run P w = .ok () (w.setRow g (cur.setIfInBounds o v)) := by
    rw [run_store P w _ v _ h1, hcell]
    simp [hfro, setCell_eq_setRow w g o cur t fz v hg]
  have hadd : (⟨g, o, none⟩ : Addr).add 0 = ⟨g, o, none⟩ := add_zero_ _
  simp only [storeCells, Sem.run_bind, hadd, hst, Result.andThen_ok, Sem.run_pure]

section
variable {P : Program}

theorem run_append_M (W : World) (base : Nat) (t ty e : TypeId) (i : TypeInfo) (z : Value) (ht : P.underlying t = some (.slice e)) (hi : P.info? e = some i) (hz : i.zero = some z)
    (hsize : i.size = 1) (hby : i.bytes = 1) (hzs : z.cells.size = 1) (v : Value) (xs : List Value) (hown : OwnsM W base e v xs) (a : Addr) (c : Nat) (y : Value) (hy : W.cell? a = some y) (h1 : y.oneCell' = true)
    (h63 : xs.length + 1 ≤ 140737488355328) (hbase : base ≤ W.heap.size) :
    ∃ v' w', (Builtin.append_ #[t, t] ty #[v, .slice (some a) 1 c]).run P W = .ok v' w' ∧ OwnsM w' base e v' (xs ++ [y]) ∧ Below base W w' := by
  obtain ⟨g, cap, cur, fz, rfl, hbg, hg, hfz, hnc, hcm, hcs, htake⟩ := hown
  have hnews : ∀ j u, [y][j]? = some u → W.cell? (a.add j) = some u := by
    intro j u hj
    match j with
    | 0 => simp at hj; subst hj; rw [add_zero_]; exact hy
    | j + 1 => simp at hj
  by_cases hroom : xs.length + 1 ≤ cap
  · have hf := run_firstCells_some (P := P) W i.size 1 a 1 c [y] (by rw [hsize]; rfl) hnews
    have hst := run_store_one P g (xs.length * i.size) e fz y cur W hg hfz (by rw [hsize, hcs]; omega) h1
    refine ⟨.slice (some ⟨g, 0, none⟩) (xs.length + 1) cap, W.setRow g (cur.setIfInBounds (xs.length * i.size) y), ?_, ?_, ?_⟩
    · simp [Builtin.append_, run_underlying ht, sizeOf, typeInfo, hi, Builtin.lenOf, hroom, hf, Addr.add_lit, hst]
    · refine ⟨g, cap, _, fz, by simp, hbg, setRow_heap W g cur _ e _ hg, ?_, by simpa using hroom, hcm, by simpa using hcs, ?_⟩
      · rcases hfz with h | h
        · exact .inl h
        · exact .inr (by simpa using h)
      · rw [hsize, Nat.mul_one, Array.toList_setIfInBounds, List.length_append, List.length_singleton]
        have hlt : xs.length < cur.toList.length := by simp; omega
        rw [List.take_succ_eq_append_getElem (by simpa using hlt)]
        simp only [List.getElem_set_self]
        rw [List.take_set_of_le (Nat.le_refl _), htake]
    · exact ⟨rfl, rfl, rfl, by simp, fun k hk => setRow_other W g k _ (by omega)⟩
  · have holds : ∀ j u, xs[j]? = some u → W.cell? ((⟨g, 0, none⟩ : Addr).add j) = some u := by
      intro j u hu
      rw [add_plain, cell_of_row W g j cur e fz hg]
      rw [← htake, List.getElem?_take] at hu
      split at hu
      · simpa using hu
      · cases hu
    have hr := run_append_grow (P := P) W t ty e i z ht hi hz ⟨g, 0, none⟩ xs.length cap xs (by rw [hsize, Nat.mul_one]) holds a 1 c [y] (by rw [hsize]; rfl) hnews (by omega) (by omega) (growslice_fits (by omega) (by rw [hby]; omega))
    have hge := grownCap_ge W (xs.length + 1) cap e
    refine ⟨_, _, hr, ?_, ?_⟩
    · refine ⟨W.heap.size, grownCap W (xs.length + 1) cap e, _, (0, 0), by simp, hbase, heap_alloc_new W.drew _, .inl rfl, by simpa using hge, grownCap_le_maxLen W _ _ e (by simp only [maxLen]; omega), ?_, ?_⟩
      · simp only [Array.size_append, List.size_toArray, size_zeroCells, hzs, List.length_singleton]; omega
      · simp only [Array.toList_append]
        exact List.take_left' (by simp)
    · exact ⟨rfl, rfl, rfl, by simp, fun k hk => heap_alloc_old W.drew _ (show k < W.drew.heap.size from Nat.lt_of_lt_of_le hk hbase)⟩

/-- 'b = append(b, y)', b a row of the kind above. -/
theorem append_M {w0 W : World} {ops : Array Oper} {rest : List Oper} {o : Oper} {a : Act} {Q : Exit → Act → World → Prop} (base : Nat) (hgd : o.guard = none) (s x : Operand) (t e : TypeId) (k : IntKind)
    (ho : o.op = .call { callee := .builtin .append, args := #[s, x], argTypes := #[t, t] })
    (ht : P.underlying t = some (.slice e)) (hinfo : (P.info? e).map (fun i => (i.zero, i.size, i.bytes)) = some (some (.int k 0), 1, 1))
    (v : Value) (xs : List Int) (y : Int) (hs : a.eval s = v) (hx : a.eval x = .slice (some ⟨W.heap.size, 0, none⟩) 1 1)
    (HO : OwnsM W base e v (nums k xs)) (HB : Below base w0 W) (hbase : base ≤ W.heap.size) (hl : xs.length + 1 ≤ 140737488355328)
    (h : ∀ v1 w1, OwnsM w1 base e v1 (nums k (xs ++ [y])) → Below base w0 w1 → base ≤ w1.heap.size → wpList P ops Q rest (a.put o.dst v1) w1) :
    wpList P ops Q (o :: rest) a (W.alloc (.cells #[.int k y] e)) := by
  obtain ⟨i0, hi, hzz⟩ := Option.map_eq_some_iff.1 hinfo
  simp only [Prod.mk.injEq] at hzz
  obtain ⟨hz0, hz1, hz2⟩ := hzz
  refine wpList_plain hgd fun _ hK => ?_
  have hal : Below W.heap.size W (W.alloc (.cells #[.int k y] e)) := (Below.refl _ _).alloc (Nat.le_refl _) _
  obtain ⟨v1, w1, hr, h2, h3⟩ := run_append_M (P := P) (W.alloc (.cells #[.int k y] e)) base t o.type e i0 (.int k 0) ht hi hz0 hz1 hz2 rfl v (nums k xs) (HO.below hal) ⟨W.heap.size, 0, none⟩ 1 (.int k y)
    (by simp) rfl (by rw [nums_length]; exact hl) (by simp; omega)
  unfold Oper.wp execOp
  simp only [ho, resolve, invoke, builtin, Sem.run_bind, Sem.run_pure, Result.andThen_ok, List.map_toArray, List.map_cons, List.map_nil, hs, hx, hr]
  have hB : Below base w0 (W.alloc (.cells #[.int k y] e)) := HB.alloc hbase _
  refine hK _ _ (h v1 w1 (by simpa [nums] using h2) (hB.trans h3) ?_)
  have := h3.size
  simp at this; omega

/-- '[]byte(s)' itself. -/
theorem ownsM_bytes (W : World) (base : Nat) (e : TypeId) (s : ByteArray) (hb : base ≤ W.heap.size) (hs : s.size ≤ 9223372036854775807) :
    OwnsM (Lib.bytesWorld W e s) base e (.slice (some ⟨W.heap.size, 0, none⟩) s.size (grownCap W s.size 0 e)) (nums .u8 (bytesOf s)) := by
  have hge := grownCap_ge W s.size 0 e
  have hle := grownCap_le_maxLen W s.size 0 e (by simp only [maxLen]; omega)
  have hl : (nums .u8 (bytesOf s)).length = s.size := by rw [nums_length, bytesOf_length]
  have hsz : (Lib.bytesCells W e s).size = grownCap W s.size 0 e := by
    simp [Lib.bytesCells]; omega
  refine ⟨W.heap.size, grownCap W s.size 0 e, _, _, by rw [hl], hb, Lib.bytesWorld_at_new W e s, .inr (Nat.le_refl _), by rw [hl]; exact hge, hle, hsz, ?_⟩
  rw [hl]
  simp only [Lib.bytesCells, Array.toList_append, Array.toList_map]
  rw [List.take_left' (by simp)]
  simp [nums, bytesOf]
/-- .. as a text again. -/
theorem string_M {W : World} {base : Nat} {src dst e : TypeId} {v : Value} {xs : List Int} (hs : P.underlying src = some (.slice e)) (he : P.underlying e = some (.int .u8)) (hd : P.underlying dst = some .string)
    (h : OwnsM W base e v (nums .u8 xs)) : ∃ A c, v = .slice A xs.length c ∧ (convert src dst v).run P W = .ok (.string (strOfNums xs)) W := by
  obtain ⟨g, cap, cur, fz, rfl, hbg, hg, hfz, hnc, hcm, hcs, htake⟩ := h
  refine ⟨_, _, by rw [nums_length], ?_⟩
  rw [nums_length] at *
  refine string_of_reads hs he hd ⟨rfl, by simp only [maxLen] at hcm; omega, fun _ => ⟨_, rfl, fun j hj => ?_⟩⟩
  rw [add_plain, cell_of_row W g j cur e fz hg]
  have : (cur.toList.take xs.length)[j]? = (nums .u8 xs)[j]? := by rw [htake]
  rw [List.getElem?_take_of_lt hj] at this
  rw [← Array.getElem?_toList, this]
  simp [nums, List.getD_eq_getElem?_getD, List.getElem?_eq_getElem hj]
end

/-- What is put: the text, and its bytes turned. -/
def acc (s : ByteArray) (k : Nat) : List Int := bytesOf s ++ (List.range k).map fun j => 255 - bt s (j : Nat)
theorem acc_length (s : ByteArray) (k : Nat) : (acc s k).length = s.size + k := by simp [acc, bytesOf_length]
theorem acc_snoc (s : ByteArray) (k : Nat) : acc s (k + 1) = acc s k ++ [255 - bt s (k : Nat)] := by simp [acc, List.range_succ]
theorem xor255 (c : UInt8) : bits .xor .u8 IntKind.u8.max (c.toNat : Int) = 255 - (c.toNat : Int) := by
  have : ∀ n : Fin 256, bits .xor .u8 IntKind.u8.max ((n.val : Nat) : Int) = 255 - ((n.val : Nat) : Int) := by decide +kernel
  exact this ⟨c.toNat, c.toNat_lt⟩
theorem sub255 (c : UInt8) : (255 - (c.toNat : Int)) % 256 = 255 - (c.toNat : Int) := by
  have := c.toNat_lt; omega
end Go.Proofs.ByteRow
