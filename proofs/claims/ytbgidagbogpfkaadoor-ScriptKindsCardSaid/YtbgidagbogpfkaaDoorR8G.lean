import Derived.Test.YtbgidagbogpfkaaDoorR8F
/- Texts of acts; a builder in the machine. -/
namespace Go.AM
open Go.Proofs
set_option linter.unusedVariables false
set_option linter.unusedSimpArgs false
set_option maxRecDepth 100000
attribute [-simp] ByteArray.size_eq_zero_iff Heap.store Heap.row
/-! ### texts -/
def S (l : List UInt8) : ByteArray := ⟨l.toArray⟩
theorem L_S (l : List UInt8) : L (S l) = l := rfl
theorem S_L (s : ByteArray) : S (L s) = s := L_inj rfl
theorem S_app (a b : List UInt8) : S a ++ S b = S (a ++ b) := by apply L_inj; rw [L_append, L_S, L_S, L_S]
theorem S_size (l : List UInt8) : (S l).size = l.length := by rw [← L_length, L_S]
theorem dg_S (n : Nat) : dg (n : Int) = S (Lib.decDigits n) := dg_nat n
theorem S_inj {a b : List UInt8} (h : S a = S b) : a = b := by rw [← L_S a, h, L_S]
theorem decDigits_len {n : Nat} (h : n ≤ 1000) : (Lib.decDigits n).length ≤ 4 ∧ Lib.decDigits n ≠ [] := by
  have e : ∀ k : Nat, Lib.decDigits k = (if k < 10 then [] else Lib.decDigits (k / 10)) ++ [UInt8.ofNat (48 + k % 10)] := fun k => by
    rw [Lib.decDigits]
    by_cases hk : k < 10
    · rw [dif_pos hk, if_pos hk, Nat.mod_eq_of_lt hk]; rfl
    · rw [dif_neg hk, if_neg hk]
  refine ⟨?_, by rw [e]; simp⟩
  rw [e, e (n / 10), e (n / 10 / 10), e (n / 10 / 10 / 10)]
  rw [if_pos (show n / 10 / 10 / 10 < 10 by omega)]
  simp only [List.length_append, List.length_singleton]
  have l : ∀ (c : Prop) [Decidable c] (x : List UInt8), (if c then [] else x).length ≤ x.length := fun c _ x => by split <;> simp
  have l1 := l (n < 10) ((if n / 10 < 10 then [] else (if n / 10 / 10 < 10 then [] else [] ++ [UInt8.ofNat (48 + n / 10 / 10 / 10 % 10)]) ++ [UInt8.ofNat (48 + n / 10 / 10 % 10)]) ++ [UInt8.ofNat (48 + n / 10 % 10)])
  have l2 := l (n / 10 < 10) ((if n / 10 / 10 < 10 then [] else [] ++ [UInt8.ofNat (48 + n / 10 / 10 / 10 % 10)]) ++ [UInt8.ofNat (48 + n / 10 / 10 % 10)])
  have l3 := l (n / 10 / 10 < 10) ([] ++ [UInt8.ofNat (48 + n / 10 / 10 / 10 % 10)])
  simp only [List.length_append, List.length_singleton, List.length_nil] at l1 l2 l3
  omega
def numL (n : Nat) : List UInt8 := Lib.decDigits n ++ [32]
def textL (w : ByteArray) : List UInt8 := Lib.decDigits w.size ++ 58 :: L w
def numsA (a : Ac) : List Nat := [a.kind.toNat, a.cut.toNat, a.at_.toNat, (a.torn + 1).toNat]
def textsA (a : Ac) : List ByteArray := [a.name, a.parent, a.to, a.path, a.text, a.keep]
def oneL (a : Ac) : List UInt8 := (numsA a).flatMap numL ++ (textsA a).flatMap textL
def showL (xs : List Ac) : List UInt8 := xs.flatMap oneL
structure MayP (a : Ac) : Prop where
  kind : 0 ≤ a.kind ∧ a.kind ≤ 12
  cut : 0 ≤ a.cut ∧ a.cut ≤ 1000
  at_ : 0 ≤ a.at_ ∧ a.at_ ≤ 64
  torn : -1 ≤ a.torn ∧ a.torn ≤ 512
  keep : a.keep.size ≤ 512
  words : a.name.size ≤ 8 ∧ a.parent.size ≤ 8 ∧ a.to.size ≤ 8 ∧ a.path.size ≤ 8 ∧ a.text.size ≤ 8
theorem MayP.of {a : Ac} (h : mayB a = true) : MayP a := by
  rw [may_eq] at h
  simp only [mayR, Bool.and_eq_true, decide_eq_true_eq] at h
  obtain ⟨⟨⟨⟨⟨⟨⟨⟨⟨⟨⟨⟨⟨⟨⟨h1, h2⟩, h3⟩, h4⟩, h5⟩, h6⟩, h7⟩, h8⟩, h9⟩, h10⟩, h11⟩, h12⟩, h13⟩, h14⟩, h15⟩, h16⟩ := h
  exact ⟨⟨h1, h2⟩, ⟨h8, h9⟩, ⟨h14, h15⟩, ⟨h12, h13⟩, h11, h3, h4, h5, h6, h7⟩
theorem MayP.nums {a : Ac} (h : MayP a) {n : Nat} (hn : n ∈ numsA a) : n ≤ 1000 := by
  have h1 := h.kind; have h2 := h.cut; have h3 := h.at_; have h4 := h.torn
  simp only [numsA, List.mem_cons, List.not_mem_nil, or_false] at hn
  omega
theorem MayP.texts {a : Ac} (h : MayP a) {w : ByteArray} (hw : w ∈ textsA a) : w.size ≤ 512 := by
  obtain ⟨w1, w2, w3, w4, w5⟩ := h.words
  have := h.keep
  simp only [textsA, List.mem_cons, List.not_mem_nil, or_false] at hw
  rcases hw with rfl | rfl | rfl | rfl | rfl | rfl <;> omega
theorem flat_bound {α : Type} (f : α → List UInt8) (m : Nat) : ∀ xs : List α, (∀ x ∈ xs, (f x).length ≤ m) → (xs.flatMap f).length ≤ xs.length * m
  | [], _ => by simp
  | x :: xs, h => by
    rw [List.flatMap_cons, List.length_append, List.length_cons, Nat.succ_mul]
    have h1 := h x (by simp)
    have h2 := flat_bound f m xs fun y hy => h y (by simp [hy])
    omega
theorem numL_len {n : Nat} (h : n ≤ 1000) : (numL n).length ≤ 5 := by
  have := (decDigits_len h).1
  simp [numL]; omega
theorem textL_len {w : ByteArray} (h : w.size ≤ 512) : (textL w).length ≤ 517 := by
  have := (decDigits_len (n := w.size) (by omega)).1
  simp only [textL, List.length_append, List.length_cons, L_length]; omega
theorem oneL_len {a : Ac} (h : MayP a) : (oneL a).length ≤ 4000 := by
  have h1 := flat_bound numL 5 (numsA a) fun n hn => numL_len (h.nums hn)
  have h2 := flat_bound textL 517 (textsA a) fun w hw => textL_len (h.texts hw)
  simp only [oneL, List.length_append]
  have e1 : (numsA a).length = 4 := rfl
  have e2 : (textsA a).length = 6 := rfl
  omega
theorem showL_len (xs : List Ac) (h : ∀ a ∈ xs, MayP a) : (showL xs).length ≤ xs.length * 4000 := flat_bound oneL 4000 xs fun a ha => oneL_len (h a ha)
/-! ### a builder -/
structure Bu (H : Heap) (b : Nat) (l : List UInt8) (x : Value) : Prop where
  lt : b < H.next
  blk : ∃ B, H.blk b = some B ∧ B.ty = some (46, true) ∧ B.ro = false ∧ B.esz = 2 ∧ (B.at_ 0 = some (.pointer none) ∨ B.at_ 0 = some (ptr b 0)) ∧ B.at_ 1 = some x
  buf : (x = .slice none 0 0 ∧ l = []) ∨ ∃ bb C, b < bb ∧ bb < H.next ∧ x = .slice (some ⟨bb, 0, none⟩) l.length (2 * l.length) ∧ l ≠ [] ∧ H.blk bb = some C ∧ C.ty = some (5, false) ∧ C.ro = false ∧ C.esz = 1 ∧ ∀ j, j < l.length → C.at_ j = (l.flatMap encB)[j]?
theorem Bu.new (H : Heap) : Bu (H.add { rowBlk 2 [.pointer none, .slice none 0 0] with ty := some (46, true) }) H.next [] (.slice none 0 0) :=
  ⟨by simp, ⟨_, blk_add_new _ _, rfl, rfl, rfl, .inl rfl, rfl⟩, .inl ⟨rfl, rfl⟩⟩
theorem Bu.notIn {H : Heap} {b : Nat} {l : List UInt8} {x : Value} (h : Bu H b l x) {k : Nat} (hk : k ≤ b) : NotIn x k := by
  intro a n c e
  rcases h.buf with ⟨rfl, _⟩ | ⟨bb, C, h1, h2, rfl, _⟩
  · cases e
  · cases e; simp only; omega
theorem Bu.notNew {H : Heap} {b : Nat} {l : List UInt8} {x : Value} (h : Bu H b l x) {k : Nat} (hk : H.next ≤ k) : NotIn x k := by
  intro a n c e
  rcases h.buf with ⟨rfl, _⟩ | ⟨bb, C, h1, h2, rfl, _⟩
  · cases e
  · cases e; simp only; omega
theorem Bu.ext {H H' : Heap} {b : Nat} {l : List UInt8} {x : Value} (h : Bu H b l x) (he : Ext H H') : Bu H' b l x := by
  refine ⟨by have := h.lt; have := he.next; omega, ?_, ?_⟩
  · obtain ⟨B, h1, h2⟩ := h.blk
    exact ⟨B, by rw [he.blk b h.lt]; exact h1, h2⟩
  · rcases h.buf with h1 | ⟨bb, C, h1, h2, h3, h4, h5, h6⟩
    · exact .inl h1
    · exact .inr ⟨bb, C, h1, by have := he.next; omega, h3, h4, by rw [he.blk bb h2]; exact h5, h6⟩
theorem bytes_flat (l : List UInt8) : l.flatMap encB = rowOfBytes (S l) := by
  induction l with
  | nil => rfl
  | cons d l ih => rw [List.flatMap_cons, ih]; rfl
theorem bytesOfRow_flat (l : List UInt8) : bytesOfRow (l.flatMap encB) = some l := by
  rw [bytes_nums, nums_bytes]
  show some _ = _
  rw [List.map_map]
  congr 1
  conv => rhs; rw [← List.map_id l]
  refine List.map_congr_left fun x _ => ?_
  simp
theorem Bu.string {H : Heap} {b : Nat} {l : List UInt8} {x : Value} (h : Bu H b l x) (hl : l.length ≤ 140737488355328) : ∃ H', call K f_strings_Builder_String [.pointer (some ⟨b, 0, none⟩)] H = some (.string (S l), H') := by
  obtain ⟨B, h1, h2, h3, h4, h5, h6⟩ := h.blk
  rw [string_eq]
  rcases h.buf with ⟨rfl, rfl⟩ | ⟨bb, C, g1, g2, rfl, g3, g4, g5, g6, g7, g8⟩
  · exact ⟨H, by simp [stringX, h1, h2, h3, h4, h6]; rfl⟩
  · have hrow : H.row bb 0 l.length = some (l.flatMap encB) := by
      refine row_of _ 0 (by rw [flat_len encB_len]; omega) fun j hj => ?_
      rw [Nat.zero_add, show H.cell bb j = C.at_ j by simp only [Heap.cell, g4]]; exact g8 j hj
    refine ⟨H.set bb none, ?_⟩
    have hpos : 0 < l.length := List.length_pos_iff.2 g3
    simp only [stringX, h1, h6, g4, hrow, bytesOfRow_flat]
    rw [if_pos ⟨h2, h3, h4⟩, if_pos ⟨g5, g6, g7, hpos, hl, by rw [bytes_flat]; rfl⟩]
    rfl
theorem Bu.write {H : Heap} {b : Nat} {l : List UInt8} {x : Value} (h : Bu H b l x) (s : List UInt8) (hs : s ≠ []) (hl : l.length + s.length ≤ 140737488355328) :
    ∃ H' x' v, call K f_strings_Builder_WriteString [.pointer (some ⟨b, 0, none⟩), .string (S s)] H = some (v, H') ∧ Bu H' b (l ++ s) x' ∧ H.next ≤ H'.next ∧ (∀ k, k < H.next → k ≠ b → NotIn x k → H'.blk k = H.blk k) ∧ ∀ k, k < H.next → NotIn x' k := by
  obtain ⟨B, h1, h2, h3, h4, h5, h6⟩ := h.blk
  have hlt := h.lt
  have hsz : (S s).size = s.length := S_size s
  have hk : (S s).size ≠ 0 := by rw [hsz]; intro e; exact hs (List.eq_nil_of_length_eq_zero e)
  have hbuf : BufOk H b x := by
    rcases h.buf with ⟨rfl, rfl⟩ | ⟨bb, C, g1, g2, rfl, g3, g4, g5, g6, g7, g8⟩
    · exact .inl rfl
    · exact .inr ⟨bb, _, C, by omega, rfl, List.length_pos_iff.2 g3, g4, g5⟩
  have hc0 : ∃ v0, B.at_ 0 = some v0 := by rcases h5 with h | h <;> exact ⟨_, h⟩
  obtain ⟨v0, hv0⟩ := hc0
  have hst : H.store b 0 [ptr b 0] = some (H.set b (some (B.puts 0 [ptr b 0]))) := store_row h1 h3 (by simp [Heap.row, Heap.cell, h1, hv0]) rfl (by simp)
  generalize hH1 : H.set b (some (B.puts 0 [ptr b 0])) = H1 at hst
  have n1 : H1.next = H.next := by subst hH1; rfl
  have b1 : H1.blk b = some (B.puts 0 [ptr b 0]) := by subst hH1; exact blk_set_self _ _ _
  have o1 : ∀ k, k ≠ b → H1.blk k = H.blk k := fun k hk => by subst hH1; exact blk_set_ne hk
  have own : Own encB 1 0 H1 x l := by
    rcases h.buf with ⟨rfl, rfl⟩ | ⟨bb, C, g1, g2, rfl, g3, g4, g5, g6, g7, g8⟩
    · exact Own.nil
    · exact ⟨by omega, .inr ⟨bb, C, rfl, by omega, by omega, by rw [o1 _ (by omega)]; exact g4, g6, g7, fun j hj => g8 j (by omega)⟩⟩
  have happ := own.app encB_len (bytes := 1) (k := (S s).size) (rowOfBytes (S s)) hk (by rw [← bytes_flat]; exact one_flat encB_one s) (by omega) (by omega)
  rw [hsz] at happ
  generalize hH2 : (killB x H1).add (rowBlk 1 (l.flatMap encB ++ rowOfBytes (S s))) = H2 at happ
  have nk : (killB x H1).next = H.next := by rw [next_killB, n1]
  have n2 : H2.next = H.next + 1 := by subst hH2; rw [next_add, nk]
  have b2 : H2.blk b = some (B.puts 0 [ptr b 0]) := by
    subst hH2
    rw [blk_add_old (by omega), blk_killB (h.notIn (Nat.le_refl _)), b1]
  have c2 : H2.blk H.next = some (rowBlk 1 (l.flatMap encB ++ rowOfBytes (S s))) := by
    subst hH2
    rw [← nk, blk_add_new]
  have o2 : ∀ k, k < H.next → k ≠ b → NotIn x k → H2.blk k = H.blk k := fun k hk hkb hx => by
    subst hH2
    rw [blk_add_old (by omega), blk_killB hx, o1 k hkb]
  have at1 : (B.puts 0 [ptr b 0]).at_ 1 = some x := by
    have : (B.puts 0 [ptr b 0]).at_ 1 = B.at_ 1 := rfl
    rw [this]; exact h6
  have at0 : (B.puts 0 [ptr b 0]).at_ 0 = some (ptr b 0) := rfl
  rw [n1] at happ
  have hst2 : H2.store b 1 [.slice (some ⟨H.next, 0, none⟩) (l.length + s.length) (2 * (l.length + s.length))] = some (H2.set b (some ((B.puts 0 [ptr b 0]).puts 1 [.slice (some ⟨H.next, 0, none⟩) (l.length + s.length) (2 * (l.length + s.length))]))) :=
    store_row b2 h3 (by simp only [List.length_singleton, Heap.row, Heap.cell, b2, at1]; rfl) rfl (by simp)
  generalize hH3 : H2.set b (some ((B.puts 0 [ptr b 0]).puts 1 [.slice (some ⟨H.next, 0, none⟩) (l.length + s.length) (2 * (l.length + s.length))])) = H3 at hst2
  have hne : H.next ≠ b := by omega
  have c3 : H3.blk H.next = some (rowBlk 1 (l.flatMap encB ++ rowOfBytes (S s))) := by
    subst hH3; rw [blk_set_ne hne]; exact c2
  have b3 : H3.blk b = some ((B.puts 0 [ptr b 0]).puts 1 [.slice (some ⟨H.next, 0, none⟩) (l.length + s.length) (2 * (l.length + s.length))]) := by
    subst hH3; exact blk_set_self _ _ _
  have o3 : ∀ k, k < H.next → k ≠ b → NotIn x k → H3.blk k = H.blk k := fun k hk hkb hx => by
    subst hH3; rw [blk_set_ne hkb, o2 k hk hkb hx]
  have n3 : H3.next = H.next + 1 := by subst hH3; exact n2
  refine ⟨H3.set H.next (some { rowBlk 1 (l.flatMap encB ++ rowOfBytes (S s)) with ty := some (5, false) }), .slice (some ⟨H.next, 0, none⟩) (l.length + s.length) (2 * (l.length + s.length)), .tuple #[.int .i64 (s.length : Int), .nilIface], ?_, ⟨?_, ?_, .inr ⟨H.next, { rowBlk 1 (l.flatMap encB ++ rowOfBytes (S s)) with ty := some (5, false) }, hlt, ?_, ?_, ?_, blk_set_self _ _ _, rfl, rfl, rfl, ?_⟩⟩, ?_, ?_, ?_⟩
  · rw [write_eq]
    simp only [writeX, h1, h6]
    rw [if_pos ⟨h2, h3, h4, h5, hk⟩, if_pos hbuf, hst]
    simp only [hsz, happ, b2]
    rw [if_pos ⟨h2, h3, h4, by rw [at1]; rfl⟩, hst2]
    simp only [c3]
  · show b < H3.next
    omega
  · refine ⟨(B.puts 0 [ptr b 0]).puts 1 [.slice (some ⟨H.next, 0, none⟩) (l.length + s.length) (2 * (l.length + s.length))], ?_, h2, h3, h4, .inr ?_, ?_⟩
    · rw [blk_set_ne (by omega)]; exact b3
    · exact at0
    · rfl
  · show H.next < H3.next
    omega
  · rw [List.length_append]
  · simp [hs]
  · intro j hj
    show (l.flatMap encB ++ rowOfBytes (S s))[j]? = _
    rw [List.flatMap_append, bytes_flat s]
  · show H.next ≤ H3.next
    omega
  · intro k hk hkb hx
    rw [blk_set_ne (by omega)]; exact o3 k hk hkb hx
  · intro k hk a n c e
    cases e
    simp only; omega
end Go.AM
