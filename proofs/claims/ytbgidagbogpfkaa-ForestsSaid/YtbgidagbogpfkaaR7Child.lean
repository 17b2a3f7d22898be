import Derived.Test.YtbgidagbogpfkaaR7CodeL
import Derived.Test.YtbgidagbogpfkaaR7Kept
/- The law ForestChild: true. -/
namespace Go.AM
open Go.Proofs
set_option linter.unusedVariables false
set_option linter.unusedSimpArgs false
set_option maxRecDepth 100000
attribute [-simp] ByteArray.size_eq_zero_iff
/-! ### the plain law -/
theorem begin_words {xs : List Inf} {ns : List ByteArray} (h : beginE xs ns = 0) : mayB xs = true ∧ ∀ s ∈ ns, wordB s 4 = true := by
  obtain ⟨h1, h2⟩ := beginE_zero h
  exact ⟨h1, List.all_eq_true.1 h2⟩
/-- What preparing leaves. -/
theorem prepare_law {xs : List Inf} {name parent : ByteArray} {kind : Int} (h : (prepareS xs name parent kind).2 = 0) :
    ∃ fs, mayB xs = true ∧ wordB name 4 = true ∧ (kind = 0 ∨ kind = 1) ∧ hasN (xs.map Inf.name) name = false ∧ xs.length < 6 ∧ (prepareS xs name parent kind).1 = insAt xs (posN (xs.map Inf.name) name) ⟨name, kind, parent, ⟨#[]⟩, fs⟩ ∧
      ((parent = ⟨#[]⟩ ∧ fs = []) ∨ ∃ y ∈ xs, y.name = parent ∧ y.kind = 2 ∧ fs = y.files.map unown) := by
  unfold prepareS at h ⊢
  split at h
  · rename_i h1; exact absurd h h1
  rename_i h1
  split at h
  · simp at h
  rename_i h2
  split at h
  · simp at h
  rename_i h3
  rw [if_neg h1, if_neg h2, if_neg h3]
  obtain ⟨hm, hw⟩ := begin_words (show beginE xs (prepNs name parent) = 0 by simpa using h1)
  have hwn : wordB name 4 = true := hw name (by unfold prepNs; split <;> simp)
  have hk : kind = 0 ∨ kind = 1 := by
    by_cases a : kind = 0
    · exact .inl a
    · by_cases b : kind = 1
      · exact .inr b
      · exact absurd ⟨a, b⟩ h2
  have hh : hasN (xs.map Inf.name) name = false := by simpa using h3
  have h6 := (mayB_all hm).2.2.2
  split at h
  · rename_i h4
    rw [if_pos h4]
    split at h
    · simp at h
    rename_i h5
    rw [if_neg h5]
    exact ⟨[], hm, hwn, hk, hh, by omega, rfl, .inl ⟨h4, rfl⟩⟩
  · rename_i h4
    rw [if_neg h4]
    split at h
    · simp at h
    rename_i h5
    rw [if_neg h5]
    have hhp : hasN (xs.map Inf.name) parent = true := by simpa using h5
    obtain ⟨k1, k2⟩ := idx_sorted (mayB_all hm).2.1 hhp
    have k1' : posN (xs.map Inf.name) parent < xs.length := by simpa using k1
    rw [List.getElem?_eq_getElem k1'] at h ⊢
    simp only at h ⊢
    split at h
    · simp at h
    rename_i h7
    rw [if_neg h7]
    split at h
    · simp at h
    rename_i h8
    rw [if_neg h8]
    exact ⟨_, hm, hwn, hk, hh, by omega, rfl, .inr ⟨_, List.getElem_mem k1', idx_name k2 k1', by simpa using h7, rfl⟩⟩
theorem prepare_may {xs : List Inf} {name parent : ByteArray} {kind : Int} (h : (prepareS xs name parent kind).2 = 0) : mayB (prepareS xs name parent kind).1 = true := by
  obtain ⟨fs, hm, hw, hk, hn, hl, he, hp⟩ := prepare_law h
  rw [he]
  obtain ⟨m1, m2, m3, m4⟩ := mayB_all hm
  refine may_ins (x := ⟨name, kind, parent, ⟨#[]⟩, fs⟩) hm ?_ hn ?_ hl
  · have hf : filesB (decide (kind = 1)) fs = true := by
      rcases hp with ⟨_, rfl⟩ | ⟨y, hy, _, _, rfl⟩
      · rfl
      · obtain ⟨f1, f2, f3⟩ := filesB_inv (infB_files (m1 y hy))
        refine filesB_of (fun f hf => ?_) (by rw [List.map_map]; exact f2) (by simpa using f3)
        obtain ⟨g, hg, rfl⟩ := List.mem_map.1 hf
        have := f1 g hg
        simp only [filB, Bool.and_eq_true] at this
        simp [filB, unown, this.1.1, this.1.2]
        exact this.1.2
    simp only [infB, Bool.and_eq_true, decide_eq_true_eq]
    exact ⟨⟨⟨hw, by omega⟩, by decide⟩, hf⟩
  · rcases hp with ⟨h1, _⟩ | ⟨y, hy, h1, h2, _⟩
    · exact .inl h1
    · exact .inr ⟨y, by show look xs parent = _; rw [← h1]; exact look_of m2 hy, h2⟩
/-- The last of a row that bears a name. -/
def zeroP : Inf × Value := (⟨⟨#[]⟩, 0, ⟨#[]⟩, ⟨#[]⟩, []⟩, .slice none 0 0)
def lastP (rs : List (Inf × Value)) (p : ByteArray) : Inf × Value := rs.foldl (fun a x => if x.1.name = p then x else a) zeroP
theorem last_gen (p : ByteArray) : ∀ (rs : List (Inf × Value)) (a : Inf × Value), let r := rs.foldl (fun a x => if x.1.name = p then x else a) a; (r = a ∧ ∀ q ∈ rs, q.1.name ≠ p) ∨ (r ∈ rs ∧ r.1.name = p)
  | [], a => .inl ⟨rfl, fun q h => by cases h⟩
  | x :: rs, a => by
    simp only [List.foldl_cons]
    by_cases e : x.1.name = p
    · rw [if_pos e]
      rcases last_gen p rs x with ⟨h1, h2⟩ | ⟨h1, h2⟩
      · right
        rw [h1]
        exact ⟨by simp, e⟩
      · exact .inr ⟨List.mem_cons_of_mem _ h1, h2⟩
    · rw [if_neg e]
      rcases last_gen p rs a with ⟨h1, h2⟩ | ⟨h1, h2⟩
      · refine .inl ⟨h1, fun q hq => ?_⟩
        rcases List.mem_cons.1 hq with rfl | hq
        · exact e
        · exact h2 q hq
      · exact .inr ⟨List.mem_cons_of_mem _ h1, h2⟩
theorem last_spec (rs : List (Inf × Value)) (p : ByteArray) : (lastP rs p = zeroP ∧ ∀ q ∈ rs, q.1.name ≠ p) ∨ (lastP rs p ∈ rs ∧ (lastP rs p).1.name = p) := last_gen p rs zeroP
theorem last_take {rs : List (Inf × Value)} {p : ByteArray} {j : Nat} (h : j < rs.length) : lastP (rs.take (j + 1)) p = if rs[j].1.name = p then rs[j] else lastP (rs.take j) p := by
  unfold lastP
  rw [List.take_succ_eq_append_getElem h, List.foldl_append]; rfl
theorem last_is {rs : List (Inf × Value)} (hs : Sorted ((infs rs).map Inf.name)) {x : Inf} (hx : x ∈ infs rs) : (lastP rs x.name).1 = x := by
  rcases last_spec rs x.name with ⟨_, h⟩ | ⟨h1, h2⟩
  · obtain ⟨q, hq, rfl⟩ := List.mem_map.1 hx
    exact absurd rfl (h q hq)
  · exact name_inj hs (List.mem_map.2 ⟨_, h1, rfl⟩) hx h2
/-- What the child and its parent are, in what preparing leaves. -/
theorem child_law {xs : List Inf} {name parent : ByteArray} {kind : Int} {rs : List (Inf × Value)} (h : (prepareS xs name parent kind).2 = 0) (hr : infs rs = (prepareS xs name parent kind).1) :
    rs.length = xs.length + 1 ∧ ∃ fs, (lastP rs name).1 = ⟨name, kind, parent, ⟨#[]⟩, fs⟩ ∧ fs = (lastP rs parent).1.files.map unown := by
  have hmay := prepare_may h
  obtain ⟨fs, hm, hw, hk, hn, hl, he, hp⟩ := prepare_law h
  rw [← hr] at hmay
  obtain ⟨m1, m2, _, _⟩ := mayB_all hmay
  have hx : (⟨name, kind, parent, ⟨#[]⟩, fs⟩ : Inf) ∈ infs rs := by rw [hr, he]; exact mem_insAt.2 (.inl rfl)
  refine ⟨?_, fs, last_is m2 hx, ?_⟩
  · rw [← infs_length, hr, he, insAt_len _ _ _ (by have := posN_le (xs.map Inf.name) name; simpa using this)]
  · rcases hp with ⟨h1, rfl⟩ | ⟨y, hy, h1, _, rfl⟩
    · rcases last_spec rs parent with ⟨h2, _⟩ | ⟨h2, h3⟩
      · rw [h2]; rfl
      · have := word_ne (infB_name (m1 _ (List.mem_map.2 ⟨_, h2, rfl⟩)))
        exact absurd (h3.trans h1) this
    · have : y ∈ infs rs := by rw [hr, he]; exact mem_insAt.2 (.inr hy)
      rw [← h1, last_is m2 this]
/-! ### the walk -/
/-- A variable that holds a snapshot. -/
def VarP (G : Heap) (b : Nat) (p : Inf × Value) : Prop := ∃ B, G.blk b = some B ∧ B.ro = false ∧ ∀ j, j < 5 → B.at_ j = (encP p)[j]?
theorem VarP.cells {G : Heap} {b : Nat} {p : Inf × Value} (h : VarP G b p) : G.cell b 0 = some (.string p.1.name) ∧ G.cell b 1 = some (.int .i64 p.1.kind) ∧ G.cell b 2 = some (.string p.1.parent) ∧ G.cell b 3 = some (.string p.1.label) ∧ G.cell b 4 = some p.2 ∧ G.row b 0 5 = some (encP p) := by
  obtain ⟨B, h1, _, h3⟩ := h
  refine ⟨?_, ?_, ?_, ?_, ?_, row_of _ 0 rfl fun j hj => ?_⟩
  all_goals simp only [Heap.cell, h1]
  · exact h3 0 (by omega)
  · exact h3 1 (by omega)
  · exact h3 2 (by omega)
  · exact h3 3 (by omega)
  · exact h3 4 (by omega)
  · rw [Nat.zero_add]; exact h3 j hj
theorem VarP.store {G : Heap} {b : Nat} {p q : Inf × Value} (h : VarP G b p) (hq : q.2.oneCell' = true) : ∃ X, G.store b 0 (encP q) = some X ∧ VarP X b q ∧ X.next = G.next ∧ ∀ k, k ≠ b → X.blk k = G.blk k := by
  have hr := h.cells.2.2.2.2.2
  obtain ⟨B, h1, h2, h3⟩ := h
  refine ⟨G.set b (some (B.puts 0 (encP q))), ?_, ⟨_, blk_set_self _ _ _, h2, fun j hj => ?_⟩, rfl, fun k hk => blk_set_ne hk⟩
  · have hlen : (encP q).length = 5 := rfl
    have : (G.row b 0 (encP q).length).isSome = true := by rw [hlen, hr]; rfl
    unfold Heap.store
    simp [-Heap.row, h1, h2, hr, hq]
  · match j, hj with
    | 0, _ => rfl
    | 1, _ => rfl
    | 2, _ => rfl
    | 3, _ => rfl
    | 4, _ => rfl
theorem VarP.other {G X : Heap} {b : Nat} {p : Inf × Value} (h : VarP G b p) (hb : X.blk b = G.blk b) : VarP X b p := by
  obtain ⟨B, h1, h2, h3⟩ := h
  exact ⟨B, by rw [hb]; exact h1, h2, h3⟩
theorem VarP.new (G : Heap) : VarP (G.add (rowBlk 5 [.string ⟨#[]⟩, .int .i64 0, .string ⟨#[]⟩, .string ⟨#[]⟩, .slice none 0 0])) G.next zeroP := ⟨rowBlk 5 [.string ⟨#[]⟩, .int .i64 0, .string ⟨#[]⟩, .string ⟨#[]⟩, .slice none 0 0], by simp [Heap.add], rfl, fun j hj => rfl⟩
/-- Two files laid into variables of their own. -/
theorem new_two3 (G : Heap) (x y : Fil) : ∃ X Y, ((G.add (rowBlk 3 [.string ⟨#[]⟩, .string ⟨#[]⟩, .bool false])).add (rowBlk 3 [.string ⟨#[]⟩, .string ⟨#[]⟩, .bool false])).store G.next 0 (encF x) = some X ∧ X.store (G.next + 1) 0 (encF y) = some Y ∧ Ext G Y ∧ Ext G X ∧
    Y.cell G.next 0 = some (.string x.path) ∧ Y.cell G.next 1 = some (.string x.content) ∧ Y.cell G.next 2 = some (.bool x.own) ∧ Y.cell (G.next + 1) 0 = some (.string y.path) ∧ Y.cell (G.next + 1) 1 = some (.string y.content) := by
  have hA : ((G.add (rowBlk 3 [.string ⟨#[]⟩, .string ⟨#[]⟩, .bool false])).add (rowBlk 3 [.string ⟨#[]⟩, .string ⟨#[]⟩, .bool false])).blk G.next = some (rowBlk 3 [.string ⟨#[]⟩, .string ⟨#[]⟩, .bool false]) := by
    rw [blk_add_old (by simp)]; simp [Heap.add]
  have hB : ((G.add (rowBlk 3 [.string ⟨#[]⟩, .string ⟨#[]⟩, .bool false])).add (rowBlk 3 [.string ⟨#[]⟩, .string ⟨#[]⟩, .bool false])).blk (G.next + 1) = some (rowBlk 3 [.string ⟨#[]⟩, .string ⟨#[]⟩, .bool false]) := by
    simp [Heap.add]
  have hE : Ext G ((G.add (rowBlk 3 [.string ⟨#[]⟩, .string ⟨#[]⟩, .bool false])).add (rowBlk 3 [.string ⟨#[]⟩, .string ⟨#[]⟩, .bool false])) := ((Ext.refl G).add _).add _
  generalize ((G.add (rowBlk 3 [.string ⟨#[]⟩, .string ⟨#[]⟩, .bool false])).add (rowBlk 3 [.string ⟨#[]⟩, .string ⟨#[]⟩, .bool false])) = A at *
  have hB2 : (A.set G.next (some ((rowBlk 3 [.string ⟨#[]⟩, .string ⟨#[]⟩, .bool false]).puts 0 (encF x)))).blk (G.next + 1) = some (rowBlk 3 [.string ⟨#[]⟩, .string ⟨#[]⟩, .bool false]) := by rw [blk_set_ne (by omega)]; exact hB
  have hX : Ext G (A.set G.next (some ((rowBlk 3 [.string ⟨#[]⟩, .string ⟨#[]⟩, .bool false]).puts 0 (encF x)))) := hE.set (Nat.le_refl _) _
  refine ⟨_, (A.set G.next (some ((rowBlk 3 [.string ⟨#[]⟩, .string ⟨#[]⟩, .bool false]).puts 0 (encF x)))).set (G.next + 1) (some ((rowBlk 3 [.string ⟨#[]⟩, .string ⟨#[]⟩, .bool false]).puts 0 (encF y))), ?_, ?_, hX.set (by omega) _, hX, ?_, ?_, ?_, ?_, ?_⟩
  · simp [Heap.store, Heap.row, Heap.cell, hA, rowBlk]
  · simp only [Heap.store, hB2]
    simp [Heap.row, Heap.cell, hB, rowBlk]
  · rw [cell_set_ne (by omega), cell_set_self]; rfl
  · rw [cell_set_ne (by omega), cell_set_self]; rfl
  · rw [cell_set_ne (by omega), cell_set_self]; rfl
  · rw [cell_set_self]; rfl
  · rw [cell_set_self]; rfl
attribute [-simp] Heap.store
def childRest : IC := .seq (.seq (.reg c_law19_ForestChild_r18) (.cond (.t 100) (.seq (.reg c_law19_ForestChild_r19) .ret) .skip)) (.seq (.seq (.reg c_law19_ForestChild_r20) (.block 2 (.loop c_law19_ForestChild_l26))) (.seq (.reg c_law19_ForestChild_r27) .ret))
theorem child_tail {n : Nat} {s1 : List (Inf × Value)} {name parent : ByteArray} {kind : Int} {G1 G : Heap} {pr p1 : Option Addr} {cr k1 : Nat} {e : Env} (w1 : Fo G1 (.slice p1 s1.length k1) s1) (hE : Ext G1 G) (hn2 : G1.next + 2 ≤ G.next) (v12 : VarP G G1.next zeroP) (v13 : VarP G (G1.next + 1) zeroP) (hm : mayB (infs s1) = true)
    (hlen : s1.length = n + 1) (fs : List Fil) (hc : (lastP s1 name).1 = ⟨name, kind, parent, ⟨#[]⟩, fs⟩) (hfs : fs = (lastP s1 parent).1.files.map unown)
    (e0 : e 0 = .slice pr n cr) (e1 : e 1 = .string name) (e2 : e 2 = .string parent) (e9 : e 9 = .int .i64 kind) (e10 : e 10 = .slice p1 s1.length k1) (e12 : e 12 = .pointer (some ⟨G1.next, 0, none⟩)) (e13 : e 13 = .pointer (some ⟨G1.next + 1, 0, none⟩)) (e14 : e 14 = .int .i64 0) :
    wp (nxt (unblock 0 (run K (.loop c_law19_ForestChild_l17) e G)) (run K childRest)) fun x e H => isEnd x = true ∧ flat (e 8) = true ∧ e 8 = .bool true := by
  have h6 : s1.length ≤ 6 := by have := (mayB_all hm).2.2.2; simpa using this
  have zz := may_z hm
  refine wp_nxt (wp_for (fun d e G => ∃ j : Nat, d = s1.length - j ∧ j ≤ s1.length ∧ Ext G1 G ∧ G1.next + 2 ≤ G.next ∧ VarP G G1.next (lastP (s1.take j) name) ∧ VarP G (G1.next + 1) (lastP (s1.take j) parent) ∧ e 0 = .slice pr n cr ∧ e 1 = .string name ∧ e 2 = .string parent ∧ e 9 = .int .i64 kind ∧ e 10 = .slice p1 s1.length k1 ∧ e 12 = .pointer (some ⟨G1.next, 0, none⟩) ∧ e 13 = .pointer (some ⟨G1.next + 1, 0, none⟩) ∧ e 14 = .int .i64 (j : Int)) s1.length ⟨0, by simp, by simp, hE, hn2, v12, v13, e0, e1, e2, e9, e10, e12, e13, e14⟩ ?_)
  clear e0 e1 e2 e9 e10 e12 e13 e14 v12 v13 hE hn2
  rintro d e G ⟨j, rfl, hj, hE, hn2, v12, v13, e0, e1, e2, e9, e10, e12, e13, e14⟩
  by_cases hjl : j < s1.length
  · have hfo := w1.ext hE
    obtain ⟨b, o, rfl, hb, m0⟩ := hfo.rows.row encP_len hjl
    obtain ⟨_, _, hp2, _, t0, _⟩ := hfo.rows.at5 hjl
    cases hp2
    have hbG : b < G1.next := by obtain ⟨_, _, h, hb, _⟩ := w1.rows.row encP_len hjl; cases h; exact hb
    have hone := hfo.one _ (List.getElem_mem hjl)
    have wj := wrap_succ (i := j) (by omega)
    have hc1 := last_take (p := name) hjl
    have hc2 := last_take (p := parent) hjl
    simp at t0
    obtain ⟨X, x1, x2, x3, x4⟩ := v12.store hone
    obtain ⟨Y, y1, y2, y3, y4⟩ := v13.store hone
    have v13X := v13.other (x4 _ (by omega))
    obtain ⟨Z, z1, z2, z3, z4⟩ := v13X.store hone
    have EX : Ext G1 X := ⟨by have := hE.next; omega, fun k hk => by rw [x4 k (by omega)]; exact hE.blk k hk⟩
    have EY : Ext G1 Y := ⟨by have := hE.next; omega, fun k hk => by rw [y4 k (by omega)]; exact hE.blk k hk⟩
    have EZ : Ext G1 Z := ⟨by have := EX.next; omega, fun k hk => by rw [z4 k (by omega)]; exact EX.blk k hk⟩
    have v12Y := v12.other (y4 _ (by omega))
    have v12Z := x2.other (z4 _ (by omega))
    have m0X : X.row b (o + j * 5) 5 = some (encP s1[j]) := (row_congr (H := G) (fun o => by simp only [Heap.cell, x4 b (by omega)]) _ _).trans m0
    have t0X : X.cell b (o + j * 5) = some (.string s1[j].1.name) := by simp only [Heap.cell, x4 b (by omega)]; exact t0
    generalize s1[j] = x at *
    by_cases a1 : x.1.name = name
    · rw [if_pos a1] at hc1
      rw [← hc1] at x2 v12Z
      by_cases a2 : x.1.name = parent
      · rw [if_pos a2] at hc2
        rw [← hc2] at z2
        have a3 : name = parent := a1.symm.trans a2
        simp [-Heap.row, c_law19_ForestChild_l17, e0, e1, e2, e9, e10, e12, e13, e14, hjl, t0, a1, m0, x1, t0X, a3, m0X, z1]
        exact ⟨s1.length - (j + 1), by omega, j + 1, rfl, by omega, EZ, by omega, by rw [← a3]; exact v12Z, z2, wj⟩
      · rw [if_neg a2] at hc2
        rw [← hc2] at v13X
        have a3 : ¬ name = parent := fun h => a2 (a1.trans h)
        simp [-Heap.row, c_law19_ForestChild_l17, e0, e1, e2, e9, e10, e12, e13, e14, hjl, t0, a1, m0, x1, t0X, a3]
        exact ⟨s1.length - (j + 1), by omega, j + 1, rfl, by omega, EX, by omega, x2, v13X, wj⟩
    · rw [if_neg a1] at hc1
      rw [← hc1] at v12 v12Y
      by_cases a2 : x.1.name = parent
      · rw [if_pos a2] at hc2
        rw [← hc2] at y2
        have a3 : ¬ parent = name := fun h => a1 (a2.trans h)
        simp [-Heap.row, c_law19_ForestChild_l17, e0, e1, e2, e9, e10, e12, e13, e14, hjl, t0, a1, m0, y1, a2, a3]
        exact ⟨s1.length - (j + 1), by omega, j + 1, rfl, by omega, EY, by omega, v12Y, y2, wj⟩
      · rw [if_neg a2] at hc2
        rw [← hc2] at v13
        simp [-Heap.row, c_law19_ForestChild_l17, e0, e1, e2, e9, e10, e12, e13, e14, hjl, t0, a1, a2]
        exact ⟨s1.length - (j + 1), by omega, j + 1, rfl, by omega, hE, hn2, v12, v13, wj⟩
  obtain rfl : j = s1.length := by omega
  rw [List.take_length] at v12 v13
  obtain ⟨c0, c1, c2, c3, c4, _⟩ := v12.cells
  obtain ⟨_, _, _, _, d4, _⟩ := v13.cells
  have hfo := w1.ext hE
  have hfc : Fils G (lastP s1 name).2 (lastP s1 name).1.files := by
    rcases last_spec s1 name with ⟨h, _⟩ | ⟨h, _⟩
    · rw [h]; exact Rows.nil
    · exact hfo.fils _ h
  have hfm : Fils G (lastP s1 parent).2 (lastP s1 parent).1.files := by
    rcases last_spec s1 parent with ⟨h, _⟩ | ⟨h, _⟩
    · rw [h]; exact Rows.nil
    · exact hfo.fils _ h
  have hf4 : (lastP s1 parent).1.files.length ≤ 1000 := by
    rcases last_spec s1 parent with ⟨h, _⟩ | ⟨h, _⟩
    · rw [h]; exact Nat.zero_le _
    · have := (filesB_inv (infB_files ((mayB_all hm).1 _ (List.mem_map.2 ⟨_, h, rfl⟩)))).2.2
      omega
  rw [hc] at c0 c1 c2 c3 hfc
  generalize (lastP s1 name).2 = vc at *
  generalize (lastP s1 parent).2 = vm at *
  generalize (lastP s1 parent).1.files = ms at *
  simp only at hfc c0 c1 c2 c3
  obtain ⟨pc, cc, rfl⟩ := hfc.slice
  obtain ⟨pm, cm, rfl⟩ := hfm.slice
  have hll : fs.length = ms.length := by rw [hfs]; simp
  have wl := wrap_succ (i := n) (by omega)
  simp [c_law19_ForestChild_l17, childRest, e0, e1, e2, e9, e10, e12, e13, e14, c0, c1, c2, c3, c4, d4, hll, hlen, wl]
  refine wp_nxt (wp_for (fun d e G' => ∃ j : Nat, d = ms.length - j ∧ j ≤ ms.length ∧ Ext G G' ∧ e 10 = .slice p1 (n + 1) k1 ∧ e 12 = .pointer (some ⟨G1.next, 0, none⟩) ∧ e 13 = .pointer (some ⟨G1.next + 1, 0, none⟩) ∧ e 15 = .int .i64 (j : Int)) ms.length ⟨0, by simp [Ext.refl, e10, e12, e13, hlen]⟩ ?_)
  clear e0 e1 e2 e9 e10 e12 e13 e14
  rintro d e G' ⟨j, rfl, hj, hE', e10, e12, e13, e15⟩
  rw [← hE'.cell (by omega)] at c4 d4
  by_cases hjl : j < ms.length
  · have hjf : j < fs.length := by omega
    obtain ⟨bc, oc, rfl, hbc, mc⟩ := (hfc.ext hE').row encF_len hjf
    obtain ⟨bm, om, rfl, hbm, mm⟩ := (hfm.ext hE').row encF_len hjl
    have hun : fs[j] = unown ms[j] := by subst hfs; simp
    rw [hun] at mc
    obtain ⟨X, Y, x1, y1, EY, EX, y2, y3, y4, y5, y6⟩ := new_two3 G' (unown ms[j]) ms[j]
    have hnx := hE'.next
    have d4X := d4
    rw [← EX.cell (by omega)] at d4X
    have mmX := mm
    rw [← EX.row hbm] at mmX
    have wj := wrap_succ (i := j) (by omega)
    generalize ms[j] = w at *
    obtain ⟨w1', w2', w3'⟩ := w
    simp [unown] at y2 y3 y4 y5 y6 x1
    simp [-Heap.row, c_law19_ForestChild_l26, e10, e12, e13, e15, c4, d4, hjl, hjf, hll, mc, mm, unown, run_regd_tr, finD_some, Chk, wanted, d4X, mmX, x1, y1, y2, y3, y4, y5, y6]
    exact ⟨ms.length - (j + 1), by omega, j + 1, rfl, by omega, hE'.trans EY, wj⟩
  · obtain rfl : j = ms.length := by omega
    have hmy := may_ok _ _ _ ((w1.ext hE).ext hE') zz.1
    rw [hm, hlen] at hmy
    simp [c_law19_ForestChild_l26, e10, e12, e13, e15, c4, hll, hmy]
theorem child_walk (v : Value) (rs : List (Inf × Value)) (name parent : ByteArray) (view : Bool) (H : Heap) (hF : Fo H v rs) (hz : FoZ rs ∧ FoW rs ∧ FoC rs) (hs1 : name.size ≤ 140737488351232) (hs2 : parent.size ≤ 140737488351232) :
    call K f_law19_ForestChild [v, .string name, .string parent, .bool view] H = some (.bool true, H) := by
  refine of_wpf (open_pure rfl fc_law19_ForestChild rfl (Nat.le_of_ble_eq_true rfl) ?_)
  have ha := awake_ok H.roAll
  have hF := hF.roAll
  generalize H.roAll = G0 at *
  obtain ⟨kind, hk⟩ : ∃ kind : Int, (view = false ∧ kind = 0) ∨ (view = true ∧ kind = 1) := by cases view <;> simp
  obtain ⟨r1, G1, c1, R1⟩ := prepare_ok v rs name parent kind G0 hF hz.1 hz.2.1 (by omega) (by omega)
  by_cases he : (prepareS (infs rs) name parent kind).2 = 0
  case neg =>
    have := ret_err R1 he
    subst this
    rcases hk with ⟨rfl, rfl⟩ | ⟨rfl, rfl⟩ <;> simp [ha, c1, he]
  obtain ⟨u1, s1, rfl, i1, w1, _⟩ := ret_rows (G := G1) R1 he (Ext.refl G1)
  obtain ⟨hlen, fs, hc, hfs⟩ := child_law he i1
  have hm := prepare_may he
  rw [← i1] at hm
  rw [infs_length] at hlen
  obtain ⟨pr, cr, rfl⟩ := hF.rows.slice
  obtain ⟨p1, k1, rfl⟩ := w1.rows.slice
  have E2 : Ext G1 ((G1.add (rowBlk 5 [.string ⟨#[]⟩, .int .i64 0, .string ⟨#[]⟩, .string ⟨#[]⟩, .slice none 0 0])).add (rowBlk 5 [.string ⟨#[]⟩, .int .i64 0, .string ⟨#[]⟩, .string ⟨#[]⟩, .slice none 0 0])) := ((Ext.refl G1).add _).add _
  have v12 : VarP ((G1.add (rowBlk 5 [.string ⟨#[]⟩, .int .i64 0, .string ⟨#[]⟩, .string ⟨#[]⟩, .slice none 0 0])).add (rowBlk 5 [.string ⟨#[]⟩, .int .i64 0, .string ⟨#[]⟩, .string ⟨#[]⟩, .slice none 0 0])) G1.next zeroP := (VarP.new G1).other (by rw [blk_add_old (by simp)])
  have v13 := VarP.new (G1.add (rowBlk 5 [.string ⟨#[]⟩, .int .i64 0, .string ⟨#[]⟩, .string ⟨#[]⟩, .slice none 0 0]))
  rcases hk with ⟨rfl, rfl⟩ | ⟨rfl, rfl⟩
  · simp [ha, c1]
    exact child_tail (pr := pr) (cr := cr) w1 E2 (by simp) v12 v13 hm hlen fs hc hfs (by simp) (by simp) (by simp) (by simp) (by simp) (by simp) (by simp) (by simp)
  · simp [ha, c1]
    exact child_tail (pr := pr) (cr := cr) w1 E2 (by simp) v12 v13 hm hlen fs hc hfs (by simp) (by simp) (by simp) (by simp) (by simp) (by simp) (by simp) (by simp)
end Go.AM
