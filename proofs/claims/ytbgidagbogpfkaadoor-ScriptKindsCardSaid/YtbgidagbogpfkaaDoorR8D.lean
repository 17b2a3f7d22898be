import Derived.Test.YtbgidagbogpfkaaDoorR8C
/- The reference's ActMay, and that it is script.May. -/
namespace Go.AM
open Go.Proofs
set_option linter.unusedVariables false
set_option linter.unusedSimpArgs false
set_option maxRecDepth 100000
attribute [-simp] ByteArray.size_eq_zero_iff Heap.store Heap.row
def mayR (a : Ac) : Bool := decide (0 ≤ a.kind) && decide (a.kind ≤ 12) && decide (a.name.size ≤ 8) && decide (a.parent.size ≤ 8) && decide (a.to.size ≤ 8) && decide (a.path.size ≤ 8) && decide (a.text.size ≤ 8) && decide (0 ≤ a.cut) && decide (a.cut ≤ 1000) &&
  (decide (a.kind ≠ 12) || decide (a.cut = 0)) && decide (a.keep.size ≤ 512) && decide (-1 ≤ a.torn) && decide (a.torn ≤ 512) && decide (0 ≤ a.at_) && decide (a.at_ ≤ 64) && decide (a = namedA a)
theorem cellsEq_act (a b : Ac) : cellsEq [.num .i64, .txt, .txt, .txt, .txt, .txt, .num .i64, .txt, .num .i64, .num .i64] (encA a) (encA b) = some (decide (a = b)) := by
  obtain ⟨a0, a1, a2, a3, a4, a5, a6, a7, a8, a9⟩ := a
  obtain ⟨b0, b1, b2, b3, b4, b5, b6, b7, b8, b9⟩ := b
  simp [encA, cellsEq, cellEq]
theorem actMay_ok (a : Ac) (H : Heap) : call K f_ref20_ActMay [acV a] H = some (.bool (mayR a), H) := by
  refine of_wpf (open_pure rfl fc_ref20_ActMay rfl (Nat.le_of_ble_eq_true rfl) ?_)
  have hA : IsA10 (H.roAll.add (rowBlk 10 (encA a))) H.next a := isA_new H.roAll a
  generalize hX : H.roAll.add (rowBlk 10 (encA a)) = X at hA
  have hbox : step K.P (call K) (.box 10 (.t 0)) (env0 [acV a]) H.roAll = some (ptr H.next 0, X) := by
    subst hX; rfl
  have hkeep : ∀ i ∈ c_ref20_ActMay_r1, KeepI K i.ins := by
    have h1 : ∀ i ∈ c_ref20_ActMay_r1, (isAl i.ins = false ∧ isEff i.ins = false) ∨ ∃ f xs, i.ins = .call f xs ∧ (f = f_ref20_short ∨ f = f_ref20_named) := by
      intro i hi
      simp only [c_ref20_ActMay_r1, List.mem_cons, List.not_mem_nil, or_false] at hi
      rcases hi with rfl | rfl | rfl | rfl | rfl | rfl | rfl | rfl | rfl | rfl | rfl | rfl | rfl | rfl | rfl | rfl | rfl | rfl | rfl | rfl | rfl | rfl | rfl | rfl | rfl | rfl | rfl | rfl | rfl | rfl | rfl | rfl | rfl | rfl | rfl | rfl | rfl | rfl | rfl | rfl | rfl | rfl | rfl | rfl | rfl | rfl | rfl | rfl | rfl | rfl | rfl | rfl | rfl | rfl | rfl | rfl | rfl | rfl | rfl | rfl | rfl | rfl | rfl | rfl | rfl | rfl | rfl | rfl | rfl | rfl | rfl | rfl | rfl | rfl | rfl | rfl | rfl | rfl | rfl | rfl | rfl | rfl | rfl | rfl | rfl | rfl
      all_goals first
        | exact .inl ⟨rfl, rfl⟩
        | exact .inr ⟨_, _, rfl, .inl rfl⟩
        | exact .inr ⟨_, _, rfl, .inr rfl⟩
    intro i hi
    rcases h1 i hi with ⟨h2, h3⟩ | ⟨f, xs, h2, rfl | rfl⟩
    · exact keep_pure h2 h3
    · rw [h2]; exact keep_call rfl rfl
    · rw [h2]; exact keep_call rfl rfl
  have hcode : c_ref20_ActMay.code = .seq (.reg c_ref20_ActMay_r0) (.seq (.regd c_ref20_ActMay_r1 [(80, 82)]) .ret) := rfl
  rw [hcode, run_seq]
  refine wp_nxt ?_
  generalize hR : (IC.seq (.regd c_ref20_ActMay_r1 [(80, 82)]) .ret) = R
  simp [hbox]
  subst hR
  rw [run_seq, run_regd_keep K _ _ _ _ hkeep rfl]
  have h7 : ((a.keep.size : Nat) : Int) ≤ 512 ↔ a.keep.size ≤ 512 := by omega
  have hrow := hA.row
  have hnm := fun G => named_ok a G
  have heq := cellsEq_act a (namedA a)
  by_cases c0 : 0 ≤ a.kind
  rotate_left
  · simp [hA.c0, hA.c1, hA.c2, hA.c3, hA.c4, hA.c5, hA.c6, hA.c7, hA.c8, hA.c9, mayR, c0]
  by_cases c1 : a.kind ≤ 12
  rotate_left
  · simp [hA.c0, hA.c1, hA.c2, hA.c3, hA.c4, hA.c5, hA.c6, hA.c7, hA.c8, hA.c9, mayR, c0, c1]
  by_cases c2 : a.name.size ≤ 8
  rotate_left
  · simp [hA.c0, hA.c1, hA.c2, hA.c3, hA.c4, hA.c5, hA.c6, hA.c7, hA.c8, hA.c9, mayR, c0, c1, c2]
  by_cases c3 : a.parent.size ≤ 8
  rotate_left
  · simp [hA.c0, hA.c1, hA.c2, hA.c3, hA.c4, hA.c5, hA.c6, hA.c7, hA.c8, hA.c9, mayR, c0, c1, c2, c3]
  by_cases c4 : a.to.size ≤ 8
  rotate_left
  · simp [hA.c0, hA.c1, hA.c2, hA.c3, hA.c4, hA.c5, hA.c6, hA.c7, hA.c8, hA.c9, mayR, c0, c1, c2, c3, c4]
  by_cases c5 : a.path.size ≤ 8
  rotate_left
  · simp [hA.c0, hA.c1, hA.c2, hA.c3, hA.c4, hA.c5, hA.c6, hA.c7, hA.c8, hA.c9, mayR, c0, c1, c2, c3, c4, c5]
  by_cases c6 : a.text.size ≤ 8
  rotate_left
  · simp [hA.c0, hA.c1, hA.c2, hA.c3, hA.c4, hA.c5, hA.c6, hA.c7, hA.c8, hA.c9, mayR, c0, c1, c2, c3, c4, c5, c6]
  by_cases c7 : 0 ≤ a.cut
  rotate_left
  · simp [hA.c0, hA.c1, hA.c2, hA.c3, hA.c4, hA.c5, hA.c6, hA.c7, hA.c8, hA.c9, mayR, c0, c1, c2, c3, c4, c5, c6, c7]
  by_cases c8 : a.cut ≤ 1000
  rotate_left
  · simp [hA.c0, hA.c1, hA.c2, hA.c3, hA.c4, hA.c5, hA.c6, hA.c7, hA.c8, hA.c9, mayR, c0, c1, c2, c3, c4, c5, c6, c7, c8]
  by_cases e1 : a.kind = 12 ∧ a.cut ≠ 0
  · obtain ⟨e1, e2⟩ := e1
    simp [hA.c0, hA.c1, hA.c2, hA.c3, hA.c4, hA.c5, hA.c6, hA.c7, hA.c8, hA.c9, mayR, c0, c1, c2, c3, c4, c5, c6, c7, c8, e1, e2]
  have e3 : a.kind = 12 → a.cut = 0 := fun h => by
    rcases Classical.em (a.cut = 0) with h2 | h2
    · exact h2
    · exact absurd ⟨h, h2⟩ e1
  clear e1
  by_cases e1 : a.kind = 12
  · have e2 := e3 e1
    by_cases d1 : a.keep.size ≤ 512
    rotate_left
    · simp [hA.c0, hA.c1, hA.c2, hA.c3, hA.c4, hA.c5, hA.c6, hA.c7, hA.c8, hA.c9, mayR, h7, c0, c1, c2, c3, c4, c5, c6, c7, c8, e1, e2, d1]
    by_cases d2 : -1 ≤ a.torn
    rotate_left
    · simp [hA.c0, hA.c1, hA.c2, hA.c3, hA.c4, hA.c5, hA.c6, hA.c7, hA.c8, hA.c9, mayR, h7, c0, c1, c2, c3, c4, c5, c6, c7, c8, e1, e2, d1, d2]
    by_cases d3 : a.torn ≤ 512
    rotate_left
    · simp [hA.c0, hA.c1, hA.c2, hA.c3, hA.c4, hA.c5, hA.c6, hA.c7, hA.c8, hA.c9, mayR, h7, c0, c1, c2, c3, c4, c5, c6, c7, c8, e1, e2, d1, d2, d3]
    by_cases d4 : 0 ≤ a.at_
    rotate_left
    · simp [hA.c0, hA.c1, hA.c2, hA.c3, hA.c4, hA.c5, hA.c6, hA.c7, hA.c8, hA.c9, mayR, h7, c0, c1, c2, c3, c4, c5, c6, c7, c8, e1, e2, d1, d2, d3, d4]
    by_cases d5 : a.at_ ≤ 64
    rotate_left
    · simp [hA.c0, hA.c1, hA.c2, hA.c3, hA.c4, hA.c5, hA.c6, hA.c7, hA.c8, hA.c9, mayR, h7, c0, c1, c2, c3, c4, c5, c6, c7, c8, e1, e2, d1, d2, d3, d4, d5]
    simp [hA.c0, hA.c1, hA.c2, hA.c3, hA.c4, hA.c5, hA.c6, hA.c7, hA.c8, hA.c9, mayR, h7, c0, c1, c2, c3, c4, c5, c6, c7, c8, e1, e2, d1, d2, d3, d4, d5, hrow, hnm, encA_len, heq]
  · skip
    by_cases d1 : a.keep.size ≤ 512
    rotate_left
    · simp [hA.c0, hA.c1, hA.c2, hA.c3, hA.c4, hA.c5, hA.c6, hA.c7, hA.c8, hA.c9, mayR, h7, c0, c1, c2, c3, c4, c5, c6, c7, c8, e1, d1]
    by_cases d2 : -1 ≤ a.torn
    rotate_left
    · simp [hA.c0, hA.c1, hA.c2, hA.c3, hA.c4, hA.c5, hA.c6, hA.c7, hA.c8, hA.c9, mayR, h7, c0, c1, c2, c3, c4, c5, c6, c7, c8, e1, d1, d2]
    by_cases d3 : a.torn ≤ 512
    rotate_left
    · simp [hA.c0, hA.c1, hA.c2, hA.c3, hA.c4, hA.c5, hA.c6, hA.c7, hA.c8, hA.c9, mayR, h7, c0, c1, c2, c3, c4, c5, c6, c7, c8, e1, d1, d2, d3]
    by_cases d4 : 0 ≤ a.at_
    rotate_left
    · simp [hA.c0, hA.c1, hA.c2, hA.c3, hA.c4, hA.c5, hA.c6, hA.c7, hA.c8, hA.c9, mayR, h7, c0, c1, c2, c3, c4, c5, c6, c7, c8, e1, d1, d2, d3, d4]
    by_cases d5 : a.at_ ≤ 64
    rotate_left
    · simp [hA.c0, hA.c1, hA.c2, hA.c3, hA.c4, hA.c5, hA.c6, hA.c7, hA.c8, hA.c9, mayR, h7, c0, c1, c2, c3, c4, c5, c6, c7, c8, e1, d1, d2, d3, d4, d5]
    simp [hA.c0, hA.c1, hA.c2, hA.c3, hA.c4, hA.c5, hA.c6, hA.c7, hA.c8, hA.c9, mayR, h7, c0, c1, c2, c3, c4, c5, c6, c7, c8, e1, d1, d2, d3, d4, d5, hrow, hnm, encA_len, heq]
end Go.AM
