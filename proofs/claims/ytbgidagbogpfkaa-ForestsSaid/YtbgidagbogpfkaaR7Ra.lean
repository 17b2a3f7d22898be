import Derived.Test.YtbgidagbogpfkaaR7Removes
/- Contracts of the document's answer: where a name is, what may be. -/
namespace Go.AM
open Go.Proofs
set_option linter.unusedVariables false
set_option linter.unusedSimpArgs false
set_option maxRecDepth 100000
attribute [-simp] ByteArray.size_eq_zero_iff
theorem le_not (a b : ByteArray) : (bLess a b || decide (a = b)) = !decide (Ls b a) := by
  rw [bLess_ls]
  by_cases h : Ls b a
  · have h1 : ¬ Ls a b := h.asymm
    have h2 : ¬ a = b := fun e => h.ne e.symm
    simp [h, h1, h2]
  · by_cases h2 : a = b
    · subst h2; simp [Ls.irrefl]
    · have := Ls.total h (fun e => h2 e.symm)
      simp [h, h2, this]
theorem idx_step {ns : List ByteArray} {s : ByteArray} {i : Nat} (hi : i < ns.length) (h : ∀ k (hk : k < ns.length), k < i → ns[k] ≠ s) : (ns[i] = s → atI ns s = (i : Int)) ∧ (ns[i] ≠ s → ∀ k (hk : k < ns.length), k < i + 1 → ns[k] ≠ s) := by
  refine ⟨fun e => by rw [atI, idx_some hi h e], fun e k hk hki => ?_⟩
  by_cases ek : k = i
  · subst ek; exact e
  · exact h k hk (by omega)
theorem rAt_ok (v : Value) (rs : List (Inf × Value)) (name : ByteArray) (H : Heap) (h : Fo H v rs) (hl : rs.length ≤ 140737488355328) : call K f_ref16_At [v, .string name] H = some (.int .i64 (atI ((infs rs).map Inf.name) name), H) := by
  obtain ⟨p, c, rfl⟩ := h.rows.slice
  have h := h.roAll
  refine of_wpf (open_pure rfl fc_ref16_At rfl (Nat.le_of_ble_eq_true rfl) ?_)
  simp
  refine wp_nxt (wp_for (fun d e G => ∃ i : Nat, d = rs.length - i ∧ i ≤ rs.length ∧ G = H.roAll ∧ e 0 = .slice p rs.length c ∧ e 1 = .string name ∧ e 5 = .int .i64 (i : Int) ∧ ∀ k (hk : k < ((infs rs).map Inf.name).length), k < i → ((infs rs).map Inf.name)[k] ≠ name) rs.length ⟨0, by simp⟩ ?_)
  rintro d e G ⟨i, rfl, hi, rfl, e0, e1, e5, hall⟩
  by_cases hil : i < rs.length
  · obtain ⟨b, o, rfl, hb, t0, _⟩ := h.rows.at5 hil
    have wi := wrap_succ (i := i) (by omega)
    have hin : i < ((infs rs).map Inf.name).length := by simpa using hil
    obtain ⟨s1, s2⟩ := idx_step hin hall
    have hg : ((infs rs).map Inf.name)[i] = rs[i].1.name := by simp [infs]
    rw [hg] at s1 s2
    simp at t0
    generalize rs[i] = x at *
    by_cases a : x.1.name = name
    · have := s1 a
      simp [c_ref16_At_l6, e0, e1, e5, hil, t0, a, this]
    · simp [c_ref16_At_l6, e0, e1, e5, hil, t0, a]
      exact ⟨rs.length - (i + 1), by omega, i + 1, rfl, by omega, wi, by simpa using s2 a⟩
  · obtain rfl : i = rs.length := by omega
    have : atI ((infs rs).map Inf.name) name = -1 := by rw [atI, idx_none fun k hk => hall k hk (by simpa using hk)]
    simp [c_ref16_At_l6, e0, e1, e5, this]
theorem rfileAt_ok (v : Value) (fs : List Fil) (path : ByteArray) (H : Heap) (h : Fils H v fs) (hl : fs.length ≤ 140737488355328) : call K f_ref16_fileAt [v, .string path] H = some (.int .i64 (atI (fs.map Fil.path) path), H) := by
  obtain ⟨p, c, rfl⟩ := h.slice
  have h := h.roAll
  refine of_wpf (open_pure rfl fc_ref16_fileAt rfl (Nat.le_of_ble_eq_true rfl) ?_)
  simp
  refine wp_nxt (wp_for (fun d e G => ∃ i : Nat, d = fs.length - i ∧ i ≤ fs.length ∧ G = H.roAll ∧ e 0 = .slice p fs.length c ∧ e 1 = .string path ∧ e 5 = .int .i64 (i : Int) ∧ ∀ k (hk : k < (fs.map Fil.path).length), k < i → (fs.map Fil.path)[k] ≠ path) fs.length ⟨0, by simp⟩ ?_)
  rintro d e G ⟨i, rfl, hi, rfl, e0, e1, e5, hall⟩
  by_cases hil : i < fs.length
  · obtain ⟨b, o, rfl, hb, t0, _⟩ := h.at3 hil
    have wi := wrap_succ (i := i) (by omega)
    have hin : i < (fs.map Fil.path).length := by simpa using hil
    obtain ⟨s1, s2⟩ := idx_step hin hall
    have hg : (fs.map Fil.path)[i] = fs[i].path := by simp
    rw [hg] at s1 s2
    simp at t0
    generalize fs[i] = x at *
    by_cases a : x.path = path
    · have := s1 a
      simp [c_ref16_fileAt_l6, e0, e1, e5, hil, t0, a, this]
    · simp [c_ref16_fileAt_l6, e0, e1, e5, hil, t0, a]
      exact ⟨fs.length - (i + 1), by omega, i + 1, rfl, by omega, wi, by simpa using s2 a⟩
  · obtain rfl : i = fs.length := by omega
    have : atI (fs.map Fil.path) path = -1 := by rw [atI, idx_none fun k hk => hall k hk (by simpa using hk)]
    simp [c_ref16_fileAt_l6, e0, e1, e5, this]
/-- What 'active' answers. -/
def actS (xs : List Inf) (name : ByteArray) : Int × Int := match idxN (xs.map Inf.name) name with | none => (0, 1903) | some k => (match xs[k]? with | some x => if x.kind ≠ 0 then (0, 1905) else ((k : Int), 0) | none => (0, 0))
theorem ractive_ok (v : Value) (rs : List (Inf × Value)) (name : ByteArray) (H : Heap) (h : Fo H v rs) (hl : rs.length ≤ 140737488355328) : call K f_ref16_active [v, .string name] H = some (.tuple #[.int .i64 (actS (infs rs) name).1, .int .i64 (actS (infs rs) name).2], H) := by
  have ha := rAt_ok v rs name H.roAll h.roAll hl
  refine of_wpf (open_pure rfl fc_ref16_active rfl (Nat.le_of_ble_eq_true rfl) ?_)
  cases hi : idxN ((infs rs).map Inf.name) name with
  | none =>
    have e1 : atI ((infs rs).map Inf.name) name = -1 := by rw [atI, hi]
    have e2 : actS (infs rs) name = (0, 1903) := by rw [actS, hi]
    rw [e1] at ha
    simp [ha, e2]
  | some k =>
    have e1 : atI ((infs rs).map Inf.name) name = (k : Int) := by rw [atI, hi]
    rw [e1] at ha
    obtain ⟨hk, _⟩ := idx_inv hi
    have hk : k < rs.length := by simpa using hk
    obtain ⟨p, c, rfl⟩ := h.rows.slice
    obtain ⟨b, o, rfl, hb, _, t1, _⟩ := h.roAll.rows.at5 hk
    have e2 : actS (infs rs) name = if rs[k].1.kind ≠ 0 then (0, 1905) else ((k : Int), 0) := by rw [actS, hi]; simp only [infs_get hk]
    simp at t1
    generalize rs[k] = x at *
    have hk0 : ¬ ((k : Int) < 0) := by omega
    by_cases hx : x.1.kind = 0
    · simp [hx] at e2
      simp [ha, e2, hk0, hk, t1, hx]
    · simp [hx] at e2
      simp [ha, e2, hk0, hk, t1, hx]
end Go.AM
