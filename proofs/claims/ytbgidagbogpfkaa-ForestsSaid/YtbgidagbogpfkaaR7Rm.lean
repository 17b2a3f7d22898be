import Derived.Test.YtbgidagbogpfkaaR7Ra
import Derived.Test.YtbgidagbogpfkaaR7Writes
/- Contracts of the document's answer: what may be. -/
namespace Go.AM
open Go.Proofs
set_option linter.unusedVariables false
set_option linter.unusedSimpArgs false
set_option maxRecDepth 100000
attribute [-simp] ByteArray.size_eq_zero_iff Heap.store
/-- One that may be beside others. -/
def rinfB (xs : List Inf) (x : Inf) : Bool := infB x && rootB xs 8 x.parent
theorem root8_false (xs : List Inf) (p : ByteArray) {f : Nat} (hp : p ≠ ⟨#[]⟩) (h : idxN (xs.map Inf.name) p = none) : rootB xs f p = false := by
  cases f with
  | zero => rfl
  | succ f => rw [rootB, if_neg hp, h]
theorem root8_some (xs : List Inf) (p : ByteArray) {f k : Nat} (hp : p ≠ ⟨#[]⟩) (h : idxN (xs.map Inf.name) p = some k) (hk : k < xs.length) : rootB xs (f + 1) p = (decide (xs[k].kind = 2) && rootB xs f xs[k].parent) := by
  rw [rootB, if_neg hp, h]
  simp only [List.getElem?_eq_getElem hk]
theorem rinfo_ok (v : Value) (rs : List (Inf × Value)) (x : Inf × Value) (H : Heap) (h : Fo H v rs) (hl : rs.length ≤ 140737488355328) (hx : Fils H x.2 x.1.files) (hz : InfZ x.1) (hxl : x.1.files.length ≤ 140737488355328) :
    call K f_ref16_infoMay [v, .agg (encP x).toArray] H = some (.bool (rinfB (infs rs) x.1), H) := by
  refine of_wpf (open_pure rfl fc_ref16_infoMay rfl (Nat.le_of_ble_eq_true rfl) ?_)
  have h := h.roAll
  have hx := hx.roAll
  generalize H.roAll = G0 at *
  have hone := hx.one
  have v3 : VarP (G0.add (rowBlk 5 (encP x))) G0.next x := ⟨rowBlk 5 (encP x), by simp [Heap.add], rfl, fun j hj => rfl⟩
  have E1 : Ext G0 (G0.add (rowBlk 5 (encP x))) := (Ext.refl G0).add _
  obtain ⟨t0, t1, t2, t3, t4, _⟩ := v3.cells
  have hb : G0.next < (G0.add (rowBlk 5 (encP x))).next := by simp
  obtain ⟨⟨nm, kd, pa, lb, fs⟩, fv⟩ := x
  simp only at t0 t1 t2 t3 t4 hx hz hxl hone
  generalize hG1 : G0.add (rowBlk 5 (encP (⟨nm, kd, pa, lb, fs⟩, fv))) = G1 at *
  have hnm := nameMay_ok nm G1 hz.1
  obtain ⟨pf, cf, rfl⟩ := hx.slice
  by_cases a1 : wordB nm 4 = true
  case neg =>
    have a1' : wordB nm 4 = false := by simpa using a1
    have hf : rinfB (infs rs) ⟨nm, kd, pa, lb, fs⟩ = false := by simp [rinfB, infB, a1']
    rw [a1'] at hnm
    simp [hG1, hnm, t0, t1, t2, t3, t4, hf]
  rw [a1] at hnm
  by_cases a2 : kd < 0
  case pos =>
    have hf : rinfB (infs rs) ⟨nm, kd, pa, lb, fs⟩ = false := by simp [rinfB, infB, show ¬ 0 ≤ kd by omega]
    simp [hG1, hnm, t0, t1, t2, t3, t4, hf, a2]
  by_cases a3 : 2 < kd
  case pos =>
    have hf : rinfB (infs rs) ⟨nm, kd, pa, lb, fs⟩ = false := by simp [rinfB, infB, show ¬ kd ≤ 2 by omega]
    simp [hG1, hnm, t0, t1, t2, t3, t4, hf, a2, a3]
  by_cases a4 : (3 : Int) < (lb.size : Int)
  case pos =>
    have hf : rinfB (infs rs) ⟨nm, kd, pa, lb, fs⟩ = false := by simp [rinfB, infB, show ¬ lb.size ≤ 3 by omega]
    simp [hG1, hnm, t0, t1, t2, t3, t4, hf, a2, a3, a4]
  by_cases a5 : (4 : Int) < (fs.length : Int)
  case pos =>
    have hf : rinfB (infs rs) ⟨nm, kd, pa, lb, fs⟩ = false := by simp [rinfB, infB, filesB, show ¬ fs.length ≤ 4 by omega]
    simp [hG1, hnm, t0, t1, t2, t3, t4, hf, a2, a3, a4, a5]
  have hr : rinfB (infs rs) ⟨nm, kd, pa, lb, fs⟩ = (rowsB (filB (decide (kd = 1))) Fil.path fs fs.length && rootB (infs rs) 8 pa) := by
    simp [rinfB, infB, filesB, a1, show 0 ≤ kd by omega, show kd ≤ 2 by omega, show lb.size ≤ 3 by omega, show fs.length ≤ 4 by omega]
  rw [hr]
  simp [hG1, hnm, t0, t1, t2, t3, t4, a2, a3, a4, a5]
  refine wp_nxt (wp_for (fun d e G => ∃ i : Nat, d = fs.length - i ∧ i ≤ fs.length ∧ Ext G1 G ∧ e 0 = v ∧ e 3 = .pointer (some ⟨G0.next, 0, none⟩) ∧ e 5 = .int .i64 (i : Int) ∧ rowsB (filB (decide (kd = 1))) Fil.path fs i = true) fs.length ⟨0, by simp [rowsB, Ext.refl]⟩ ?_)
  rintro d e G ⟨i, rfl, hi, hE, e0, e3, e5, hc⟩
  rw [← hE.cell hb] at t1 t2 t4
  by_cases hlt : i < fs.length
  · have hr := ((hx.ext E1).ext hE)
    obtain ⟨b, o, hpf, hbG, m0⟩ := hr.row encF_len hlt
    subst hpf
    obtain ⟨X, x1, EX, x2, x3, x4, x5, _⟩ := new_store3 G fs[i]
    have t1X := t1
    rw [← EX.cell (by have := hE.next; omega)] at t1X
    have t4X := t4
    rw [← EX.cell (by have := hE.next; omega)] at t4X
    have w1 := wrap_succ (i := i) (by omega)
    have hs := rowsB_succ (filB (decide (kd = 1))) Fil.path fs i
    rw [hc, Bool.true_and] at hs
    have bad : rowB (filB (decide (kd = 1))) Fil.path fs i = false → rowsB (filB (decide (kd = 1))) Fil.path fs fs.length = false := fun hb => rowsB_no (n := i + 1) (by rw [hs, hb]) (by omega)
    have good : rowB (filB (decide (kd = 1))) Fil.path fs i = true → ∃ d', d' < fs.length - i ∧ ∃ j : Nat, d' = fs.length - j ∧ j ≤ fs.length ∧ Ext G1 X ∧ IntKind.i64.wrap ((i : Int) + 1) = (j : Int) ∧ rowsB (filB (decide (kd = 1))) Fil.path fs j = true :=
      fun hb => ⟨fs.length - (i + 1), by omega, i + 1, rfl, by omega, hE.trans EX, w1, by rw [hs, hb]⟩
    have hp := pathMay_ok fs[i].path X (hz.2 _ (List.getElem_mem _))
    have hq : rowB (filB (decide (kd = 1))) Fil.path fs i = (filB (decide (kd = 1)) fs[i] && (i == 0 || decide (Ls (fs[i - 1]'(by omega)).path fs[i].path))) := by
      cases i with
      | zero => rw [rowB_zero _ _ hlt]; simp
      | succ j => rw [rowB_succ _ _ hlt]; simp
    rw [hq] at bad good
    have hprev : ∀ j, i = j + 1 → X.cell b (o + j * 3) = some (.string (fs[i - 1]'(by omega)).path) := by
      rintro j rfl
      obtain ⟨b', o', e, _, m0, _⟩ := (hr.ext EX).at3 (i := j) (by omega)
      cases e
      exact m0
    have hle := le_not (fs[i].path) (fs[i - 1]'(by omega)).path
    generalize fs[i] = w at *
    generalize fs[i - 1]'(by omega) = y at bad good hprev hle
    by_cases b1 : wordB w.path 3 = true
    case neg =>
      have b1' : wordB w.path 3 = false := by simpa using b1
      have hf := bad (by simp [filB, b1'])
      rw [b1'] at hp
      simp [-Heap.row, c_ref16_infoMay_l9, e0, e3, e5, hlt, t4, m0, x1, x3, x4, x5, hp, hf]
    rw [b1] at hp
    by_cases b2 : (6 : Int) < (w.content.size : Int)
    case pos =>
      have hf := bad (by simp [filB, show ¬ w.content.size ≤ 6 by omega])
      simp [-Heap.row, c_ref16_infoMay_l9, e0, e3, e5, hlt, t4, m0, x1, x3, x4, x5, hp, b2, hf]
    by_cases b3 : kd = 1 ∧ w.own = true
    case pos =>
      have hf := bad (by simp [filB, b3])
      obtain ⟨rfl, b4⟩ := b3
      rw [b4] at x5
      rw [show decide ((1 : Int) = 1) = true from rfl] at hf
      simp [-Heap.row, c_ref16_infoMay_l9, e0, e3, e5, hlt, t4, m0, x1, x3, x4, x5, hp, b2, t1X, hf]
    have hfil : filB (decide (kd = 1)) w = true := by
      have : w.own = false ∨ ¬ kd = 1 := by
        cases hw : w.own with
        | false => exact .inl rfl
        | true => exact .inr fun hk => b3 ⟨hk, hw⟩
      rcases this with h | h <;> simp [filB, b1, show w.content.size ≤ 6 by omega, h]
    have hown : w.own = false ∨ (w.own = true ∧ ¬ kd = 1) := by
      cases hw : w.own with
      | false => exact .inl rfl
      | true => exact .inr ⟨rfl, fun hk => b3 ⟨hk, hw⟩⟩
    rcases Nat.eq_zero_or_pos i with hi0 | hi0
    · subst hi0
      have hg := good (by simp [hfil])
      rw [Nat.zero_mul, Nat.add_zero] at m0
      simp only [Nat.sub_zero, Nat.zero_add, Int.natCast_zero, Int.ofNat_zero, Int.zero_add] at hg
      rcases hown with hw | ⟨hw, hk⟩
      · rw [hw] at x5
        simp [-Heap.row, c_ref16_infoMay_l9, e0, e3, e5, hlt, t4, m0, x1, x3, x4, x5, hp, b2, t1X]
        exact hg
      · rw [hw] at x5
        simp [-Heap.row, c_ref16_infoMay_l9, e0, e3, e5, hlt, t4, m0, x1, x3, x4, x5, hp, b2, t1X, hk]
        simpa [hk] using hg
    · obtain ⟨j, hj⟩ : ∃ j, i = j + 1 := ⟨i - 1, by omega⟩
      have hpc := hprev j hj
      have w2 : IntKind.i64.wrap ((i : Int) - 1) = (j : Int) := by rw [wrap_i64] <;> omega
      have hjl : j < fs.length := by omega
      have hi1 : (0 : Int) < (i : Int) := by omega
      have hne0 : (i == 0) = false := by simp; omega
      by_cases c5 : Ls y.path w.path
      · have hg := good (by simp [hfil, c5])
        simp only [c5, decide_true, Bool.not_true] at hle
        rcases hown with hw | ⟨hw, hk⟩
        · rw [hw] at x5
          simp [-Heap.row, c_ref16_infoMay_l9, e0, e3, e5, hlt, t4, m0, x1, x3, x4, x5, hp, b2, t1X, t4X, w2, hjl, hi1, hi0, hpc, hle]
          exact hg
        · rw [hw] at x5
          simp [-Heap.row, c_ref16_infoMay_l9, e0, e3, e5, hlt, t4, m0, x1, x3, x4, x5, hp, b2, t1X, t4X, w2, hjl, hi1, hi0, hpc, hk, hle]
          simpa [hk] using hg
      · have hf := bad (by simp [c5, hne0])
        simp only [c5, decide_false, Bool.not_false] at hle
        rcases hown with hw | ⟨hw, hk⟩
        · rw [hw] at x5
          simp [-Heap.row, c_ref16_infoMay_l9, e0, e3, e5, hlt, t4, m0, x1, x3, x4, x5, hp, b2, t1X, t4X, w2, hjl, hi1, hi0, hpc, hle, hf]
        · rw [hw] at x5
          rw [show decide (kd = 1) = false from by simp [hk]] at hf
          simp [-Heap.row, c_ref16_infoMay_l9, e0, e3, e5, hlt, t4, m0, x1, x3, x4, x5, hp, b2, t1X, t4X, w2, hjl, hi1, hi0, hpc, hk, hle, hf]
  obtain rfl : i = fs.length := by omega
  rw [hc, Bool.true_and]
  simp [c_ref16_infoMay_l9, e0, e3, e5, t4, t2]
  have hfo := (h.ext E1).ext hE
  obtain ⟨pv, cv, rfl⟩ := hfo.rows.slice
  refine wp_nxt (wp_for (fun d e G' => ∃ (s : Nat) (p : ByteArray), d = 8 - s ∧ s ≤ 7 ∧ G' = G ∧ e 0 = .slice pv rs.length cv ∧ e 7 = .string p ∧ e 8 = .int .i64 (s : Int) ∧ rootB (infs rs) 8 pa = rootB (infs rs) (8 - s) p) 8 ⟨0, pa, by simp [e0]⟩ ?_)
  clear e0 e3 e5
  rintro d e G' ⟨s, p, rfl, hs, rfl, e0, e7, e8, hroot⟩
  obtain ⟨f, hf⟩ : ∃ f, 8 - s = f + 1 := ⟨7 - s, by omega⟩
  rw [hf] at hroot
  by_cases hp : p = ⟨#[]⟩
  · subst hp
    have : rootB (infs rs) 8 pa = true := by rw [hroot, rootB, if_pos rfl]
    simp [c_ref16_infoMay_l18, e0, e7, e8, this]
  have hat := rAt_ok _ rs p G' hfo hl
  cases hi : idxN ((infs rs).map Inf.name) p with
  | none =>
    have e1 : atI ((infs rs).map Inf.name) p = -1 := by rw [atI, hi]
    rw [e1] at hat
    have hr : rootB (infs rs) 8 pa = false := by rw [hroot]; exact root8_false _ _ hp hi
    simp [c_ref16_infoMay_l18, e0, e7, e8, hp, hat, hr]
  | some k =>
    have e1 : atI ((infs rs).map Inf.name) p = (k : Int) := by rw [atI, hi]
    rw [e1] at hat
    obtain ⟨hk, _⟩ := idx_inv hi
    have hk : k < rs.length := by simpa using hk
    obtain ⟨b, o, rfl, hbk, _, u1, u2, _, _⟩ := hfo.rows.at5 hk
    rw [root8_some _ _ hp hi (by simpa using hk)] at hroot
    have hge : (infs rs)[k]'(by simpa using hk) = rs[k].1 := by simp [infs]
    rw [hge] at hroot
    simp at u1 u2
    generalize rs[k] = z at *
    have hk0 : ¬ ((k : Int) < 0) := by omega
    have ws := wrap_succ (i := s) (by omega)
    by_cases b1 : z.1.kind = 2
    case neg =>
      simp [b1] at hroot
      simp [c_ref16_infoMay_l18, e0, e7, e8, hp, hat, hroot, hk0, hk, u1, b1]
    simp [b1] at hroot
    by_cases b2 : s = 7
    · subst b2
      obtain rfl : f = 0 := by omega
      have hr : rootB (infs rs) 8 pa = false := by rw [hroot]; rfl
      simp [c_ref16_infoMay_l18, e0, e7, e8, hp, hat, hr, hk0, hk, u1, b1]
    · have b3 : ¬ ((6 : Int) < (s : Int)) := by omega
      simp [c_ref16_infoMay_l18, e0, e7, e8, hp, hat, hk0, hk, u1, u2, b1, b3]
      exact ⟨8 - (s + 1), by omega, s + 1, rfl, by omega, ws, by rw [hroot]; congr 1; omega⟩
/-- One behind the one ahead of it. -/
def OrdAt (xs : List Inf) (i : Nat) : Prop := ∀ (j : Nat) (x y : Inf), i = j + 1 → xs[j]? = some y → xs[i]? = some x → Ls y.name x.name
/-- All of them may be. -/
theorem mayB_iff (xs : List Inf) : mayB xs = true ↔ xs.length ≤ 6 ∧ ∀ (i : Nat) (x : Inf), xs[i]? = some x → rinfB xs x = true ∧ OrdAt xs i := by
  constructor
  · intro h
    obtain ⟨h1, h2, h3, h4⟩ := mayB_all h
    refine ⟨h4, fun i x hx => ⟨?_, fun j x' y hj hy hx' => ?_⟩⟩
    · have hm := List.mem_of_getElem? hx
      simp only [rinfB, Bool.and_eq_true]
      exact ⟨h1 _ hm, root_up (h3 _ hm) (by omega)⟩
    · subst hj
      obtain ⟨a, rfl⟩ := List.getElem?_eq_some_iff.1 hy
      obtain ⟨b, rfl⟩ := List.getElem?_eq_some_iff.1 hx'
      exact sorted_map h2 j (j + 1) a b (by omega)
  · rintro ⟨h1, h2⟩
    have step : ∀ i (hi : i + 1 < xs.length), Ls xs[i].name xs[i + 1].name := fun i hi => (h2 (i + 1) _ (List.getElem?_eq_getElem hi)).2 i _ _ rfl (List.getElem?_eq_getElem (by omega)) (List.getElem?_eq_getElem hi)
    have hs : Sorted (xs.map Inf.name) := by
      refine List.pairwise_iff_getElem.2 fun i j hi hj hij => ?_
      rw [List.getElem_map, List.getElem_map]
      simp only [List.length_map] at hi hj
      have : ∀ d, (hd : i + d + 1 < xs.length) → Ls xs[i].name xs[i + d + 1].name := by
        intro d
        induction d with
        | zero => intro hd; exact step i hd
        | succ d ih => intro hd; exact (ih (by omega)).trans (step (i + d + 1) hd)
      have := this (j - i - 1) (by omega)
      simpa [show i + (j - i - 1) + 1 = j by omega] using this
    have hr : ∀ x ∈ xs, rinfB xs x = true := fun x hx => by
      obtain ⟨i, hi, rfl⟩ := List.mem_iff_getElem.1 hx
      exact (h2 i _ (List.getElem?_eq_getElem hi)).1
    refine mayB_of (fun x hx => ?_) hs (fun x hx => ⟨8, ?_⟩) h1
    · have := hr x hx; simp only [rinfB, Bool.and_eq_true] at this; exact this.1
    · have := hr x hx; simp only [rinfB, Bool.and_eq_true] at this; exact this.2
theorem rmay_ok (v : Value) (rs : List (Inf × Value)) (H : Heap) (h : Fo H v rs) (hz : FoZ rs) : call K f_ref16_ForestMay [v] H = some (.bool (mayB (infs rs)), H) := by
  have hl := hz.len
  refine of_wpf (open_pure rfl fc_ref16_ForestMay rfl (Nat.le_of_ble_eq_true rfl) ?_)
  have h := h.roAll
  generalize H.roAll = G0 at *
  obtain ⟨p, c, rfl⟩ := h.rows.slice
  have hiff := mayB_iff (infs rs)
  have hno : ∀ (i : Nat) (x : Inf), (infs rs)[i]? = some x → (rinfB (infs rs) x = true → ¬ OrdAt (infs rs) i) → mayB (infs rs) = false := fun i x hx hn => by
    cases hm : mayB (infs rs) with
    | false => rfl
    | true =>
      obtain ⟨a, b⟩ := (hiff.1 hm).2 i x hx
      exact absurd b (hn a)
  by_cases a1 : (6 : Int) < (rs.length : Int)
  · have hf : mayB (infs rs) = false := by
      cases hm : mayB (infs rs) with
      | false => rfl
      | true => have := (hiff.1 hm).1; simp at this; omega
    simp [a1, hf]
  simp [a1]
  refine wp_nxt (wp_for (fun d e G => ∃ i : Nat, d = rs.length - i ∧ i ≤ rs.length ∧ G = G0 ∧ e 0 = .slice p rs.length c ∧ e 3 = .int .i64 (i : Int) ∧ ∀ (k : Nat) (x : Inf), (infs rs)[k]? = some x → k < i → rinfB (infs rs) x = true ∧ OrdAt (infs rs) k) rs.length ⟨0, by simp⟩ ?_)
  rintro d e G ⟨i, rfl, hi, rfl, e0, e3, hall⟩
  by_cases hil : i < rs.length
  · obtain ⟨b, o, rfl, hb, m0⟩ := h.rows.row encP_len hil
    obtain ⟨_, _, hp2, _, t0, _⟩ := h.rows.at5 hil
    cases hp2
    have hmem := List.getElem_mem hil
    have hin := rinfo_ok _ rs rs[i] G h hl (h.fils _ hmem) (hz.inf _ hmem).1 (hz.inf _ hmem).2
    have wi := wrap_succ (i := i) (by omega)
    have hgi := infs_get hil
    have hone := h.one _ hmem
    have hno2 := hno i _ hgi
    by_cases a2 : rinfB (infs rs) rs[i].1 = true
    case neg =>
      have a2' : rinfB (infs rs) rs[i].1 = false := by simpa using a2
      have hf := hno2 fun h => absurd h a2
      rw [a2'] at hin
      simp [-Heap.row, c_ref16_ForestMay_l8, e0, e3, hil, m0, hin, hf]
    rw [a2] at hin
    have good : OrdAt (infs rs) i → ∀ (k : Nat) (x : Inf), (infs rs)[k]? = some x → k < i + 1 → rinfB (infs rs) x = true ∧ OrdAt (infs rs) k := by
      intro ho k x hx hki
      by_cases e : k = i
      · subst e
        rw [hgi] at hx; cases hx
        exact ⟨a2, ho⟩
      · exact hall k x hx (by omega)
    rcases Nat.eq_zero_or_pos i with hi0 | hi0
    · subst hi0
      have hg := good fun j x y hj => by omega
      rw [Nat.zero_mul, Nat.add_zero] at m0
      simp at t0
      simp [-Heap.row, c_ref16_ForestMay_l8, e0, e3, hil, m0, hin]
      exact ⟨rs.length - 1, by omega, 1, rfl, by omega, rfl, fun k x hx h1 => hg k x hx h1⟩
    · obtain ⟨j, hj⟩ : ∃ j, i = j + 1 := ⟨i - 1, by omega⟩
      have hjl : j < rs.length := by omega
      obtain ⟨_, _, hp3, _, u0, _⟩ := h.rows.at5 hjl
      cases hp3
      have w2 : IntKind.i64.wrap ((i : Int) - 1) = (j : Int) := by rw [wrap_i64] <;> omega
      have hi1 : (0 : Int) < (i : Int) := by omega
      have hle := le_not (rs[i].1.name) (rs[j].1.name)
      have hgj := infs_get hjl
      simp at t0 u0
      by_cases c5 : Ls rs[j].1.name rs[i].1.name
      · have hg := good fun j' x y hj' hy hx => by
          obtain rfl : j' = j := by omega
          rw [hgj] at hy; rw [hgi] at hx
          cases hy; cases hx; exact c5
        simp only [c5, decide_true, Bool.not_true] at hle
        simp [-Heap.row, c_ref16_ForestMay_l8, e0, e3, hil, m0, hin, hi1, hi0, t0, w2, hjl, u0, hle]
        exact ⟨rs.length - (i + 1), by omega, i + 1, rfl, by omega, wi, hg⟩
      · have hf := hno2 fun _ ho => c5 (ho j _ _ hj hgj hgi)
        simp only [c5, decide_false, Bool.not_false] at hle
        simp [-Heap.row, c_ref16_ForestMay_l8, e0, e3, hil, m0, hin, hi1, hi0, t0, w2, hjl, u0, hle, hf]
  · obtain rfl : i = rs.length := by omega
    have hm : mayB (infs rs) = true := hiff.2 ⟨by simp; omega, fun k x hx => hall k x hx (by have := (List.getElem?_eq_some_iff.1 hx).1; simpa using this)⟩
    simp [c_ref16_ForestMay_l8, e0, e3, hm]
end Go.AM
