import Derived.Test.YtbgidagbogpfkaaR7Rc
/- Contracts: one more in its row, one less. -/
namespace Go.AM
open Go.Proofs
set_option linter.unusedVariables false
set_option linter.unusedSimpArgs false
set_option maxRecDepth 100000
attribute [-simp] ByteArray.size_eq_zero_iff Heap.store
theorem pos_ge : ∀ {ns : List ByteArray} {s : ByteArray}, Sorted ns → ¬ s ∈ ns → ∀ (k : Nat) (hk : k < ns.length), Ls s ns[k] ↔ posN ns s ≤ k
  | n :: ns, s, h, hn, k, hk => by
    obtain ⟨h1, h2⟩ := List.pairwise_cons.1 h
    have hne : n ≠ s := fun e => hn (by simp [e])
    have hns : ¬ s ∈ ns := fun e => hn (by simp [e])
    rw [posN_cons]
    by_cases e : Ls n s
    · rw [if_pos e]
      cases k with
      | zero => simp [e.asymm]
      | succ k =>
        have := pos_ge h2 hns k (by simpa using hk)
        simp [this]
    · rw [if_neg e]
      have e2 : Ls s n := Ls.total e hne
      cases k with
      | zero => simp [e2]
      | succ k => simp; exact e2.trans (h1 _ (List.getElem_mem _))
/-- One more at the end of a row of one's own. -/
theorem push_ok {n0 : Nat} {G : Heap} {u : Value} {L : List (Inf × Value)} (h : Own encP 5 n0 G u L) (hn : n0 ≤ G.next) (x : Inf) (v : Value) (hv : v.oneCell' = true) (hl : (L.length + 1) * 80 ≤ 2 ^ 47) :
    ∃ u' X, (G.add (rowBlk 5 [.string x.name, .int .i64 x.kind, .string x.parent, .string x.label, v])).row G.next 0 5 = some [.string x.name, .int .i64 x.kind, .string x.parent, .string x.label, v] ∧
      appV (G.add (rowBlk 5 [.string x.name, .int .i64 x.kind, .string x.parent, .string x.label, v])) 5 80 1 u [.string x.name, .int .i64 x.kind, .string x.parent, .string x.label, v] = some (u', X) ∧ Own encP 5 n0 X u' (L ++ [(x, v)]) ∧ n0 ≤ X.next ∧ ∀ A, A.next ≤ n0 → Ext A G → Ext A X := by
  have E := (Ext.refl G).add (rowBlk 5 [.string x.name, .int .i64 x.kind, .string x.parent, .string x.label, v])
  obtain ⟨X, h1, h2, h3, _, h5⟩ := (h.ext E).app2 (by_ := 80) encP_len (x, v) (by simp [hv]) hl (by omega) (by simp; omega)
  exact ⟨_, X, row_new _ _ _ rfl, h1, h2, by rw [h3]; simp; omega, fun A hA hE => h5 A hA (hE.add _)⟩
/-- What 'with' has made so far. -/
def withL {α : Type} (rs : List α) (x : α) (pos i : Nat) : List α := if i ≤ pos then rs.take i else insAt (rs.take i) pos x
theorem withL_lt {α : Type} {rs : List α} {x : α} {pos i : Nat} (hi : i < rs.length) (h : i < pos) : withL rs x pos (i + 1) = withL rs x pos i ++ [rs[i]] := by
  unfold withL
  rw [if_pos (by omega), if_pos (by omega), List.take_succ_eq_append_getElem hi]
theorem withL_eq {α : Type} {rs : List α} {x : α} {i : Nat} (hi : i < rs.length) : withL rs x i (i + 1) = (withL rs x i i ++ [x]) ++ [rs[i]] := by
  unfold withL
  rw [if_neg (by omega), if_pos (by omega), List.take_succ_eq_append_getElem hi]
  have hl : (rs.take i).length = i := by rw [List.length_take]; omega
  unfold insAt
  rw [List.take_append_of_le_length (by omega), List.drop_append_of_le_length (by omega), List.take_of_length_le (by omega), List.drop_of_length_le (by omega)]
  simp
theorem withL_gt {α : Type} {rs : List α} {x : α} {pos i : Nat} (hi : i < rs.length) (h : pos < i) : withL rs x pos (i + 1) = withL rs x pos i ++ [rs[i]] := by
  unfold withL
  rw [if_neg (by omega), if_neg (by omega), List.take_succ_eq_append_getElem hi]
  have hl : (rs.take i).length = i := by rw [List.length_take]; omega
  unfold insAt
  rw [List.take_append_of_le_length (by omega), List.drop_append_of_le_length (by omega)]
  simp
theorem withL_len {α : Type} {rs : List α} {x : α} {pos i : Nat} (hi : i ≤ rs.length) : (withL rs x pos i).length ≤ i + 1 := by
  unfold withL
  split
  · rw [List.length_take]; omega
  · rw [insAt_len _ _ _ (by rw [List.length_take]; omega), List.length_take]; omega
theorem withL_mem {α : Type} {rs : List α} {x : α} {pos i : Nat} : ∀ p ∈ withL rs x pos i, p = x ∨ p ∈ rs := by
  intro p hp
  unfold withL at hp
  split at hp
  · exact .inr (List.mem_of_mem_take hp)
  · rcases mem_insAt.1 hp with h | h
    · exact .inl h
    · exact .inr (List.mem_of_mem_take h)
theorem wl_bound {w i n : Nat} (h1 : w ≤ i + 1) (h2 : i < n) (h3 : (n + 2) * 80 ≤ 2 ^ 47) : (w + 1) * 80 ≤ 2 ^ 47 ∧ (w + 1 + 1) * 80 ≤ 2 ^ 47 := by omega
theorem with_ok (v : Value) (rs : List (Inf × Value)) (x : Inf × Value) (H : Heap) (h : Fo H v rs) (hx : Fils H x.2 x.1.files) (hs : Sorted ((infs rs).map Inf.name)) (hn : hasN ((infs rs).map Inf.name) x.1.name = false) (hl : (rs.length + 2) * 80 ≤ 2 ^ 47) :
    wpf (call K f_ref16_with [v, .agg (encP x).toArray] H) fun r G => Ext H G ∧ Fo G r (insAt rs (posN ((infs rs).map Inf.name) x.1.name) x) := by
  have hpg := pos_ge hs ((hasN_no _ _).1 hn)
  have hple := posN_le ((infs rs).map Inf.name) x.1.name
  simp only [List.length_map, infs_length] at hple hpg
  have hone := hx.one
  obtain ⟨pv, cv, rfl⟩ := h.rows.slice
  generalize hpos : posN ((infs rs).map Inf.name) x.1.name = pos at *
  refine open_plain rfl fc_ref16_with rfl (Nat.le_of_ble_eq_true rfl) ?_
  obtain ⟨⟨nm, kd, pa, lb, fs⟩, xv⟩ := x
  simp only at hpg hone hx hpos hn
  obtain ⟨G0, hG0⟩ : ∃ G0, G0 = H.add (rowBlk 5 [.string nm, .int .i64 kd, .string pa, .string lb, xv]) := ⟨_, rfl⟩
  have E0 : Ext H G0 := by rw [hG0]; exact (Ext.refl H).add _
  have r3 : G0.row H.next 0 5 = some [.string nm, .int .i64 kd, .string pa, .string lb, xv] := by rw [hG0]; exact row_new _ _ _ rfl
  have c3 : G0.cell H.next 0 = some (.string nm) := by rw [hG0, cell_add_new]; rfl
  have hlt3 : H.next < G0.next := by rw [hG0]; simp
  simp [hone]
  rw [← hG0]
  refine wp_nxt (wp_for (fun d e G => ∃ (i : Nat) (u : Value), d = rs.length - i ∧ i ≤ rs.length ∧ Ext G0 G ∧ Own encP 5 G0.next G u (withL rs (⟨nm, kd, pa, lb, fs⟩, xv) pos i) ∧ e 0 = .slice pv rs.length cv ∧ e 3 = .pointer (some ⟨H.next, 0, none⟩) ∧ e 5 = u ∧ e 6 = .bool (decide (pos < i)) ∧ e 7 = .int .i64 (i : Int)) rs.length ⟨0, .slice none 0 0, by simp, by simp, Ext.refl G0, by unfold withL; rw [if_pos (by omega)]; exact Own.nil, by simp⟩ ?_)
  rintro d e G ⟨i, u, rfl, hi, hE, ho, e0, e3, e5, e6, e7⟩
  have r3' := r3
  rw [← hE.row hlt3] at r3'
  have c3' := c3
  rw [← hE.cell hlt3] at c3'
  have hfo := (h.ext E0).ext hE
  have hwl := withL_len (x := ((⟨nm, kd, pa, lb, fs⟩ : Inf), xv)) (pos := pos) hi
  by_cases hil : i < rs.length
  · obtain ⟨b, o, rfl, hb, m0⟩ := hfo.rows.row encP_len hil
    obtain ⟨_, _, hp2, _, t0, _⟩ := hfo.rows.at5 hil
    cases hp2
    have wi := wrap_succ (i := i) (by omega)
    have hgi := hpg i hil
    have hge : ((infs rs).map Inf.name)[i]'(by simpa using hil) = rs[i].1.name := by simp [infs]
    rw [hge] at hgi
    have hone2 := hfo.one _ (List.getElem_mem hil)
    have hfil := (hfo.fils _ (List.getElem_mem hil)).slice
    have hle := le_not rs[i].1.name nm
    have s1 := withL_lt (x := ((⟨nm, kd, pa, lb, fs⟩ : Inf), xv)) (pos := pos) hil
    have s2 := withL_eq (x := ((⟨nm, kd, pa, lb, fs⟩ : Inf), xv)) hil
    have s3 := withL_gt (x := ((⟨nm, kd, pa, lb, fs⟩ : Inf), xv)) (pos := pos) hil
    simp at t0
    generalize rs[i] = y at *
    obtain ⟨⟨n2, k2, p2, l2, f2⟩, yv⟩ := y
    simp only at hgi hone2 hfil hle t0
    obtain ⟨py, cy, rfl⟩ := hfil
    have m0' : G.row b (o + i * 5) 5 = some [.string n2, .int .i64 k2, .string p2, .string l2, .slice py f2.length cy] := m0
    obtain ⟨hL1, hL2⟩ := wl_bound hwl hil hl
    clear hwl
    rcases Nat.lt_trichotomy i pos with hip | hip | hip
    · have hng : ¬ Ls nm n2 := fun hh => by have := hgi.1 hh; omega
      simp only [hng, decide_false, Bool.not_false] at hle
      obtain ⟨u', X, q1, q2, q3, _, q4⟩ := push_ok ho hE.next ⟨n2, k2, p2, l2, f2⟩ (.slice py f2.length cy) rfl hL1
      simp only at q1 q2 q3
      rw [← s1 hip] at q3
      have hnp : ¬ pos < i := by omega
      simp [-Heap.row, c_ref16_with_l10, e0, e3, e5, e6, e7, hil, hnp, t0, c3', hle, m0', q1, q2]
      exact ⟨rs.length - (i + 1), by omega, i + 1, rfl, by omega, q4 _ (Nat.le_refl _) hE, _, q3, rfl, by omega, wi⟩
    · subst hip
      have hg : Ls nm n2 := hgi.2 (Nat.le_refl _)
      simp only [hg, decide_true, Bool.not_true] at hle
      obtain ⟨u', X, q1, q2, q3, qn, q4⟩ := push_ok ho hE.next ⟨nm, kd, pa, lb, fs⟩ xv hone hL1
      have EX := q4 _ (Nat.le_refl _) hE
      obtain ⟨u2, Y, z1, z2, z3, _, z4⟩ := push_ok q3 qn ⟨n2, k2, p2, l2, f2⟩ (.slice py f2.length cy) rfl (by rw [List.length_append, List.length_singleton]; exact hL2)
      simp only at q1 q2 q3 z1 z2 z3
      rw [← s2] at z3
      have hbG0 : b < G0.next := by
        obtain ⟨_, _, hq, hb, _⟩ := (h.ext E0).rows.row encP_len hil
        cases hq; exact hb
      have m0X : X.row b (o + i * 5) 5 = some [.string n2, .int .i64 k2, .string p2, .string l2, .slice py f2.length cy] := by
        rw [EX.row hbG0, ← hE.row hbG0]; exact m0'
      simp [-Heap.row, c_ref16_with_l10, e0, e3, e5, e6, e7, hil, t0, c3', hle, m0', q1, q2, r3', m0X, z1, z2, hone]
      exact ⟨rs.length - (i + 1), by omega, i + 1, rfl, by omega, z4 _ (Nat.le_refl _) EX, _, z3, rfl, by omega, wi⟩
    · obtain ⟨u', X, q1, q2, q3, _, q4⟩ := push_ok ho hE.next ⟨n2, k2, p2, l2, f2⟩ (.slice py f2.length cy) rfl hL1
      simp only at q1 q2 q3
      rw [← s3 hip] at q3
      simp [-Heap.row, c_ref16_with_l10, e0, e3, e5, e6, e7, hil, hip, t0, m0', q1, q2]
      exact ⟨rs.length - (i + 1), by omega, i + 1, rfl, by omega, q4 _ (Nat.le_refl _) hE, _, q3, rfl, by omega, wi⟩
  · obtain rfl : i = rs.length := by omega
    have fin : ∀ X u', Ext G0 X → Own encP 5 G0.next X u' (insAt rs pos (⟨nm, kd, pa, lb, fs⟩, xv)) → Fo X u' (insAt rs pos (⟨nm, kd, pa, lb, fs⟩, xv)) := fun X u' EX hX => by
      refine ⟨hX.rows encP_len, fun p hp => ?_⟩
      rcases mem_insAt.1 hp with rfl | hp
      · exact (hx.ext E0).ext EX
      · exact ((h.fils p hp).ext E0).ext EX
    by_cases hp : pos < rs.length
    · have hw : withL rs (⟨nm, kd, pa, lb, fs⟩, xv) pos rs.length = insAt rs pos (⟨nm, kd, pa, lb, fs⟩, xv) := by
        unfold withL; rw [if_neg (by omega), List.take_length]
      rw [hw] at ho
      simp [-Heap.row, c_ref16_with_l10, e0, e3, e5, e6, e7, hp]
      exact ⟨E0.trans hE, fin _ _ hE ho⟩
    · obtain rfl : pos = rs.length := by omega
      have hw : withL rs (⟨nm, kd, pa, lb, fs⟩, xv) rs.length rs.length = rs := by
        unfold withL; rw [if_pos (Nat.le_refl _), List.take_length]
      rw [hw] at ho
      have hi2 : rs ++ [(⟨nm, kd, pa, lb, fs⟩, xv)] = insAt rs rs.length (⟨nm, kd, pa, lb, fs⟩, xv) := by simp [insAt]
      obtain ⟨u', X, q1, q2, q3, qn, q4⟩ := push_ok ho hE.next ⟨nm, kd, pa, lb, fs⟩ xv hone (by omega)
      simp only at q1 q2 q3
      rw [hi2] at q3
      have EX := q4 _ (Nat.le_refl _) hE
      simp [-Heap.row, c_ref16_with_l10, e0, e3, e5, e6, e7, r3', q1, q2, hone]
      exact ⟨E0.trans EX, fin _ _ EX q3⟩
/-- What 'without' has made so far. -/
def cutL {α : Type} (rs : List α) (k i : Nat) : List α := if i ≤ k then rs.take i else cutAt (rs.take i) k
theorem cutL_lt {α : Type} {rs : List α} {k i : Nat} (hi : i < rs.length) (h : i < k) : cutL rs k (i + 1) = cutL rs k i ++ [rs[i]] := by
  unfold cutL
  rw [if_pos (by omega), if_pos (by omega), List.take_succ_eq_append_getElem hi]
theorem cutL_eq {α : Type} {rs : List α} {i : Nat} (hi : i < rs.length) : cutL rs i (i + 1) = cutL rs i i := by
  unfold cutL
  rw [if_neg (by omega), if_pos (by omega)]
  unfold cutAt
  rw [List.take_take, Nat.min_eq_left (by omega), List.drop_of_length_le (by rw [List.length_take]; omega), List.append_nil]
theorem cutL_gt {α : Type} {rs : List α} {k i : Nat} (hi : i < rs.length) (h : k < i) : cutL rs k (i + 1) = cutL rs k i ++ [rs[i]] := by
  unfold cutL
  rw [if_neg (by omega), if_neg (by omega), List.take_succ_eq_append_getElem hi]
  have hl : (rs.take i).length = i := by rw [List.length_take]; omega
  unfold cutAt
  rw [List.take_append_of_le_length (by omega), List.drop_append_of_le_length (by omega)]
  simp
theorem cutL_len {α : Type} {rs : List α} {k i : Nat} (hi : i ≤ rs.length) : (cutL rs k i).length ≤ i := by
  unfold cutL
  split
  · rw [List.length_take]; omega
  · unfold cutAt; rw [List.length_append, List.length_take, List.length_drop, List.length_take]; omega
theorem cl_bound {w i n : Nat} (h1 : w ≤ i) (h2 : i < n) (h3 : (n + 2) * 80 ≤ 2 ^ 47) : (w + 1) * 80 ≤ 2 ^ 47 := by omega
theorem without_ok (v : Value) (rs : List (Inf × Value)) (k : Nat) (H : Heap) (h : Fo H v rs) (hk : k < rs.length) (hl : (rs.length + 2) * 80 ≤ 2 ^ 47) :
    wpf (call K f_ref16_without [v, .int .i64 (k : Int)] H) fun r G => Ext H G ∧ Fo G r (cutAt rs k) := by
  obtain ⟨pv, cv, rfl⟩ := h.rows.slice
  refine open_plain rfl fc_ref16_without rfl (Nat.le_of_ble_eq_true rfl) ?_
  simp
  refine wp_nxt (wp_for (fun d e G => ∃ (i : Nat) (u : Value), d = rs.length - i ∧ i ≤ rs.length ∧ Ext H G ∧ Own encP 5 H.next G u (cutL rs k i) ∧ e 0 = .slice pv rs.length cv ∧ e 1 = .int .i64 (k : Int) ∧ e 5 = u ∧ e 6 = .int .i64 (i : Int)) rs.length ⟨0, .slice none 0 0, by simp, by simp, Ext.refl H, by unfold cutL; rw [if_pos (by omega)]; exact Own.nil, by simp⟩ ?_)
  rintro d e G ⟨i, u, rfl, hi, hE, ho, e0, e1, e5, e6⟩
  have hfo := h.ext hE
  have hwl := cutL_len (k := k) hi
  by_cases hil : i < rs.length
  · obtain ⟨b, o, rfl, hb, m0⟩ := hfo.rows.row encP_len hil
    have wi := wrap_succ (i := i) (by omega)
    have hfil := (hfo.fils _ (List.getElem_mem hil)).slice
    have s1 := cutL_lt (k := k) hil
    have s2 := cutL_eq hil
    have s3 := cutL_gt (k := k) hil
    have hL1 := cl_bound hwl hil hl
    clear hwl
    generalize rs[i] = y at *
    obtain ⟨⟨n2, k2, p2, l2, f2⟩, yv⟩ := y
    simp only at hfil
    obtain ⟨py, cy, rfl⟩ := hfil
    have m0' : G.row b (o + i * 5) 5 = some [.string n2, .int .i64 k2, .string p2, .string l2, .slice py f2.length cy] := m0
    obtain ⟨u', X, q1, q2, q3, _, q4⟩ := push_ok ho hE.next ⟨n2, k2, p2, l2, f2⟩ (.slice py f2.length cy) rfl hL1
    simp only at q1 q2 q3
    by_cases hik : i = k
    · subst hik
      rw [← s2] at ho
      simp [-Heap.row, c_ref16_without_l7, e0, e1, e5, e6, hil]
      exact ⟨rs.length - (i + 1), by omega, i + 1, rfl, by omega, hE, _, ho, rfl, wi⟩
    · have hne : ¬ ((i : Int) = (k : Int)) := by omega
      have q3' : Own encP 5 H.next X u' (cutL rs k (i + 1)) := by
        rcases Nat.lt_or_ge i k with h1 | h1
        · rw [s1 h1]; exact q3
        · rw [s3 (by omega)]; exact q3
      simp [-Heap.row, c_ref16_without_l7, e0, e1, e5, e6, hil, hne, hik, m0', q1, q2]
      exact ⟨rs.length - (i + 1), by omega, i + 1, rfl, by omega, q4 _ (Nat.le_refl _) hE, _, q3', rfl, wi⟩
  · obtain rfl : i = rs.length := by omega
    have hw : cutL rs k rs.length = cutAt rs k := by unfold cutL; rw [if_neg (by omega), List.take_length]
    rw [hw] at ho
    simp [c_ref16_without_l7, e0, e1, e5, e6]
    exact ⟨hE, ⟨ho.rows encP_len, fun p hp => hfo.fils p (mem_cut hp)⟩⟩
end Go.AM
