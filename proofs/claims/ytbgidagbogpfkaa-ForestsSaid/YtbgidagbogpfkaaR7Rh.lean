import Derived.Test.YtbgidagbogpfkaaR7Rg
/- The document's answer: writing a file. -/
namespace Go.AM
open Go.Proofs
set_option linter.unusedVariables false
set_option linter.unusedSimpArgs false
set_option maxRecDepth 100000
attribute [-simp] ByteArray.size_eq_zero_iff Heap.store
theorem withL_length {α : Type} {rs : List α} {x : α} {pos i : Nat} (hi : i ≤ rs.length) : (withL rs x pos i).length = if i ≤ pos then i else i + 1 := by
  unfold withL
  split
  · rw [List.length_take]; omega
  · rw [insAt_len _ _ _ (by rw [List.length_take]; omega), List.length_take]; omega
theorem wf_bound {w i n : Nat} (h1 : w ≤ i + 1) (h2 : i ≤ n) (h3 : n ≤ 4) : (w + 1) * 40 ≤ 2 ^ 47 ∧ (w + 1 + 1) * 40 ≤ 2 ^ 47 := by omega
/-- The loop that lays a file into its place. -/
theorem write_loop {G1 G0 : Heap} {rs1 : List (Inf × Value)} {k : Nat} {fs : List Fil} {path content : ByteArray} {b o c bf0 : Nat} {pf : Option Addr} {cf : Nat} (hk1 : k < rs1.length) (hfil1 : Fils G1 (.slice pf fs.length cf) fs) (E0 : Ext G1 G0) (hb : b < G1.next)
    (s4 : G1.cell b (o + k * 5 + 4) = some (.slice pf fs.length cf)) (hbf : G1.next ≤ bf0) (hbf2 : bf0 < G0.next) (r0 : G0.row bf0 0 3 = some [.string path, .string content, .bool true]) (hsrt : Sorted (fs.map Fil.path)) (hno : hasN (fs.map Fil.path) path = false) (hl4 : fs.length ≤ 4)
    (e : Env) (Q : IEx → Env → Heap → Prop) (e2 : e 2 = .string path) (e10 : e 10 = .int .i64 (k : Int)) (e13 : e 13 = .slice (some ⟨b, o, none⟩) rs1.length c) (e14 : e 14 = .pointer (some ⟨bf0, 0, none⟩)) (e15 : e 15 = .slice none 0 0) (e16 : e 16 = .int .i64 0)
    (hQ : ∀ e' G u, e' 2 = .string path → e' 10 = .int .i64 (k : Int) → e' 13 = .slice (some ⟨b, o, none⟩) rs1.length c → e' 14 = .pointer (some ⟨bf0, 0, none⟩) → e' 15 = u → Ext G0 G → Own encF 3 G0.next G u (withL fs ⟨path, content, true⟩ (posN (fs.map Fil.path) path) fs.length) → Q .norm e' G) :
    wp (unblock 1 (run K (.loop c_ref16_Write_l27) e G0)) Q := by
  have hpg := pos_ge hsrt ((hasN_no _ _).1 hno)
  simp only [List.length_map] at hpg
  generalize hpos : posN (fs.map Fil.path) path = pos at *
  have hbb : b < G0.next := by have := E0.next; omega
  refine wp_for (fun d e G => ∃ (i : Nat) (u : Value), d = fs.length - i ∧ i ≤ fs.length ∧ Ext G0 G ∧ Own encF 3 G0.next G u (withL fs ⟨path, content, true⟩ pos i) ∧ e 2 = .string path ∧ e 10 = .int .i64 (k : Int) ∧ e 13 = .slice (some ⟨b, o, none⟩) rs1.length c ∧ e 14 = .pointer (some ⟨bf0, 0, none⟩) ∧ e 15 = u ∧ e 16 = .int .i64 (i : Int)) fs.length ⟨0, .slice none 0 0, by simp, by simp, Ext.refl G0, by unfold withL; rw [if_pos (by omega)]; exact Own.nil, e2, e10, e13, e14, e15, by simpa using e16⟩ ?_
  clear e2 e10 e13 e14 e15 e16
  rintro d ev G ⟨i, u, rfl, hil, hE, ho, e2, e10, e13, e14, e15, e16⟩
  have E1 := E0.trans hE
  rw [← E1.cell hb] at s4
  rw [← hE.row hbf2] at r0
  have hwl := withL_len (x := (⟨path, content, true⟩ : Fil)) (pos := pos) hil
  have hwx := withL_length (x := (⟨path, content, true⟩ : Fil)) (pos := pos) hil
  obtain ⟨pu, cu, hu⟩ := (ho.rows encF_len).slice
  rw [hwx] at hu
  obtain ⟨hL1, hL2⟩ := wf_bound hwl hil hl4
  by_cases hi2 : i < fs.length
  · obtain ⟨bf, of, rfl, hbf1, m0⟩ := (hfil1.ext E1).row encF_len hi2
    obtain ⟨_, _, hp2, _, t0, _⟩ := (hfil1.ext E1).at3 hi2
    cases hp2
    have wi := wrap_succ (i := i) (by omega)
    have s1 := withL_lt (x := (⟨path, content, true⟩ : Fil)) (pos := pos) hi2
    have s2 := withL_eq (x := (⟨path, content, true⟩ : Fil)) hi2
    have s3 := withL_gt (x := (⟨path, content, true⟩ : Fil)) (pos := pos) hi2
    have hgi := hpg i hi2
    have hge : (fs.map Fil.path)[i]'(by simpa using hi2) = fs[i].path := by simp
    rw [hge] at hgi
    have hle := le_not fs[i].path path
    have hbG1 : bf < G1.next := by obtain ⟨_, _, hq, hbb, _⟩ := hfil1.row encF_len hi2; cases hq; exact hbb
    simp at t0
    generalize fs[i] = y at *
    obtain ⟨y1, y2, y3⟩ := y
    have m0' : G.row bf (of + i * 3) 3 = some [.string y1, .string y2, .bool y3] := m0
    simp only at hgi hle t0
    rcases Nat.lt_trichotomy i pos with hip | hip | hip
    · have hng : ¬ Ls path y1 := fun hh => by have := hgi.1 hh; omega
      simp only [hng, decide_false, Bool.not_false] at hle
      rw [if_pos (by omega)] at hu
      obtain ⟨u', X, q1, q2, q3, _, q4⟩ := pushF_ok ho hE.next ⟨y1, y2, y3⟩ hL1
      rw [← s1 hip] at q3
      simp only at q1 q2
      subst hu
      simp [-Heap.row, c_ref16_Write_l27, e2, e10, e13, e14, e15, e16, hk1, s4, hi2, t0, hle, m0', q1, q2]
      exact ⟨fs.length - (i + 1), by omega, i + 1, rfl, by omega, q4 _ (Nat.le_refl _) hE, _, q3, rfl, wi⟩
    · subst hip
      have hg : Ls path y1 := hgi.2 (Nat.le_refl _)
      simp only [hg, decide_true, Bool.not_true] at hle
      rw [if_pos (by omega)] at hu
      obtain ⟨u', X, q1, q2, q3, qn, q4⟩ := pushF_ok ho hE.next ⟨path, content, true⟩ hL1
      have EX := q4 _ (Nat.le_refl _) hE
      obtain ⟨u2, Y, z1, z2, z3, _, z4⟩ := pushF_ok q3 qn ⟨y1, y2, y3⟩ (by rw [List.length_append, List.length_singleton]; exact hL2)
      simp only at q1 q2 z1 z2
      rw [← s2] at z3
      have m0X : X.row bf (of + i * 3) 3 = some [.string y1, .string y2, .bool y3] := by
        rw [(E0.trans EX).row hbG1, ← E1.row hbG1]; exact m0'
      have s4X : X.cell b (o + k * 5 + 4) = some (.slice (some ⟨bf, of, none⟩) fs.length cf) := by
        rw [(E0.trans EX).cell hb, ← E1.cell hb]; exact s4
      subst hu
      simp [-Heap.row, c_ref16_Write_l27, e2, e10, e13, e14, e15, e16, hk1, s4, hi2, t0, hle, m0', q1, q2, r0, m0X, s4X, z1, z2]
      exact ⟨fs.length - (i + 1), by omega, i + 1, rfl, by omega, z4 _ (Nat.le_refl _) EX, _, z3, rfl, wi⟩
    · rw [if_neg (by omega)] at hu
      obtain ⟨u', X, q1, q2, q3, _, q4⟩ := pushF_ok ho hE.next ⟨y1, y2, y3⟩ hL1
      rw [← s3 hip] at q3
      simp only at q1 q2
      have hne : ¬ (((i : Int) + 1) = (i : Int)) := by omega
      subst hu
      simp [-Heap.row, c_ref16_Write_l27, e2, e10, e13, e14, e15, e16, hk1, s4, hi2, hne, m0', q1, q2]
      exact ⟨fs.length - (i + 1), by omega, i + 1, rfl, by omega, q4 _ (Nat.le_refl _) hE, _, q3, rfl, wi⟩
  · obtain rfl : i = fs.length := by omega
    simp [-Heap.row, c_ref16_Write_l27, e2, e10, e13, e14, e15, e16, hk1, s4]
    exact hQ _ _ u (by simpa using e2) (by simpa using e10) (by simpa using e13) (by simpa using e14) (by simpa using e15) hE ho
theorem rwrite_ok (v : Value) (rs : List (Inf × Value)) (name path content : ByteArray) (H : Heap) (h : Fo H v rs) (hz : FoZ rs) (hw : FoW rs) (hs : name.size ≤ 140737488355328) (hs2 : path.size ≤ 140737488355328) :
    wpf (call K f_ref16_Write [v, .string name, .string path, .string content] H) (RRet H (writeS (infs rs) name path content)) := by
  have hl := hz.len
  have hac := ractive_ok v rs name H h hl
  have hm := rmay_ok v rs H h hz
  have hn := nameMay_ok name H hs
  have hp := pathMay_ok path H hs2
  refine open_plain rfl fc_ref16_Write rfl (Nat.le_of_ble_eq_true rfl) ?_
  rcases file_case (infs rs) name path with ⟨a1, e⟩ | ⟨a1, a2, e⟩ | ⟨a1, a2, a3, e⟩ | ⟨k, hk, a1, a2, a3, a4, hc⟩
  · rw [a1] at hm
    have hq : writeS (infs rs) name path content = ([], 1900) := by simp [writeS, e]
    rw [hq]; simp [hm]; exact RRet.err H _
  · rw [a1] at hm
    rw [a2] at hn
    have hq : writeS (infs rs) name path content = ([], 1901) := by simp [writeS, e]
    rw [hq]; simp [hm, hn]; exact RRet.err H _
  · rw [a1] at hm
    rw [a2] at hn
    rw [actS_none a3] at hac
    have hq : writeS (infs rs) name path content = ([], 1903) := by simp [writeS, e]
    rw [hq]; simp [hm, hn, hac]; exact RRet.err H _
  · rw [a1] at hm
    rw [a2] at hn
    rw [actS_some a3 hk] at hac
    have hk' : k < rs.length := by simpa using hk
    have hge0 : (infs rs)[k] = rs[k].1 := by simp [infs]
    have hget : (infs rs)[k]? = some (infs rs)[k] := List.getElem?_eq_getElem hk
    obtain ⟨b0, o0, c0, hv0⟩ : ∃ b o c, v = .slice (some ⟨b, o, none⟩) rs.length c := by
      obtain ⟨p, c, rfl⟩ := h.rows.slice
      obtain ⟨b, o, rfl, _⟩ := h.rows.row encP_len hk'
      exact ⟨b, o, c, rfl⟩
    subst hv0
    obtain ⟨_, _, hpp, hb0, _, _, _, _, t4⟩ := h.rows.at5 hk'
    cases hpp
    have hfil := h.fils _ (List.getElem_mem hk')
    have hmem := List.getElem_mem hk'
    have hfa := rfileAt_ok rs[k].2 rs[k].1.files path H hfil (hz.inf _ hmem).2
    have hfb := infB_files ((mayB_all a1).1 _ (List.mem_map.2 ⟨_, hmem, rfl⟩))
    obtain ⟨_, hsrt, hl4⟩ := filesB_inv hfb
    simp at t4
    obtain ⟨pk, ck, hvk⟩ := hfil.slice
    rcases hc with ⟨b1, e⟩ | ⟨b1, b2, e⟩ | ⟨b1, b2, e⟩
    · rw [if_pos b1] at hac
      have hq : writeS (infs rs) name path content = ([], 1905) := by simp [writeS, e]
      rw [hq]; simp [hm, hn, hac]; exact RRet.err H _
    · rw [if_neg (by simpa using b1)] at hac
      rw [b2] at hp
      have hq : writeS (infs rs) name path content = ([], 1907) := by simp [writeS, e]
      rw [hq]; simp [hm, hn, hac, hk', t4, hfa, hp]; exact RRet.err H _
    rw [if_neg (by simpa using b1)] at hac
    rw [b2] at hp
    by_cases b3 : (6 : Int) < (content.size : Int)
    · have hq : writeS (infs rs) name path content = ([], 1909) := by
        simp only [writeS, e]; rw [if_neg (by simp), if_pos (by omega)]
      rw [hq]; simp [hm, hn, hac, hk', t4, hfa, hp, b3]; exact RRet.err H _
    have b3' : ¬ 6 < content.size := by omega
    have hmi := idx_mem (s := path) (ns := rs[k].1.files.map Fil.path)
    obtain ⟨r1, G1, c1, E1, rs1, i1, w1⟩ := rcopy_ok _ rs H h hw
    have hl1 : rs1.length = rs.length := by rw [← infs_length rs1, i1, infs_length]
    have hk1 : k < rs1.length := by omega
    have hge : rs[k].1 = rs1[k].1 := by
      have := infs_get hk1
      rw [i1, infs_get hk'] at this
      exact Option.some.inj this
    have f1 := w1.fo
    obtain ⟨b, o, hbv⟩ : ∃ b o, ∃ c, r1 = .slice (some ⟨b, o, none⟩) rs1.length c := by
      obtain ⟨p, c, rfl⟩ := f1.rows.slice
      obtain ⟨b, o, rfl, _⟩ := f1.rows.row encP_len hk1
      exact ⟨b, o, c, rfl⟩
    obtain ⟨c, rfl⟩ := hbv
    have hbelow : b < G1.next := (w1.out.below b rfl).2
    obtain ⟨_, _, hpp, _, _, _, _, _, s4⟩ := f1.rows.at5 hk1
    cases hpp
    obtain ⟨X, x1, EX, x2, _, _, _, xn⟩ := new_store3 G1 ⟨path, content, true⟩
    simp at s4
    have s4X := s4
    rw [← EX.cell hbelow] at s4X
    cases hi : idxN (rs[k].1.files.map Fil.path) path with
    | some j =>
      rw [hi] at hmi
      rw [atI_some hi] at hfa
      have hh : hasN (rs[k].1.files.map Fil.path) path = true := hmi.symm
      obtain ⟨h1, h2⟩ := idx_sorted hsrt hh
      rw [hi] at h2
      have hpj : posN (rs[k].1.files.map Fil.path) path = j := (Option.some.inj h2).symm
      rw [hpj] at h1
      have hj : j < rs[k].1.files.length := by simpa using h1
      have hj1 : j < rs1[k].1.files.length := by rw [← hge]; exact hj
      have hq : writeS (infs rs) name path content = ((infs rs).set k { rs[k].1 with files := rs[k].1.files.set j ⟨path, content, true⟩ }, 0) := by
        simp only [writeS, e, a4, hget, hge0, wroteF, hh, hpj, if_pos]
        rw [if_neg (by simp), if_neg b3', if_neg (by simp)]
      have hj0 : ¬ ((j : Int) < 0) := by omega
      have hj00 : (0 : Int) ≤ (j : Int) := by omega
      have wX := w1.ext EX
      obtain ⟨bf, Bf, cf, hvf, q1, q2, hBf, hrf, hcf, hof⟩ := (wX.fils _ (List.getElem_mem hk1)).put3 hj1 ⟨path, content, true⟩
      have hfin := wX.putIn hk1 (bf := bf) (by rw [hvf]; rfl) hof
      have hst : X.store bf (j * 3) [.string path, .string content, .bool true] = some (X.set bf (some (((Bf.put (j * 3) (.string path)).put (j * 3 + 1) (.string content)).put (j * 3 + 2) (.bool true)))) := by
        obtain ⟨y0, d0⟩ := Option.isSome_iff_exists.1 (hcf 0 (by omega))
        obtain ⟨y1, d1⟩ := Option.isSome_iff_exists.1 (hcf 1 (by omega))
        obtain ⟨y2, d2⟩ := Option.isSome_iff_exists.1 (hcf 2 (by omega))
        have e0 : X.cell bf (j * 3) = some y0 := by simp only [Heap.cell, hBf]; exact d0
        have e1 : X.cell bf (j * 3 + 1) = some y1 := by simp only [Heap.cell, hBf]; exact d1
        have e2 : X.cell bf (j * 3 + 2) = some y2 := by simp only [Heap.cell, hBf]; exact d2
        simp [Heap.store, hBf, hrf, Heap.row, e0, e1, e2, Blk.puts]
      have x2' : X.row G1.next 0 3 = some [.string path, .string content, .bool true] := x2
      rw [hvf] at s4X
      rw [hq]
      simp [-Heap.row, hm, hn, hac, hk', t4, hfa, hp, b3, hj0, hj00, c1, x1, hk1, s4X, hj1, x2', hst]
      refine ⟨(E1.trans EX).set (by have := q1; omega) _, _, _, rfl, ?_, hfin.fo⟩
      rw [← i1]
      simp [infs, List.map_set, ← hge]
    | none =>
      rw [hi] at hmi
      rw [atI_none hi] at hfa
      have hno : hasN (rs[k].1.files.map Fil.path) path = false := hmi.symm
      rw [hvk] at t4 hfa
      by_cases b4 : (4 : Int) ≤ (rs[k].1.files.length : Int)
      · have hq : writeS (infs rs) name path content = ([], 1910) := by
          simp only [writeS, e, a4, hget, hge0, hno]
          rw [if_neg (by simp), if_neg b3', if_pos ⟨trivial, by omega⟩]
        rw [hq]; simp [hm, hn, hac, hk', t4, hfa, hp, b3, b4]; exact RRet.err H _
      have hq : writeS (infs rs) name path content = ((infs rs).set k { rs[k].1 with files := insAt rs[k].1.files (posN (rs[k].1.files.map Fil.path) path) ⟨path, content, true⟩ }, 0) := by
        simp only [writeS, e, a4, hget, hge0, wroteF, hno]
        rw [if_neg (by simp), if_neg b3', if_neg (by omega), if_neg (by simp)]
      have hfil1 := f1.fils _ (List.getElem_mem hk1)
      rw [← hge] at hfil1
      obtain ⟨pf, cf, hfv⟩ := hfil1.slice
      rw [hfv] at s4 s4X hfil1
      have x2' : X.row G1.next 0 3 = some [.string path, .string content, .bool true] := x2
      simp [hm, hn, hac, hk', t4, hfa, hp, b3, b4, c1, x1]
      refine wp_nxt (write_loop (G1 := G1) (o := o) (c := c) hk1 hfil1 EX hbelow s4 (Nat.le_refl _) (by omega) x2' hsrt hno hl4 _ _ (by simp) (by simp) (by simp) (by simp) (by simp) (by simp) ?_)
      intro e' G u e2 e10 e13 e14 e15 hE ho
      have E2 := (E1.trans EX).trans hE
      have s4' := s4X
      rw [← hE.cell (by have := EX.next; omega)] at s4'
      have r0 := x2'
      rw [← hE.row (by omega)] at r0
      have hple := posN_le (rs[k].1.files.map Fil.path) path
      rw [List.length_map] at hple
      have hwx := withL_length (x := (⟨path, content, true⟩ : Fil)) (pos := posN (rs[k].1.files.map Fil.path) path) (Nat.le_refl rs[k].1.files.length)
      obtain ⟨pu, cu, hu⟩ := (ho.rows encF_len).slice
      rw [hwx] at hu
      have hmb : ∀ b', blkV (Value.slice (some ⟨b, o, none⟩) rs1.length c) = some b' → b' < X.next := fun b' hb' => by
        have := (w1.out.below b' hb').2; have := EX.next; omega
      rw [hq]
      by_cases hpn : rs[k].1.files.length ≤ posN (rs[k].1.files.map Fil.path) path
      · have hpe : posN (rs[k].1.files.map Fil.path) path = rs[k].1.files.length := by omega
        rw [hpe] at ho ⊢
        rw [if_pos hpn] at hu
        have hwl : withL rs[k].1.files ⟨path, content, true⟩ rs[k].1.files.length rs[k].1.files.length = rs[k].1.files := by
          unfold withL; rw [if_pos (Nat.le_refl _), List.take_length]
        rw [hwl] at ho
        have hi2 : rs[k].1.files ++ [(⟨path, content, true⟩ : Fil)] = insAt rs[k].1.files rs[k].1.files.length ⟨path, content, true⟩ := by simp [insAt]
        obtain ⟨u', Y, q1, q2, q3, _, q4⟩ := pushF_ok ho hE.next ⟨path, content, true⟩ (by omega)
        rw [hi2] at q3
        simp only at q1 q2
        have EY := q4 _ (Nat.le_refl _) hE
        have s4Y := s4X
        rw [← EY.cell (by have := EX.next; omega)] at s4Y
        obtain ⟨b', c', Z, hv', hst, hfo, hEX⟩ := ((w1.ext EX).ext EY).setFiles hk1 q3 hmb
        cases hv'
        rw [Nat.zero_add] at s4' s4Y
        obtain ⟨pw, cw, rfl⟩ := (q3.rows encF_len).slice
        subst hu
        simp [-Heap.row, e2, e10, e13, e14, e15, hk1, s4', r0, q1, q2, hst]
        refine ⟨hEX H (Nat.le_refl _) ((E1.trans EX).trans EY), _, _, rfl, ?_, hfo⟩
        rw [← i1]
        simp [infs, List.map_set, ← hge]
      · rw [if_neg hpn] at hu
        have hwl : withL rs[k].1.files ⟨path, content, true⟩ (posN (rs[k].1.files.map Fil.path) path) rs[k].1.files.length = insAt rs[k].1.files (posN (rs[k].1.files.map Fil.path) path) ⟨path, content, true⟩ := by
          unfold withL; rw [if_neg hpn, List.take_length]
        rw [hwl] at ho
        obtain ⟨b', c', Z, hv', hst, hfo, hEX⟩ := ((w1.ext EX).ext hE).setFiles hk1 ho hmb
        cases hv'
        rw [Nat.zero_add] at s4'
        have hne : ¬ (((rs[k].1.files.length : Int) + 1) = (rs[k].1.files.length : Int)) := by omega
        subst hu
        simp [-Heap.row, e2, e10, e13, e14, e15, hk1, s4', hne, hst]
        refine ⟨hEX H (Nat.le_refl _) E2, _, _, rfl, ?_, hfo⟩
        rw [← i1]
        simp [infs, List.map_set, ← hge]
end Go.AM
