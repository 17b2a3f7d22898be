import Derived.Test.YtbgidagbogpfkaaR7M
/- Contracts: Prepare with a parent. -/
namespace Go.AM
open Go.Proofs
set_option linter.unusedVariables false
set_option linter.unusedSimpArgs false
set_option maxRecDepth 100000
attribute [-simp] ByteArray.size_eq_zero_iff
theorem prepare_ok1 (v : Value) (rs : List (Inf × Value)) (name parent : ByteArray) (kind : Int) (H : Heap) (h : Fo H v rs) (hz : FoZ rs) (hw : FoW rs) (hs : name.size ≤ 140737488355328) (hs2 : parent.size ≤ 140737488355328) (hp : ¬ parent = ⟨#[]⟩) :
    wpf (call K f_forest_Prepare [v, .string name, .string parent, .int .i64 kind] H) (Ret H (prepareS (infs rs) name parent kind)) := by
  have E0 := (Ext.refl H).add (rowBlk 1 [.string name, .string parent])
  have hns : prepNs name parent = [name, parent] := by simp [prepNs, hp]
  obtain ⟨r, G, hc, hE, u, rfl, hu1, hu2⟩ := begin_ok v _ rs [name, parent] _ (h.ext E0) hz hw (strs2 name parent H) (by simp [hs, hs2]) (by simp)
  have hE0 := E0.trans hE
  refine open_plain rfl fc_forest_Prepare rfl (Nat.le_of_ble_eq_true rfl) ?_
  by_cases hn : beginE (infs rs) [name, parent] = 0
  case neg =>
    have hsp : prepareS (infs rs) name parent kind = ([], beginE (infs rs) [name, parent]) := by simp [prepareS, hns, hn]
    rw [hsp]
    rw [hu1 hn] at hc
    simp [hc, hn, hp]
    exact Ret.err hE0 hn
  obtain ⟨rs', hin, ho⟩ := hu2 hn
  obtain ⟨hmay, _⟩ := beginE_zero hn
  obtain ⟨hall, hsort, _, h6⟩ := mayB_inv hmay
  have hll : rs'.length = (infs rs).length := by rw [← infs_length rs', hin]
  have hnames : rs'.map keyP = (infs rs).map Inf.name := by rw [← infs_names, hin]
  have hat : ∀ s, call K f_forest_At [u, .string s] G = some (.tuple #[.int .i64 (posN ((infs rs).map Inf.name) s : Int), .bool (hasN ((infs rs).map Inf.name) s)], G) := fun s => by
    have := atInfo_ok u rs' s G ho.fo.rows (by rw [hnames]; exact hsort) (by omega) ho.fo.one
    rw [hnames] at this; exact this
  have hat1 := hat name
  have hat2 := hat parent
  have hple := posN_le ((infs rs).map Inf.name) name
  rw [List.length_map] at hple
  rw [hn] at hc
  obtain ⟨pu, cu, hur⟩ := ho.fo.rows.slice
  have hlu : lenO u = some (.int .i64 (rs'.length : Int)) := by rw [hur]; rfl
  by_cases hk : kind ≠ 0 ∧ kind ≠ 1
  case pos =>
    have hsp : prepareS (infs rs) name parent kind = ([], 1905) := by simp only [prepareS, hns, hn]; rw [if_neg (by simp), if_pos hk]
    rw [hsp]
    obtain ⟨k1, k2⟩ := hk
    simp [hc, hp, hat1, hat2, k1, k2]
    exact Ret.err hE0 (by decide)
  have hk' : kind = 0 ∨ kind = 1 := by omega
  cases hh : hasN ((infs rs).map Inf.name) name with
  | true =>
    have hsp : prepareS (infs rs) name parent kind = ([], 1902) := by simp only [prepareS, hns, hn]; rw [if_neg (by simp), if_neg hk, if_pos hh]
    rw [hsp]
    rw [hh] at hat1
    rcases hk' with rfl | rfl
    · simp [hc, hp, hat1, hat2]
      exact Ret.err hE0 (by decide)
    · simp [hc, hp, hat1, hat2]
      exact Ret.err hE0 (by decide)
  | false =>
    rw [hh] at hat1
    cases hhp : hasN ((infs rs).map Inf.name) parent with
    | false =>
      have hsp : prepareS (infs rs) name parent kind = ([], 1904) := by
        simp only [prepareS, hns, hn]; rw [if_neg (by simp), if_neg hk, if_neg (by rw [hh]; decide), if_neg hp, if_pos hhp]
      rw [hsp]
      rw [hhp] at hat2
      rcases hk' with rfl | rfl
      · simp [hc, hp, hat1, hat2]
        exact Ret.err hE0 (by decide)
      · simp [hc, hp, hat1, hat2]
        exact Ret.err hE0 (by decide)
    | true =>
      rw [hhp] at hat2
      obtain ⟨hpl, _⟩ := idx_sorted hsort hhp
      simp only [List.length_map] at hpl
      have hspp : prepareS (infs rs) name parent kind = match (infs rs)[posN ((infs rs).map Inf.name) parent]? with
        | none => ([], 0)
        | some y => if y.kind ≠ 2 then ([], 1904) else if (infs rs).length = 6 then ([], 1910) else (insAt (infs rs) (posN ((infs rs).map Inf.name) name) ⟨name, kind, parent, ⟨#[]⟩, y.files.map unown⟩, 0) := by
        simp only [prepareS, hns, hn]; rw [if_neg (by simp), if_neg hk, if_neg (by rw [hh]; decide), if_neg hp, if_neg (by rw [hhp]; decide)]
        rfl
      generalize posN ((infs rs).map Inf.name) name = at_ at *
      generalize posN ((infs rs).map Inf.name) parent = up at *
      have hpr : up < rs'.length := by omega
      have hget : (infs rs)[up]? = some rs'[up].1 := by rw [← hin]; simp [infs, List.getElem?_eq_getElem hpr]
      simp only [hget] at hspp
      rw [hspp]
      have hmem := List.getElem_mem hpr
      have hne : rs' ≠ [] := fun e => by rw [e] at hpr; simp at hpr
      obtain ⟨b, B, c, hv, g2, g3, g4, g5, hB, hro, hez, hcells, hput⟩ := ho.out.blkOf encP_len hne
      have hfo := ho.fo.fils _ hmem
      have hfl : rs'[up].1.files.length ≤ 4 := by
        have : infB rs'[up].1 = true := List.all_eq_true.1 hall _ (by rw [← hin]; exact List.mem_map.2 ⟨_, hmem, rfl⟩)
        simp only [infB, filesB, Bool.and_eq_true, decide_eq_true_eq] at this
        exact this.2.2
      have cg : ∀ k (hk : k < 5), G.cell b (up * 5 + k) = (encP rs'[up])[k]? := fun k hk => by
        simp only [Heap.cell, hB]; exact hcells up hpr k hk
      have c1 := cg 1 (by omega)
      have c4 := cg 4 (by omega)
      generalize rs'[up] = xv at *
      obtain ⟨y, fv⟩ := xv
      subst hv
      have hfl' : y.files.length ≤ 4 := hfl
      simp at c1 c4 hlu
      have hbn : b ≠ G.next := by omega
      by_cases hk2 : y.kind = 2
      case neg =>
        rw [if_pos hk2]
        rcases hk' with rfl | rfl
        · simp [hc, hp, hat1, hat2, hpr, c1, hk2]
          exact Ret.err hE0 (by decide)
        · simp [hc, hp, hat1, hat2, hpr, c1, hk2]
          exact Ret.err hE0 (by decide)
      rw [if_neg (by simpa using hk2)]
      by_cases h66 : (infs rs).length = 6
      · rw [if_pos h66]
        have hr6 : rs'.length = 6 := by omega
        rw [hr6] at hc hat1 hat2
        have hp6 : up < 6 := by omega
        rcases hk' with rfl | rfl
        · simp [hc, hp, hat1, hat2, hp6, c1, hk2]
          exact Ret.err hE0 (by decide)
        · simp [hc, hp, hat1, hat2, hp6, c1, hk2]
          exact Ret.err hE0 (by decide)
      rw [if_neg h66]
      have hr6 : ¬ ((rs'.length : Int) = 6) := by omega
      obtain ⟨X0, hX0⟩ : ∃ X0, X0 = rowBlk 5 [(.string ⟨#[]⟩ : Value), .int .i64 0, .string ⟨#[]⟩, .string ⟨#[]⟩, .slice none 0 0] := ⟨_, rfl⟩
      obtain ⟨B1, hB1⟩ : ∃ B1, B1 = ((((X0.put 0 (.string name)).put 1 (.int .i64 kind)).put 2 (.string parent)).put 3 (.string ⟨#[]⟩)).put 4 (.slice none 0 0) := ⟨_, rfl⟩
      have E1 : Ext G ((G.add X0).set G.next (some B1)) := ((Ext.refl G).add X0).set (Nat.le_refl _) _
      have hG1n : ((G.add X0).set G.next (some B1)).next = G.next + 1 := by simp
      obtain ⟨q, G2, hcl, E2, oq⟩ := cloneF_ok fv y.files _ (hfo.ext E1) (by omega)
      rw [hG1n] at oq
      have hblkG : G2.blk G.next = some B1 := by rw [E2.blk _ (by rw [hG1n]; omega), blk_set_self]
      have hqb := oq.below
      have hq1 : q.oneCell' = true := (oq.rows encF_len).one
      obtain ⟨pq, cq, hqq⟩ := (oq.rows encF_len).slice
      have hlq : lenO q = some (.int .i64 (y.files.length : Int)) := by rw [hqq]; rfl
      obtain ⟨B3, hB3⟩ : ∃ B3, B3 = B1.put 4 q := ⟨_, rfl⟩
      have hB1r : B1.ro = false := by rw [hB1, hX0]; rfl
      have hB14 : B1.at_ 4 = some (.slice none 0 0) := by rw [hB1]; rfl
      obtain ⟨G3, hG3⟩ : ∃ G3, G3 = G2.set G.next (some B3) := ⟨_, rfl⟩
      have oq3 : Ow encF 3 (G.next + 1) G3 q y.files := by rw [hG3]; exact oq.setB (fun e => by have := (hqb _ e).1; omega) _
      have hG3b : G3.blk G.next = some B3 := by rw [hG3, blk_set_self]
      have hcq : ∀ G' : Heap, G'.blk G.next = G3.blk G.next → G'.cell G.next 0 = some (.string name) ∧ G'.cell G.next 1 = some (.int .i64 kind) ∧ G'.cell G.next 2 = some (.string parent) ∧ G'.cell G.next 3 = some (.string ⟨#[]⟩) ∧ G'.cell G.next 4 = some q := fun G' hg => by
        simp only [Heap.cell, hg, hG3b, hB3, hB1]
        exact ⟨rfl, rfl, rfl, rfl, rfl⟩
      have hloop : ∀ (e : Env) (Q : IEx → Env → Heap → Prop), e 11 = .slice (some ⟨b, 0, none⟩) rs'.length c → e 13 = .int .i64 (at_ : Int) → e 17 = .pointer (some ⟨G.next, 0, none⟩) → e 91 = .int .i64 0 → e 90 = .int .i64 (y.files.length : Int) →
          (∀ (e' : Env) (G' : Heap), e' 11 = .slice (some ⟨b, 0, none⟩) rs'.length c → e' 13 = .int .i64 (at_ : Int) → e' 17 = .pointer (some ⟨G.next, 0, none⟩) → Ow encF 3 (G.next + 1) G' q (y.files.map unown) → G'.next = G3.next → (∀ k, blkV q ≠ some k → G'.blk k = G3.blk k) → Q .norm e' G') →
          wp (unblock 1 (run K (.loop c_forest_Prepare_l25) e G3)) Q := by
        intro e Q e11 e13 e17 e91 e90 hQ
        refine wp_for (fun d e G' => ∃ i : Nat, d = y.files.length - i ∧ i ≤ y.files.length ∧ Ow encF 3 (G.next + 1) G' q (unownTo y.files i) ∧ G'.next = G3.next ∧ (∀ k, blkV q ≠ some k → G'.blk k = G3.blk k) ∧ e 11 = .slice (some ⟨b, 0, none⟩) rs'.length c ∧ e 13 = .int .i64 (at_ : Int) ∧ e 17 = .pointer (some ⟨G.next, 0, none⟩) ∧ e 91 = .int .i64 (i : Int) ∧ e 90 = .int .i64 (y.files.length : Int)) y.files.length ⟨0, by simp, by omega, by simpa [unownTo] using oq3, rfl, fun _ _ => rfl, e11, e13, e17, by simpa using e91, e90⟩ ?_
        rintro d e G' ⟨i, rfl, hi, hoi, hn', hb', e11, e13, e17, e91, e90⟩
        by_cases hlt : i < y.files.length
        · have hg := hb' G.next (fun e => by have := (hqb _ e).1; omega)
          obtain ⟨_, _, _, _, k4⟩ := hcq G' hg
          have hne2 : unownTo y.files i ≠ [] := fun e => by
            have := unownTo_len y.files i; rw [e] at this; simp at this; omega
          obtain ⟨bq, Bq, cq2, hvq, _, _, hbq0, hbq1, hBq, hroq, hezq, hcq2, hputq⟩ := hoi.blkOf encF_len hne2
          rw [unownTo_len] at hvq
          have hcl2 := hcq2 i (by rw [unownTo_len]; exact hlt) 2 (by omega)
          have hset := hputq i 2 (by rw [unownTo_len]; exact hlt) (by omega) (unown y.files[i]) (.bool false) (fun k hk => by
            rw [unownTo_at hlt]
            match k with
            | 0 => rfl
            | 1 => rfl
            | 2 => rfl)
          rw [unownTo_succ hlt] at hset
          have cell2 : ∃ w, G'.cell bq (i * 3 + 2) = some w := ⟨_, by simp only [Heap.cell, hBq]; exact hcl2⟩
          obtain ⟨w2, cell2⟩ := cell2
          have w1 := wrap_succ (i := i) (by omega)
          subst hvq
          simp [c_forest_Prepare_l25, e11, e13, e17, e91, e90, hlt, k4, cell2, hBq, hroq]
          exact ⟨y.files.length - (i + 1), by omega, i + 1, rfl, by omega, hset, hn', fun k hk => by rw [if_neg (fun e => hk (by rw [e]; rfl))]; exact hb' k hk, w1⟩
        · obtain rfl : i = y.files.length := by omega
          have hfin : unownTo y.files y.files.length = y.files.map unown := by simp [unownTo]
          rw [hfin] at hoi
          simp [c_forest_Prepare_l25, e91, e90]
          exact hQ _ _ (by simpa using e11) (by simpa using e13) (by simpa using e17) hoi hn' hb'
      have hkcl : G2.cell G.next 4 = some (.slice none 0 0) := by simp only [Heap.cell, hblkG]; exact hB14
      have hG3n : G3.next = G2.next := by rw [hG3]; rfl
      have hG2n := E2.next
      rw [hG1n] at hG2n
      have last : ∀ G' : Heap, Ow encF 3 (G.next + 1) G' q (y.files.map unown) → G'.next = G3.next → (∀ k, blkV q ≠ some k → G'.blk k = G3.blk k) →
          ∃ X rsf, infs rsf = insAt (infs rs) at_ ⟨name, kind, parent, ⟨#[]⟩, y.files.map unown⟩ ∧ call K f_slices_Insert_Info [.slice (some ⟨b, 0, none⟩) rs'.length c, .int .i64 (at_ : Int), .slice (some ⟨G'.next, 0, none⟩) 1 3] (G'.add (rowBlk 5 [.string name, .int .i64 kind, .string parent, .string ⟨#[]⟩, q])) =
            some (.slice (some ⟨G'.next + 1, 0, none⟩) (rs'.length + 1) (2 * (rs'.length + 1)), X) ∧ Ext H X ∧ OwF H.next X (.slice (some ⟨G'.next + 1, 0, none⟩) (rs'.length + 1) (2 * (rs'.length + 1))) rsf := by
        intro G' hoG hn' hb'
        have EG : Ext G G' := ⟨by omega, fun k hk => by
          rw [hb' k (fun e => by have := (hqb _ e).1; omega), hG3, blk_set_ne (by omega), E2.blk k (by rw [hG1n]; omega)]
          exact E1.blk k hk⟩
        have EGa := EG.add (rowBlk 5 (encP (⟨name, kind, parent, ⟨#[]⟩, y.files.map unown⟩, q)))
        have hnx : (G'.add (rowBlk 5 (encP (⟨name, kind, parent, ⟨#[]⟩, y.files.map unown⟩, q)))).next = G'.next + 1 := rfl
        obtain ⟨X, hXn, hXb, hins⟩ := insP_ok (ho.out.ext EGa) at_ (by omega) (⟨name, kind, parent, ⟨#[]⟩, y.files.map unown⟩, q) G'.next 3 (row_of 5 0 rfl fun j hj => by
          rw [Nat.zero_add, cell_add_new]; rfl) (by simp [rwB]) (fun e => by have := (ho.out.below _ e).2; omega) hq1 (by omega)
        have hfin := ho.ins2 EGa (by rw [hnx]; have := hE.next; omega) at_ (⟨name, kind, parent, ⟨#[]⟩, y.files.map unown⟩, q) ((hoG.low (by omega)).ext ((Ext.refl G').add _)) hXn hXb (by omega) (by omega) hE.next
        refine ⟨_, _, ?_, hins, ?_, hfin.low (by simp)⟩
        · rw [infs_ins, hin]
        · exact (E0.trans ⟨by rw [hXn, hnx]; have := hE.next; omega, fun k hk => by rw [hXb k (fun e => by have := (ho.out.below _ e).1; omega)]; exact (hE.trans EGa).blk k hk⟩).add _
      rw [hB1, hX0] at hcl
      have hst3 : G2.set G.next (some (B1.put 4 q)) = G3 := by rw [hG3, hB3]
      have hqc : q.cells.toList = [q] := by rw [hqq]; rfl
      have hqs : q.cells.size = 1 := by rw [hqq]; rfl
      have hqn : noTup q = true := by rw [hqq]; rfl
      have hk43 := (hcq G3 rfl).2.2.2.2
      rcases hk' with rfl | rfl
      all_goals
        simp [hc, hp, hat1, hat2, hpr, c1, c4, hk2, hr6, hcl, hblkG, hB1r, hkcl, hq1, hst3, hbn, hqc, hqs, hk43, hlq]
        refine wp_nxt (hloop _ _ (by simp) (by simp) (by simp) (by simp) (by simp) ?_)
        intro e' G' e11 e13 e17 hoG hn' hb'
        obtain ⟨X, rsf, hi1, hi2, hi3, hi4⟩ := last G' hoG hn' hb'
        obtain ⟨d0, d1, d2, d3, d4⟩ := hcq G' (hb' G.next (fun e => by have := (hqb _ e).1; omega))
        simp [e11, e13, e17, d0, d1, d2, d3, d4, hqc, hqs, hq1, hi2]
        exact ⟨hi3, _, rfl, fun h => absurd rfl h, fun _ => ⟨rsf, hi1, hi4⟩⟩
end Go.AM
