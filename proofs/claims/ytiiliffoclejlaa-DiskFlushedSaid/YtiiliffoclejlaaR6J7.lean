import Derived.Test.YtiiliffoclejlaaR6J6
import Derived.Test.YtiiliffoclejlaaR6J3
import Derived.Test.YtiiliffoclejlaaR6J4
section TextR6Tg
/- Contracts: Format; steps that are done. -/
namespace Go.AM
open Go.Proofs
set_option linter.unusedVariables false
set_option linter.unusedSimpArgs false
set_option maxRecDepth 100000
attribute [-simp] ByteArray.size_eq_zero_iff
def formS : List Stp := [hdSt 0 1, flSt]
theorem rformat_ok (H : Heap) : wpf (call K f_ref1_Format [] H) fun r H' => Ext H H' ∧ Rows encSt 3 H' r formS := by
  refine open_plain rfl fc_ref1_Format rfl (Nat.le_of_ble_eq_true rfl) ?_
  have c := rheadStep_ok 0 1
  simp [c, mkrowV, fillL]
  refine ⟨(Ext.refl _).add _, ⟨by simp [formS], some ⟨H.next, 0, none⟩, 5, rfl, .inr ⟨H.next, 0, rfl, by simp, by simp [formS], fun i hi j hj => ?_⟩⟩⟩
  rcases i with _ | _ | i
  · rcases j with _ | _ | _ | j
    · simp [formS, hdSt, wrSt]
    · simp [formS, hdSt, wrSt]
    · simp [formS, hdSt, wrSt]
    · omega
  · rcases j with _ | _ | _ | j
    · simp [formS, flSt]
    · simp [formS, flSt]
    · simp [formS, flSt]
    · omega
  · exact absurd hi (by simp [formS])
theorem format_ok (H : Heap) : wpf (call K f_plan_Format [] H) fun r H' => Ext H H' ∧ Rows encSt 3 H' r formS := by
  refine open_plain rfl fc_plan_Format rfl (Nat.le_of_ble_eq_true rfl) ?_
  obtain ⟨_, G1, c1, E1, t, rfl, hT, _⟩ := oblank_ok (H.add (rowBlk 1 [.slice none 0 0]))
  obtain ⟨pt, kt, rfl⟩ := hT.slice
  have e1 := E1.next
  simp at e1
  have b1 : G1.blk H.next = some (rowBlk 1 [.slice none 0 0]) := by rw [E1.blk _ (by simp)]; simp
  obtain ⟨_, G2, c2, rfl, F2, v2, S2⟩ := sth_ok H.next (H.next + 1) G1 (.slice none 0 0) [] 0 1 ⟨⟨_, b1, rfl, rfl⟩, by omega, by omega, Own.nil⟩ (by simp) (by omega)
  obtain ⟨SBk, s0, s1, s2⟩ := S2.blk
  have cs : G2.cell H.next = SBk.at_ := by funext o; simp only [Heap.cell, s0]
  have ov := S2.own
  obtain ⟨pv, kv, rfl, _⟩ := ov.slc
  have f2 := F2.next
  have hE : Ext H G2 := ⟨by omega, fun b hb => by rw [F2.blk b (by omega) (by omega) notIn_nil, E1.blk b (by simp; omega), blk_add_old hb]⟩
  simp only [pgV, pgB] at c1
  simp [c1, c2, cs, s2]
  exact ⟨hE, by simpa [formS] using ov.rows encSt_len⟩
def done8 (d : Dk) : List Stp → Dk × Bool
  | [] => (d, true)
  | s :: ss => match doO d s with | none => (d, false) | some d' => done8 d' ss
def done7 (d : Dk) : List Stp → Dk
  | [] => d
  | s :: ss => match doO d s with | none => done7 d ss | some d' => done7 d' ss
theorem done8_ok (v sv : Value) (d : Dk) (ss : List Stp) (H : Heap) (h : DkR H v d) (hs : Rows encSt 3 H sv ss) :
    wpf (call K f_law8_done [v, sv] H) fun r H' => Ext H H' ∧ ∃ v', r = .tuple #[v', .bool (done8 d ss).2] ∧ DkR H' v' (done8 d ss).1 ∧ ((v' = v ∧ (done8 d ss).1 = d) ∨ OwnD H.next H' v' (done8 d ss).1) := by
  have hl := hs.lim
  obtain ⟨p, k, rfl⟩ := hs.slice
  have h0 := h
  obtain ⟨s, c, rfl, h1, h2⟩ := h
  obtain ⟨q1, m1, rfl⟩ := h1.slice
  obtain ⟨q2, m2, rfl⟩ := h2.slice
  refine open_plain rfl fc_law8_done rfl (Nat.le_of_ble_eq_true rfl) ?_
  simp
  refine wp_nxt (wp_for (fun dd e G => ∃ (i : Nat) (d' : Dk) (s c : Value) (DB : Blk), dd = ss.length - i ∧ i ≤ ss.length ∧ Ext H G ∧ H.next + 2 ≤ G.next ∧ G.blk H.next = some DB ∧ DB.ro = false ∧ DB.at_ 0 = some s ∧ DB.at_ 1 = some c ∧ G.blk (H.next + 1) = some nilB ∧
    (((.agg #[s, c] : Value) = .agg #[.slice q1 d.1.length m1, .slice q2 d.2.length m2] ∧ d' = d) ∨ OwnD (H.next + 2) G (.agg #[s, c]) d') ∧ done8 d ss = done8 d' (ss.drop i) ∧
    e 1 = .slice p ss.length k ∧ e 2 = .pointer (some ⟨H.next, 0, none⟩) ∧ e 4 = .pointer (some ⟨H.next + 1, 0, none⟩) ∧ e 6 = .int .i64 (i : Int)) ss.length
    ⟨0, d, .slice q1 d.1.length m1, .slice q2 d.2.length m2, rowBlk 2 [.slice q1 d.1.length m1, .slice q2 d.2.length m2], by simp, by simp, ((Ext.refl _).add _).add _, by simp, by simp, rfl, rfl, rfl, by simp [nilB], .inl ⟨rfl, rfl⟩, rfl, by simp, by simp, by simp [ptr], by simp⟩ ?_)
  rintro dd e G ⟨i, d', s, c, DB, rfl, hi, hE, hn, hb, hro, a0, a1, hz, hor, hd, k1, k2, k4, k6⟩
  have hD : DkR G (.agg #[s, c]) d' := by
    rcases hor with ⟨e1, rfl⟩ | ho
    · rw [e1]; exact h0.ext hE
    · exact ho.dk
  have cb : G.cell H.next = DB.at_ := by funext o; simp only [Heap.cell, hb]
  have czz : G.cell (H.next + 1) = nilB.at_ := by funext o; simp only [Heap.cell, hz]
  have nro : nilB.ro = false := rfl
  have nn0 : nilB.at_ 0 = some (.slice none 0 0) := rfl
  have nn1 : nilB.at_ 1 = some (.slice none 0 0) := rfl
  have hD0 := hD
  obtain ⟨s', c', e2, g1, g2⟩ := hD
  obtain ⟨rfl, rfl⟩ : s' = s ∧ c' = c := by simpa [eq_comm] using e2
  obtain ⟨r1, l1, rfl⟩ := g1.slice
  obtain ⟨r2, l2, rfl⟩ := g2.slice
  have keep : ∀ G', G.next ≤ G'.next → (∀ b, (b < H.next ∨ H.next + 2 ≤ b) → b < G.next → G'.blk b = G.blk b) → DkR G' (.agg #[.slice r1 d'.1.length l1, .slice r2 d'.2.length l2]) d' := fun G' hn' hk => by
    rcases hor with ⟨e1, rfl⟩ | ho
    · rw [e1]; exact h0.ext ⟨by omega, fun b hb => by rw [hk b (.inl hb) (by omega), hE.blk b hb]⟩
    · exact (ho.frame hn' fun b h1 h2 _ => hk b (.inr h1) h2).dk
  have keepO : ∀ G', G.next ≤ G'.next → (∀ b, (b < H.next ∨ H.next + 2 ≤ b) → b < G.next → G'.blk b = G.blk b) → (((.agg #[.slice r1 d'.1.length l1, .slice r2 d'.2.length l2] : Value) = .agg #[.slice q1 d.1.length m1, .slice q2 d.2.length m2] ∧ d' = d) ∨ OwnD (H.next + 2) G' (.agg #[.slice r1 d'.1.length l1, .slice r2 d'.2.length l2]) d') := fun G' hn' hk => by
    rcases hor with ho | ho
    · exact .inl ho
    · exact .inr (ho.frame hn' fun b h1 h2 _ => hk b (.inr h1) h2)
  have x1 : ¬ H.next + 1 = H.next := by omega
  by_cases hlt : i < ss.length
  · obtain ⟨_, b, o, rfl, hbb, kc⟩ := (hs.ext hE).at_ (i := i) hlt
    have kc0 := kc 0 (by omega); have kc1 := kc 1 (by omega); have kc2 := kc 2 (by omega)
    have hdr : ss.drop i = ss[i] :: ss.drop (i + 1) := List.drop_eq_getElem_cons hlt
    generalize ss[i] = st at kc0 kc1 kc2 hdr
    obtain ⟨fl, a, tx⟩ := st
    simp at kc0 kc1 kc2
    obtain ⟨_, G1, c1, E1, v1, rfl, oD⟩ := rdo_ok (.agg #[.slice r1 d'.1.length l1, .slice r2 d'.2.length l2]) d' fl a tx (G.add nilB) (hD0.ext ((Ext.refl _).add _))
    have e1n := E1.next
    simp at e1n
    have y1 : ¬ H.next = G.next := by omega
    have y2 : ¬ b = G.next := by omega
    have bn1 : G1.blk G.next = some nilB := by rw [E1.blk _ (by simp)]; simp
    have cn1 : G1.cell G.next = nilB.at_ := by funext o; simp only [Heap.cell, bn1]
    have bh1 : G1.blk H.next = some DB := by rw [E1.blk _ (by simp; omega), blk_add_old (by omega), hb]
    have ch1 : G1.cell H.next = DB.at_ := by funext o; simp only [Heap.cell, bh1]
    have bz1 : G1.blk (H.next + 1) = some nilB := by rw [E1.blk _ (by simp; omega), blk_add_old (by omega), hz]
    have cz1 : G1.cell (H.next + 1) = nilB.at_ := by funext o; simp only [Heap.cell, bz1]
    have y3 : ¬ H.next + 1 = G.next := by omega
    have oD' := oD
    obtain ⟨s1, c1v, rfl, o1, o2, o3⟩ := oD
    obtain ⟨u1, w1, rfl⟩ := (o1.rows encS_len).slice
    obtain ⟨u2, w2, rfl⟩ := (o2.rows encI_len).slice
    rw [hdr, done8] at hd
    have hE1 : Ext H G1 := (hE.add _).trans E1
    rw [nilB_fold.symm] at c1
    cases hdo : doO d' (fl, a, tx) with
    | none =>
      rw [hdo] at hd
      have he : doE d' (fl, a, tx) = 200 := by rw [doE, hdo]; rfl
      rw [he] at c1
      rw [hd]
      simp [c_law8_done_l8, k1, k2, k4, k6, hlt, cb, a0, a1, kc0, kc1, kc2, y2, c1, bn1, cn1, nro, nn0, nn1, ch1, y1, y3, bz1, cz1]
      have fr : ∀ b, (b < H.next ∨ H.next + 2 ≤ b) → b < G.next → ((G1.set G.next (some ((nilB.put 0 (.slice u1 (doR d' (fl, a, tx)).1.length w1)).put 1 (.slice u2 (doR d' (fl, a, tx)).2.length w2)))).set (H.next + 1) (some ((nilB.put 0 (.slice r1 d'.1.length l1)).put 1 (.slice r2 d'.2.length l2)))).blk b = G.blk b := fun b hb hb2 => by rw [blk_set_ne (by omega), blk_set_ne (by omega), E1.blk b (by simp; omega), blk_add_old hb2]
      refine ⟨(hE1.set (by omega) _).set (by omega) _, keep _ (by simp; omega) fr, ?_⟩
      rcases keepO _ (by simp; omega) fr with kk | kk
      · exact .inl (by simpa using kk)
      · exact .inr (kk.low (by omega))
    | some d2 =>
      rw [hdo] at hd
      have he : doE d' (fl, a, tx) = 0 := by rw [doE, hdo]; rfl
      have hr : doR d' (fl, a, tx) = d2 := by rw [doR, hdo]; rfl
      rw [he, hr] at c1
      rw [hr] at oD'
      simp [c_law8_done_l8, k1, k2, k4, k6, hlt, cb, a0, a1, kc0, kc1, kc2, y2, c1, bn1, cn1, nro, nn0, nn1, ch1, y1, y3, bz1, cz1, bh1, hro]
      refine ⟨ss.length - (i + 1), by omega, i + 1, rfl, by omega, (hE1.set (by omega) _).set (Nat.le_refl _) _, by omega, d2.1, d2.2, .inr ?_, by rw [hd], wrap_succ (by omega)⟩
      refine (oD'.frame (by simp) fun b hb _ _ => ?_).low (by simp; omega)
      simp at hb
      rw [blk_set_ne (by omega), blk_set_ne (by omega)]
  · obtain rfl : i = ss.length := by omega
    rw [List.drop_length, done8] at hd
    rw [hd]
    simp [c_law8_done_l8, k1, k2, k4, k6, cb, a0, a1, hz, czz, nro, nn0, nn1]
    have fr : ∀ b, (b < H.next ∨ H.next + 2 ≤ b) → b < G.next → (G.set (H.next + 1) (some ((nilB.put 0 (.slice r1 d'.1.length l1)).put 1 (.slice r2 d'.2.length l2)))).blk b = G.blk b := fun b hb hb2 => by rw [blk_set_ne (by omega)]
    refine ⟨hE.set (by omega) _, keep _ (by simp) fr, ?_⟩
    rcases keepO _ (by simp) fr with kk | kk
    · exact .inl (by simpa using kk)
    · exact .inr (kk.low (by omega))
theorem done7_ok (v sv : Value) (d : Dk) (ss : List Stp) (H : Heap) (h : DkR H v d) (hs : Rows encSt 3 H sv ss) :
    wpf (call K f_law7_done [v, sv] H) fun r H' => Ext H H' ∧ DkR H' r (done7 d ss) ∧ ((r = v ∧ done7 d ss = d) ∨ OwnD H.next H' r (done7 d ss)) := by
  have hl := hs.lim
  obtain ⟨p, k, rfl⟩ := hs.slice
  have h0 := h
  obtain ⟨s, c, rfl, h1, h2⟩ := h
  obtain ⟨q1, m1, rfl⟩ := h1.slice
  obtain ⟨q2, m2, rfl⟩ := h2.slice
  refine open_plain rfl fc_law7_done rfl (Nat.le_of_ble_eq_true rfl) ?_
  simp
  refine wp_nxt (wp_for (fun dd e G => ∃ (i : Nat) (d' : Dk) (s c : Value) (DB : Blk), dd = ss.length - i ∧ i ≤ ss.length ∧ Ext H G ∧ H.next + 2 ≤ G.next ∧ G.blk H.next = some DB ∧ DB.ro = false ∧ DB.at_ 0 = some s ∧ DB.at_ 1 = some c ∧ G.blk (H.next + 1) = some nilB ∧
    (((.agg #[s, c] : Value) = .agg #[.slice q1 d.1.length m1, .slice q2 d.2.length m2] ∧ d' = d) ∨ OwnD (H.next + 2) G (.agg #[s, c]) d') ∧ done7 d ss = done7 d' (ss.drop i) ∧
    e 1 = .slice p ss.length k ∧ e 2 = .pointer (some ⟨H.next, 0, none⟩) ∧ e 4 = .pointer (some ⟨H.next + 1, 0, none⟩) ∧ e 5 = .int .i64 (i : Int)) ss.length
    ⟨0, d, .slice q1 d.1.length m1, .slice q2 d.2.length m2, rowBlk 2 [.slice q1 d.1.length m1, .slice q2 d.2.length m2], by simp, by simp, ((Ext.refl _).add _).add _, by simp, by simp, rfl, rfl, rfl, by simp [nilB], .inl ⟨rfl, rfl⟩, rfl, by simp, by simp, by simp [ptr], by simp⟩ ?_)
  rintro dd e G ⟨i, d', s, c, DB, rfl, hi, hE, hn, hb, hro, a0, a1, hz, hor, hd, k1, k2, k4, k6⟩
  have hD : DkR G (.agg #[s, c]) d' := by
    rcases hor with ⟨e1, rfl⟩ | ho
    · rw [e1]; exact h0.ext hE
    · exact ho.dk
  have cb : G.cell H.next = DB.at_ := by funext o; simp only [Heap.cell, hb]
  have czz : G.cell (H.next + 1) = nilB.at_ := by funext o; simp only [Heap.cell, hz]
  have nro : nilB.ro = false := rfl
  have nn0 : nilB.at_ 0 = some (.slice none 0 0) := rfl
  have nn1 : nilB.at_ 1 = some (.slice none 0 0) := rfl
  have hD0 := hD
  obtain ⟨s', c', e2, g1, g2⟩ := hD
  obtain ⟨rfl, rfl⟩ : s' = s ∧ c' = c := by simpa [eq_comm] using e2
  obtain ⟨r1, l1, rfl⟩ := g1.slice
  obtain ⟨r2, l2, rfl⟩ := g2.slice
  have keep : ∀ G', G.next ≤ G'.next → (∀ b, (b < H.next ∨ H.next + 2 ≤ b) → b < G.next → G'.blk b = G.blk b) → DkR G' (.agg #[.slice r1 d'.1.length l1, .slice r2 d'.2.length l2]) d' := fun G' hn' hk => by
    rcases hor with ⟨e1, rfl⟩ | ho
    · rw [e1]; exact h0.ext ⟨by omega, fun b hb => by rw [hk b (.inl hb) (by omega), hE.blk b hb]⟩
    · exact (ho.frame hn' fun b h1 h2 _ => hk b (.inr h1) h2).dk
  have keepO : ∀ G', G.next ≤ G'.next → (∀ b, (b < H.next ∨ H.next + 2 ≤ b) → b < G.next → G'.blk b = G.blk b) → (((.agg #[.slice r1 d'.1.length l1, .slice r2 d'.2.length l2] : Value) = .agg #[.slice q1 d.1.length m1, .slice q2 d.2.length m2] ∧ d' = d) ∨ OwnD (H.next + 2) G' (.agg #[.slice r1 d'.1.length l1, .slice r2 d'.2.length l2]) d') := fun G' hn' hk => by
    rcases hor with ho | ho
    · exact .inl ho
    · exact .inr (ho.frame hn' fun b h1 h2 _ => hk b (.inr h1) h2)
  have x1 : ¬ H.next + 1 = H.next := by omega
  by_cases hlt : i < ss.length
  · obtain ⟨_, b, o, rfl, hbb, kc⟩ := (hs.ext hE).at_ (i := i) hlt
    have kc0 := kc 0 (by omega); have kc1 := kc 1 (by omega); have kc2 := kc 2 (by omega)
    have hdr : ss.drop i = ss[i] :: ss.drop (i + 1) := List.drop_eq_getElem_cons hlt
    generalize ss[i] = st at kc0 kc1 kc2 hdr
    obtain ⟨fl, a, tx⟩ := st
    simp at kc0 kc1 kc2
    obtain ⟨_, G1, c1, E1, v1, rfl, oD⟩ := rdo_ok (.agg #[.slice r1 d'.1.length l1, .slice r2 d'.2.length l2]) d' fl a tx (G.add nilB) (hD0.ext ((Ext.refl _).add _))
    have e1n := E1.next
    simp at e1n
    have y1 : ¬ H.next = G.next := by omega
    have y2 : ¬ b = G.next := by omega
    have bn1 : G1.blk G.next = some nilB := by rw [E1.blk _ (by simp)]; simp
    have cn1 : G1.cell G.next = nilB.at_ := by funext o; simp only [Heap.cell, bn1]
    have bh1 : G1.blk H.next = some DB := by rw [E1.blk _ (by simp; omega), blk_add_old (by omega), hb]
    have ch1 : G1.cell H.next = DB.at_ := by funext o; simp only [Heap.cell, bh1]
    have bz1 : G1.blk (H.next + 1) = some nilB := by rw [E1.blk _ (by simp; omega), blk_add_old (by omega), hz]
    have cz1 : G1.cell (H.next + 1) = nilB.at_ := by funext o; simp only [Heap.cell, bz1]
    have y3 : ¬ H.next + 1 = G.next := by omega
    have oD' := oD
    obtain ⟨s1, c1v, rfl, o1, o2, o3⟩ := oD
    obtain ⟨u1, w1, rfl⟩ := (o1.rows encS_len).slice
    obtain ⟨u2, w2, rfl⟩ := (o2.rows encI_len).slice
    rw [hdr, done7] at hd
    have hE1 : Ext H G1 := (hE.add _).trans E1
    rw [nilB_fold.symm] at c1
    cases hdo : doO d' (fl, a, tx) with
    | none =>
      rw [hdo] at hd
      have he : doE d' (fl, a, tx) = 200 := by rw [doE, hdo]; rfl
      rw [he] at c1
      rw [hd]
      simp [c_law7_done_l7, k1, k2, k4, k6, hlt, cb, a0, a1, kc0, kc1, kc2, y2, c1, bn1, cn1, nro, nn0, nn1, ch1, y1, y3, bz1, cz1]
      have kk := keepO (G1.set G.next (some ((nilB.put 0 (.slice u1 (doR d' (fl, a, tx)).1.length w1)).put 1 (.slice u2 (doR d' (fl, a, tx)).2.length w2)))) (by simp; omega) fun b hb hb2 => by rw [blk_set_ne (by omega), E1.blk b (by simp; omega), blk_add_old hb2]
      refine ⟨ss.length - (i + 1), by omega, i + 1, rfl, by omega, hE1.set (by omega) _, by omega, d'.1, d'.2, _, _, DB, bh1, hro, a0, a1, ?_, rfl, wrap_succ (by omega)⟩
      simpa using kk
    | some d2 =>
      rw [hdo] at hd
      have he : doE d' (fl, a, tx) = 0 := by rw [doE, hdo]; rfl
      have hr : doR d' (fl, a, tx) = d2 := by rw [doR, hdo]; rfl
      rw [he, hr] at c1
      rw [hr] at oD'
      simp [c_law7_done_l7, k1, k2, k4, k6, hlt, cb, a0, a1, kc0, kc1, kc2, y2, c1, bn1, cn1, nro, nn0, nn1, ch1, y1, y3, bz1, cz1, bh1, hro]
      refine ⟨ss.length - (i + 1), by omega, i + 1, rfl, by omega, (hE1.set (by omega) _).set (Nat.le_refl _) _, by omega, d2.1, d2.2, .inr ?_, by rw [hd], wrap_succ (by omega)⟩
      refine (oD'.frame (by simp) fun b hb _ _ => ?_).low (by simp; omega)
      simp at hb
      rw [blk_set_ne (by omega), blk_set_ne (by omega)]
  · obtain rfl : i = ss.length := by omega
    rw [List.drop_length, done7] at hd
    rw [hd]
    simp [c_law7_done_l7, k1, k2, k4, k6, cb, a0, a1, hz, czz, nro, nn0, nn1]
    have kk := keepO (G.set (H.next + 1) (some ((nilB.put 0 (.slice r1 d'.1.length l1)).put 1 (.slice r2 d'.2.length l2)))) (by simp) fun b hb hb2 => by rw [blk_set_ne (by omega)]
    refine ⟨hE.set (by omega) _, keep _ (by simp) fun b hb hb2 => by rw [blk_set_ne (by omega)], ?_⟩
    rcases kk with kk | kk
    · exact .inl (by simpa using kk)
    · exact .inr (kk.low (by omega))
end Go.AM
end TextR6Tg
section TextR6Th
/- Contracts: boxes of pagers; what every planner answers. -/
namespace Go.AM
open Go.Proofs
set_option linter.unusedVariables false
set_option linter.unusedSimpArgs false
set_option maxRecDepth 100000
attribute [-simp] ByteArray.size_eq_zero_iff
/-- a pager laid in a box behind what made it -/
theorem stageP {G : Heap} {p : Pg} {t : Value} (h : Strs G t p.text) {n : Nat} (hn : p.text.length = n) :
    ∃ q k A, t = .slice q n k ∧ A = (G.add (rowBlk 5 [.int .i64 0, .int .i64 0, .int .i64 0, .int .i64 0, .slice none 0 0])).set G.next (some ((((((rowBlk 5 [.int .i64 0, .int .i64 0, .int .i64 0, .int .i64 0, .slice none 0 0]).put 0 (.int .i64 p.hn)).put 1 (.int .i64 p.hs)).put 2 (.int .i64 p.next)).put 3 (.int .i64 p.used)).put 4 (.slice q n k))) ∧ A.next = G.next + 1 ∧ Ext G A ∧
      ∀ A', Ext A A' → (A'.cell G.next 0 = some (.int .i64 p.hn) ∧ A'.cell G.next 1 = some (.int .i64 p.hs) ∧ A'.cell G.next 2 = some (.int .i64 p.next) ∧ A'.cell G.next 3 = some (.int .i64 p.used) ∧ A'.cell G.next 4 = some (.slice q n k)) ∧ Strs A' (.slice q n k) p.text := by
  obtain ⟨q, k, rfl⟩ := h.sliceN hn
  have E : ∀ f, Ext G ((G.add (rowBlk 5 [.int .i64 0, .int .i64 0, .int .i64 0, .int .i64 0, .slice none 0 0])).set G.next f) := fun f => ((Ext.refl G).add _).set (Nat.le_refl _) _
  refine ⟨q, k, _, rfl, rfl, rfl, E _, fun A' hE => ⟨?_, h.ext ((E _).trans hE)⟩⟩
  have hc : ∀ o, A'.cell G.next o = ((((((rowBlk 5 [.int .i64 0, .int .i64 0, .int .i64 0, .int .i64 0, .slice none 0 0]).put 0 (.int .i64 p.hn)).put 1 (.int .i64 p.hs)).put 2 (.int .i64 p.next)).put 3 (.int .i64 p.used)).put 4 (.slice q n k)).at_ o := fun o => by
    rw [hE.cell (by simp)]; simp
  simp [hc]
theorem Pg.cell_fold {p : Pg} : True := trivial
theorem pgB_room : pgRoom pgB = true := by kernel_rfl
theorem pgB_len : pgB.text.length = 48 := List.length_replicate
theorem pgO_room : pgRoom pgO = false := by kernel_rfl
def abc : ByteArray := ⟨#[97, 98, 99]⟩
theorem awake8_ok (H : Heap) : call K f_law8_awake [] H = some (.bool true, H) := by
  refine of_wpf (open_pure rfl fc_law8_awake rfl (Nat.le_of_ble_eq_true rfl) ?_)
  obtain ⟨va, G1, c1, E1, R1⟩ := format_ok H.roAll
  obtain ⟨pa, ka, rfl⟩ := R1.sliceN (n := 2) rfl
  obtain ⟨_, G2, c2, E2, t2, rfl, T2, _⟩ := rblank_ok G1
  obtain ⟨q2, k2, A2, rfl, hA2, n2, X2, F2⟩ := stageP T2 pgB_len
  obtain ⟨⟨x0, x1, x2, x3, x4⟩, D2⟩ := F2 A2 (Ext.refl _)
  -- Fresh
  obtain ⟨_, G3, c3, E3, s3, t3, rfl, oS3, oT3, _⟩ := fresh_ok pgB _ A2 D2
  have hF : freshR pgB = (freshS pgB, freshQ pgB, 0) := if_pos pgB_room
  rw [hF] at c3 oS3 oT3
  have l3 : (freshS pgB).length = 195 := by rw [freshS, List.length_append, freshHome_len]; rfl
  obtain ⟨ps3, ks3, rfl⟩ := (oS3.rows encSt_len).sliceN l3
  obtain ⟨q3, k3, A3, rfl, hA3, n3, X3, F3⟩ := stageP (p := freshQ pgB) (oT3.rows encS_len) pgB_len
  obtain ⟨⟨y0, y1, y2, y3, y4⟩, D3⟩ := F2 A3 (E3.trans X3)
  -- Commit
  obtain ⟨B3, hB3⟩ : ∃ B3, B3 = A3.add (rowBlk 2 [.int .i64 3, .string abc]) := ⟨_, rfl⟩
  have EB3 : Ext A3 B3 := by rw [hB3]; exact (Ext.refl _).add _
  have I3 : Imgs B3 (.slice (some ⟨A3.next, 0, none⟩) 1 3) [(3, abc)] := ⟨by simp, _, 3, rfl, .inr ⟨A3.next, 0, rfl, by rw [hB3]; simp, by simp, fun i hi j hj => by
    obtain rfl : i = 0 := by simpa using hi
    rw [hB3]
    rcases j with _ | _ | j
    · simp
    · simp
    · omega⟩⟩
  obtain ⟨_, G4, c4, E4, s4, t4, rfl, oS4, oT4, _⟩ := pcommit_ok pgB _ _ [(3, abc)] B3 (D3.ext EB3) I3
  have hk4 : MkOk [(3, abc)] pgB.next := ⟨by decide, by decide, by decide⟩
  have hC : comm pgB [(3, abc)] = (commS pgB [(3, abc)], commQ pgB [(3, abc)], 0) := by rw [comm, if_pos ⟨pgB_room, by decide⟩, if_neg (by simp)]
  have eB : baseP pgB [(3, abc)] = pgB := if_neg (by decide)
  have eS : baseS pgB [(3, abc)] = [] := if_neg (by decide)
  have hl4 : (commR pgB [(3, abc)]).length = 5 := by rw [commR, eB, mkRecs_len hk4]; rfl
  have l4 : (commS pgB [(3, abc)]).length = 6 := by rw [commS, eS, List.length_append, List.length_append, recSt_len, hl4]; rfl
  have m4 : (commQ pgB [(3, abc)]).next = 6 ∧ (commQ pgB [(3, abc)]).used = 5 := by rw [commQ]; simp only [hl4, eB]; exact ⟨rfl, rfl⟩
  have z4 : (commQ pgB [(3, abc)]).text.length = 48 := by rw [commQ]; simp only [eB]; rw [applyI_len]; exact pgB_len
  rw [hC] at c4 oS4 oT4
  obtain ⟨ps4, ks4, rfl⟩ := (oS4.rows encSt_len).sliceN l4
  obtain ⟨q4, k4, A4, rfl, hA4, n4, X4, F4⟩ := stageP (p := commQ pgB [(3, abc)]) (oT4.rows encS_len) z4
  -- Fresh of none
  obtain ⟨_, G5, c5, E5, s5, t5, rfl, oS5, oT5, _⟩ := fresh_ok pgO (.slice none 0 0) A4 Rows.nil
  have hF5 : freshR pgO = ([], pgO, 800) := by rw [freshR, pgO_room]; rfl
  rw [hF5] at c5 oS5 oT5
  obtain ⟨ps5, ks5, rfl⟩ := (oS5.rows encSt_len).sliceN (n := 0) rfl
  obtain ⟨q5, k5, A5, rfl, hA5, n5, X5, F5⟩ := stageP (p := pgO) (oT5.rows encS_len) (n := 0) rfl
  have E25 := (E3.trans X3).trans (EB3.trans (E4.trans (X4.trans (E5.trans X5))))
  obtain ⟨⟨u0, u1, u2, u3, u4⟩, D5⟩ := F2 A5 E25
  -- Commit of what may not be
  obtain ⟨B5, hB5⟩ : ∃ B5, B5 = A5.add (rowBlk 2 [.int .i64 (-1), .string ⟨#[]⟩]) := ⟨_, rfl⟩
  have EB5 : Ext A5 B5 := by rw [hB5]; exact (Ext.refl _).add _
  have I5 : Imgs B5 (.slice (some ⟨A5.next, 0, none⟩) 1 3) [(-1, ⟨#[]⟩)] := ⟨by simp, _, 3, rfl, .inr ⟨A5.next, 0, rfl, by rw [hB5]; simp, by simp, fun i hi j hj => by
    obtain rfl : i = 0 := by simpa using hi
    rw [hB5]
    rcases j with _ | _ | j
    · simp
    · simp
    · omega⟩⟩
  obtain ⟨_, G6, c6, E6, s6, t6, rfl, oS6, oT6, _⟩ := pcommit_ok pgB _ _ [(-1, ⟨#[]⟩)] B5 (D5.ext EB5) I5
  have hC6 : comm pgB [(-1, ⟨#[]⟩)] = ([], pgO, 800) := by rw [comm, if_neg (fun h => absurd h.2 (by decide))]
  rw [hC6] at c6 oS6 oT6
  obtain ⟨ps6, ks6, rfl⟩ := (oS6.rows encSt_len).sliceN (n := 0) rfl
  obtain ⟨q6, k6, A6, rfl, hA6, n6, X6, F6⟩ := stageP (p := pgO) (oT6.rows encS_len) (n := 0) rfl
  have E56 := EB5.trans (E6.trans X6)
  obtain ⟨⟨w0, w1, w2, w3, w4⟩, D6⟩ := F2 A6 (E25.trans E56)
  obtain ⟨⟨v0, v1, v2, v3, v4⟩, _⟩ := F3 A6 (EB3.trans (E4.trans (X4.trans (E5.trans (X5.trans E56)))))
  obtain ⟨⟨g0, g1, g2, g3, g4⟩, _⟩ := F4 A6 (E5.trans (X5.trans E56))
  have my := pmay_ok pgB _ A6 D6
  have hm : pgMay pgB = true := by kernel_rfl
  rw [hm] at my
  rw [m4.1] at g2
  rw [m4.2] at g3
  generalize commQ pgB [(3, abc)] = Q4 at *
  simp only [pgV, pgB, pgO, freshQ, Int.reduceAdd, Int.zero_add] at c2 c3 c5 c6 my hA2 hA3 hA5 hA6 x0 x1 x2 x3 x4 y0 y1 y2 y3 y4 u0 u1 u2 u3 u4 w0 w1 w2 w3 w4 v0 v1
  simp only [pgV, pgB, abc] at c4 hB3 hA4
  simp [c1, c2, ← hA2, x0, x1, x2, x3, x4, c3, ← hA3, y0, y1, y2, y3, y4, mkrowV, fillL, ← hB3, c4, ← hA4, c5, ← hA5, u0, u1, u2, u3, u4, ← hB5, c6, ← hA6, v0, v1, cellsEq, g2, g3, w0, w1, w2, w3, w4, my]
end Go.AM
end TextR6Th
section TextR6Ti
/- Plain laws: what stands in a disk's sectors behind writes, flushes, crashes. -/
namespace Go.AM
open Go.Proofs
set_option linter.unusedVariables false
set_option linter.unusedSimpArgs false
set_option maxRecDepth 100000
attribute [-simp] ByteArray.size_eq_zero_iff
abbrev Wr := Nat × ByteArray
def wS (w : Wr) : Stp := (false, (w.1 : Int), w.2)
def wI (w : Wr) : Img := ((w.1 : Int), w.2)
def wrOk (w : Wr) : Prop := w.1 < 394 ∧ w.2.size = 64
def sg (S : List ByteArray) (i : Nat) : ByteArray := S[i]?.getD ⟨#[]⟩
theorem vw_nil (S : List ByteArray) (i : Nat) : vw (S, []) i = sg S i := by
  unfold vw lookD; rw [lookC_nil, Int.toNat_natCast]; rfl
theorem vw_snoc (S : List ByteArray) (C : List Img) (w : Img) (i : Nat) : vw (S, C ++ [w]) i = if w.1 = (i : Int) then w.2 else vw (S, C) i := by
  unfold vw lookD; rw [lookC_snoc]
  split <;> rfl
theorem sg_set {S : List ByteArray} {a i : Nat} {t : ByteArray} (ha : a < S.length) : sg (S.set a t) i = if a = i then t else sg S i := by
  unfold sg
  by_cases h : a = i
  · subst h; rw [if_pos rfl, List.getElem?_set_self ha]; rfl
  · rw [if_neg h, List.getElem?_set_ne h]
theorem vw_flush {S : List ByteArray} {C : List Img} (hd : dOk (S, C) = true) (i : Nat) : vw (applyW S C, []) i = vw (S, C) i := by
  obtain ⟨h1, h2, h3, h4⟩ := dOk_len hd
  have key : ∀ k, k ≤ C.length → vw (applyW S (C.take k), []) i = vw (S, C.take k) i := by
    intro k
    induction k with
    | zero => intro _; rw [List.take_zero]; rfl
    | succ k ih =>
      intro hk
      have hlt : k < C.length := by omega
      obtain ⟨a, ha, ha2, _⟩ := wOk_of (h4 _ (List.getElem_mem hlt))
      rw [applyW_take _ _ hlt, List.take_succ_eq_append_getElem hlt, vw_snoc, vw_nil, sg_set (by rw [ha, Int.toNat_natCast, applyW_len, h1]; exact ha2), ← vw_nil, ih (by omega), ha, Int.toNat_natCast]
      by_cases e : a = i
      · subst e; simp
      · rw [if_neg e, if_neg (by omega)]
  have := key C.length (Nat.le_refl _)
  rwa [List.take_length] at this
theorem doO_write {d : Dk} (hd : dOk d = true) {w : Wr} (hw : wrOk w) (hc : d.2.length < 512) : doO d (wS w) = some (d.1, d.2 ++ [wI w]) ∧ dOk (d.1, d.2 ++ [wI w]) = true := by
  have h := (do_write hd hw.1 hw.2 hc).2.2
  refine ⟨?_, h⟩
  unfold doO wS
  rw [if_pos hd, if_pos rfl, if_pos ⟨wOk_mk hw.1 hw.2, by omega⟩]; rfl
theorem doO_flush {d : Dk} (hd : dOk d = true) : doO d flSt = some (applyW d.1 d.2, []) ∧ dOk (applyW d.1 d.2, []) = true := by
  refine ⟨?_, (do_flush hd).2.2⟩
  unfold doO flSt
  rw [if_pos hd, if_neg (by simp), if_pos ⟨rfl, rfl⟩]
theorem done8_writes : ∀ (ws : List Wr) (d : Dk) (ss : List Stp), dOk d = true → (∀ w ∈ ws, wrOk w) → d.2.length + ws.length ≤ 512 → done8 d (ws.map wS ++ ss) = done8 (d.1, d.2 ++ ws.map wI) ss ∧ done7 d (ws.map wS ++ ss) = done7 (d.1, d.2 ++ ws.map wI) ss ∧ dOk (d.1, d.2 ++ ws.map wI) = true
  | [], d, ss, hd, _, _ => by simp [hd]
  | w :: ws, d, ss, hd, hw, hl => by
    simp only [List.length_cons] at hl
    obtain ⟨e1, e2⟩ := doO_write hd (hw w (by simp)) (by omega)
    obtain ⟨i1, i2, i3⟩ := done8_writes ws (d.1, d.2 ++ [wI w]) ss e2 (fun x hx => hw x (by simp [hx])) (by simp; omega)
    simp only [List.append_assoc, List.singleton_append] at i1 i2 i3
    refine ⟨?_, ?_, by simpa using i3⟩
    · show done8 d (wS w :: (ws.map wS ++ ss)) = _
      rw [done8, e1]; simpa using i1
    · show done7 d (wS w :: (ws.map wS ++ ss)) = _
      rw [done7, e1]; simpa using i2
theorem done8_flush {d : Dk} (hd : dOk d = true) (ss : List Stp) : done8 d (flSt :: ss) = done8 (applyW d.1 d.2, []) ss ∧ done7 d (flSt :: ss) = done7 (applyW d.1 d.2, []) ss ∧ dOk (applyW d.1 d.2, []) = true := by
  obtain ⟨e1, e2⟩ := doO_flush hd
  exact ⟨by rw [done8, e1], by rw [done7, e1], e2⟩
/-- sectors behind writes, each to its own place -/
structure Written (V : Nat → ByteArray) (ws : List Wr) (V' : Nat → ByteArray) : Prop where
  put : ∀ w ∈ ws, V' w.1 = w.2
  old : ∀ i, i < 394 → (∀ w ∈ ws, w.1 ≠ i) → V' i = V i
abbrev Apart (ws : List Wr) : Prop := (ws.map Prod.fst).Nodup
theorem apart_eq : ∀ {ws : List Wr}, Apart ws → ∀ {x w : Wr}, x ∈ ws → w ∈ ws → x.1 = w.1 → x = w
  | a :: ws, h, x, w, hx, hw, e => by
    rw [Apart, List.map_cons, List.nodup_cons] at h
    rcases List.mem_cons.1 hx with h1 | h1 <;> rcases List.mem_cons.1 hw with h2 | h2
    · rw [h1, h2]
    · exact (h.1 (List.mem_map.2 ⟨w, h2, by rw [← e, h1]⟩)).elim
    · exact (h.1 (List.mem_map.2 ⟨x, h1, by rw [e, h2]⟩)).elim
    · exact apart_eq h.2 h1 h2 e
theorem lookC_app (C W : List Img) (a : Int) : lookC (C ++ W) a = (lookC W a).or (lookC C a) := by
  unfold lookC
  rw [List.reverse_append, List.find?_append]
  cases (W.reverse.find? fun w => decide (w.1 = a)) <;> rfl
theorem vw_writes {S : List ByteArray} {C : List Img} {ws : List Wr} (ha : Apart ws) : Written (vw (S, C)) ws (vw (S, C ++ ws.map wI)) := by
  constructor
  · intro w hw
    unfold vw lookD
    simp only
    rw [lookC_app]
    have hs : ((ws.map wI).reverse.find? fun x => decide (x.1 = (w.1 : Int))).isSome = true := by
      rw [List.find?_isSome]
      exact ⟨wI w, by simpa using ⟨w.1, w.2, hw, rfl⟩, by simp [wI]⟩
    obtain ⟨x, hx⟩ := Option.isSome_iff_exists.1 hs
    have hm := List.mem_of_find?_eq_some hx
    have hp := List.find?_some hx
    rw [List.mem_reverse, List.mem_map] at hm
    obtain ⟨y, hy, rfl⟩ := hm
    have hyw : y.1 = w.1 := by simpa [wI] using hp
    obtain rfl := apart_eq ha hy hw hyw
    unfold lookC; rw [hx]; rfl
  · intro i hi hne
    unfold vw lookD
    simp only
    rw [lookC_app]
    have : lookC (ws.map wI) (i : Int) = none := by
      unfold lookC
      rw [Option.map_eq_none_iff, List.find?_eq_none]
      intro x hx
      rw [List.mem_reverse, List.mem_map] at hx
      obtain ⟨y, hy, rfl⟩ := hx
      have := hne y hy
      simp [wI]; omega
    rw [this]; rfl
/-- what a write may leave of a sector at a crash -/
def Cr1 (old new x : ByteArray) : Prop := x = old ∨ x = new ∨ ∃ c, c ≤ 64 ∧ x = new.extract 0 c ++ old.extract c 64
structure Crashed (V : Nat → ByteArray) (ws : List Wr) (V' : Nat → ByteArray) : Prop where
  put : ∀ w ∈ ws, Cr1 (V w.1) w.2 (V' w.1)
  old : ∀ i, i < 394 → (∀ w ∈ ws, w.1 ≠ i) → V' i = V i
theorem crN_law {S : List ByteArray} {ws : List Wr} (keep : ByteArray) (torn at_ : Int) (hS : S.length = 394) (h64 : ∀ s ∈ S, s.size = 64) (ha : Apart ws) (hw : ∀ w ∈ ws, wrOk w) (h0 : 0 ≤ at_ ∧ at_ ≤ 64) :
    ∀ k, k ≤ ws.length → (∀ j (hj : j < ws.length), (j < k → Cr1 (sg S ws[j].1) ws[j].2 (sg (crN keep torn at_ S (ws.map wI) k) ws[j].1) ∧ (torn = -1 → sg (crN keep torn at_ S (ws.map wI) k) ws[j].1 = sg S ws[j].1 ∨ sg (crN keep torn at_ S (ws.map wI) k) ws[j].1 = ws[j].2)) ∧ (k ≤ j → sg (crN keep torn at_ S (ws.map wI) k) ws[j].1 = sg S ws[j].1)) ∧
      ∀ i, i < 394 → (∀ w ∈ ws, w.1 ≠ i) → sg (crN keep torn at_ S (ws.map wI) k) i = sg S i := by
  intro k
  induction k with
  | zero => intro _; exact ⟨fun j hj => ⟨fun h => by omega, fun _ => rfl⟩, fun i _ _ => rfl⟩
  | succ k ih =>
    intro hk
    obtain ⟨i1, i2⟩ := ih (by omega)
    have hlt : k < ws.length := by omega
    have hok := hw _ (List.getElem_mem hlt)
    have hl := crN_len keep torn at_ S (ws.map wI) k
    have hsz : (sg S ws[k].1).size = 64 := by
      unfold sg; rw [List.getElem?_eq_getElem (by rw [hS]; exact hok.1)]; exact h64 _ (List.getElem_mem _)
    rw [crN_succ _ _ _ _ _ (by simpa using hlt)]
    have hst : ∀ t, sg ((crN keep torn at_ S (ws.map wI) k).set ws[k].1 t) = fun i => if ws[k].1 = i then t else sg (crN keep torn at_ S (ws.map wI) k) i := fun t => by
      funext i; exact sg_set (by rw [hl, hS]; exact hok.1)
    have hdist : ∀ j (hj : j < ws.length), j ≠ k → ws[k].1 ≠ ws[j].1 := fun j hj hjk => by
      have hp := List.pairwise_iff_getElem.1 (show (ws.map Prod.fst).Pairwise (· ≠ ·) from ha)
      rcases Nat.lt_or_gt_of_ne hjk with h | h
      · have := hp j k (by simpa using hj) (by simpa using hlt) h
        simp only [List.getElem_map] at this
        exact fun e => this e.symm
      · have := hp k j (by simpa using hlt) (by simpa using hj) h
        simpa only [List.getElem_map] using this
    have hstep : crStep keep torn at_ (crN keep torn at_ S (ws.map wI) k) k ((ws.map wI)[k]'(by simpa using hlt)) = if (k : Int) = torn then (crN keep torn at_ S (ws.map wI) k).set ws[k].1 (tornR (sg S ws[k].1) ws[k].2 at_) else if oddK keep k = true then (crN keep torn at_ S (ws.map wI) k).set ws[k].1 ws[k].2 else crN keep torn at_ S (ws.map wI) k := by
      have e1 : (wI ws[k]).1.toNat = ws[k].1 := by simp [wI]
      have e2 := (i1 k hlt).2 (Nat.le_refl _)
      simp only [crStep, List.getElem_map, e1]
      rw [show (crN keep torn at_ S (ws.map wI) k)[ws[k].1]?.getD ⟨#[]⟩ = sg S ws[k].1 from e2]
      rfl
    rw [hstep]
    have other : ∀ X : List ByteArray, (∀ i, i ≠ ws[k].1 → sg X i = sg (crN keep torn at_ S (ws.map wI) k) i) → (Cr1 (sg S ws[k].1) ws[k].2 (sg X ws[k].1) ∧ (torn = -1 → sg X ws[k].1 = sg S ws[k].1 ∨ sg X ws[k].1 = ws[k].2)) →
        (∀ j (hj : j < ws.length), (j < k + 1 → Cr1 (sg S ws[j].1) ws[j].2 (sg X ws[j].1) ∧ (torn = -1 → sg X ws[j].1 = sg S ws[j].1 ∨ sg X ws[j].1 = ws[j].2)) ∧ (k + 1 ≤ j → sg X ws[j].1 = sg S ws[j].1)) ∧ ∀ i, i < 394 → (∀ w ∈ ws, w.1 ≠ i) → sg X i = sg S i := fun X h1 h2 => by
      refine ⟨fun j hj => ⟨fun hjk => ?_, fun hjk => ?_⟩, fun i hi hne => ?_⟩
      · by_cases e : j = k
        · subst e; exact h2
        · rw [h1 _ (fun e2 => hdist j hj e e2.symm)]; exact (i1 j hj).1 (by omega)
      · rw [h1 _ (fun e2 => hdist j hj (by omega) e2.symm)]; exact (i1 j hj).2 (by omega)
      · rw [h1 _ (fun e => hne _ (List.getElem_mem hlt) e.symm)]; exact i2 i hi hne
    split
    · rename_i ht
      refine other _ (fun i hi => by rw [hst]; exact if_neg (fun e => hi e.symm)) ?_
      have e := congrFun (hst (tornR (sg S ws[k].1) ws[k].2 at_)) ws[k].1
      simp only [if_true] at e
      rw [e]
      refine ⟨.inr (.inr ⟨at_.toNat, by omega, ?_⟩), fun h => by omega⟩
      rw [tornR, if_pos ⟨⟨hsz, hok.2⟩, h0⟩]
    · split
      · refine other _ (fun i hi => by rw [hst]; exact if_neg (fun e => hi e.symm)) ?_
        have e := congrFun (hst ws[k].2) ws[k].1
        simp only [if_true] at e
        rw [e]
        exact ⟨.inr (.inl rfl), fun _ => .inr rfl⟩
      · refine other _ (fun i hi => rfl) ?_
        rw [(i1 k hlt).2 (Nat.le_refl _)]
        exact ⟨.inl rfl, fun _ => .inl rfl⟩
theorem crash_law {S : List ByteArray} {ws : List Wr} (keep : ByteArray) (torn at_ : Int) (hd : dOk (S, ws.map wI) = true) (ha : Apart ws) (hw : ∀ w ∈ ws, wrOk w) (h0 : 0 ≤ at_ ∧ at_ ≤ 64) :
    dOk (crR (S, ws.map wI) keep torn at_) = true ∧ crE (S, ws.map wI) at_ = 0 ∧ Crashed (vw (S, [])) ws (vw (crR (S, ws.map wI) keep torn at_)) ∧ (torn = -1 → ∀ w ∈ ws, vw (crR (S, ws.map wI) keep torn at_) w.1 = vw (S, []) w.1 ∨ vw (crR (S, ws.map wI) keep torn at_) w.1 = w.2) ∧ (crR (S, ws.map wI) keep torn at_).2 = [] := by
  obtain ⟨h1, h2, h3, h4⟩ := dOk_len hd
  obtain ⟨c1, c2, c3⟩ := do_crash hd keep torn h0
  rw [c1]
  obtain ⟨k1, k2⟩ := crN_law keep torn at_ h1 h3 ha hw h0 ws.length (Nat.le_refl _)
  have hl : (ws.map wI).length = ws.length := by simp
  simp only [hl] at c3 ⊢
  refine ⟨by simpa using c3, c2, ⟨fun w hw' => ?_, fun i hi hne => ?_⟩, fun ht w hw' => ?_, trivial⟩
  · obtain ⟨j, hj, rfl⟩ := List.getElem_of_mem hw'
    rw [vw_nil, vw_nil]; exact ((k1 j hj).1 hj).1
  · rw [vw_nil, vw_nil]; exact k2 i hi hne
  · obtain ⟨j, hj, rfl⟩ := List.getElem_of_mem hw'
    rw [vw_nil, vw_nil]; exact ((k1 j hj).1 hj).2 ht
end Go.AM
end TextR6Ti
section TextR6Tj
/- Plain laws: stores that are sound; what they are opened as. -/
namespace Go.AM
open Go.Proofs
set_option linter.unusedVariables false
set_option linter.unusedSimpArgs false
set_option maxRecDepth 100000
attribute [-simp] ByteArray.size_eq_zero_iff
/-! ### logs of transactions -/
def lgT : List (List Img) → Int → List ByteArray
  | [], _ => []
  | is :: r, s => (mkRecs is s).map txtR ++ lgT r (s + (4 * is.length + 1 : Nat))
def lgOk : List (List Img) → Int → Prop
  | [], _ => True
  | is :: r, s => MkOk is s ∧ lgOk r (s + (4 * is.length + 1 : Nat))
def lgN : List (List Img) → Nat
  | [] => 0
  | is :: r => 4 * is.length + 1 + lgN r
theorem lgT_len : ∀ (tss : List (List Img)) (s : Int), lgOk tss s → (lgT tss s).length = lgN tss
  | [], _, _ => rfl
  | is :: r, s, h => by rw [lgT, List.length_append, List.length_map, mkRecs_len h.1, lgT_len r _ h.2, lgN]
theorem lgN_snoc (is : List Img) : ∀ tss, lgN (tss ++ [is]) = lgN tss + (4 * is.length + 1)
  | [] => by simp [lgN]
  | x :: r => by rw [List.cons_append, lgN, lgN_snoc is r, lgN]; omega
theorem lgT_snoc (is : List Img) : ∀ (tss : List (List Img)) (s : Int), lgT (tss ++ [is]) s = lgT tss s ++ (mkRecs is (s + lgN tss)).map txtR
  | [], s => by simp [lgT, lgN]
  | x :: r, s => by
    rw [List.cons_append, lgT, lgT_snoc is r, lgT, lgN, List.append_assoc]
    congr 3
    congr 1
    omega
theorem lgOk_snoc {is : List Img} : ∀ {tss : List (List Img)} {s : Int}, lgOk tss s → MkOk is (s + lgN tss) → lgOk (tss ++ [is]) s
  | [], s, _, h => ⟨by simpa [lgN] using h, trivial⟩
  | x :: r, s, h, h2 => ⟨h.1, lgOk_snoc h.2 (by rw [lgN] at h2; rw [show s + ((4 * x.length + 1 : Nat) : Int) + (lgN r : Int) = s + ((4 * x.length + 1 + lgN r : Nat) : Int) by omega]; exact h2)⟩
theorem scan_all {seq : Int} {ts : List ByteArray} : ∀ (tss : List (List Img)) (dn : List (List Img)) (i : Nat) (fl : Bool) (s : Int), lgOk tss s → s = seq + i → ∃ fl', scanGo seq ⟨dn, i, [], 0, fl⟩ i (lgT tss s ++ ts) = scanGo seq ⟨dn ++ tss, i + lgN tss, [], 0, fl'⟩ (i + lgN tss) ts
  | [], dn, i, fl, s, _, _ => ⟨fl, by simp [lgT, lgN]⟩
  | is :: r, dn, i, fl, s, h, hs => by
    obtain ⟨f1, e1⟩ := scanGo_txn (S := ⟨dn, i, [], 0, fl⟩) (ts := lgT r (s + (4 * is.length + 1 : Nat)) ++ ts) rfl rfl hs h.1
    obtain ⟨f2, e2⟩ := scan_all (seq := seq) (ts := ts) r (dn ++ [is]) (i + 4 * is.length + 1) f1 (s + (4 * is.length + 1 : Nat)) h.2 (by omega)
    refine ⟨f2, ?_⟩
    rw [lgT, List.append_assoc, e1, e2, List.append_assoc, lgN, show i + 4 * is.length + 1 + lgN r = i + (4 * is.length + 1 + lgN r) by omega]
    rfl
theorem scan_stop {seq : Int} {t : ByteArray} {rest : List ByteArray} : ∀ (xs : List ByteArray) (S : Sc) (i : Nat), ¬ ((getR t).2.2.2.2 = 0 ∧ (getR t).1 = seq + ((i + xs.length : Nat) : Int)) → scanGo seq S i (xs ++ t :: rest) = scanGo seq S i xs
  | [], S, i, h => by
    show (if (getR t).2.2.2.2 = 0 ∧ (getR t).1 = seq + i then _ else S) = scanGo seq S i []
    rw [if_neg (by simpa using h), scanGo]
  | x :: xs, S, i, h => by
    rw [List.cons_append, scanGo, scanGo]
    split
    · cases takeS S ((getR x).1, (getR x).2.1, (getR x).2.2.1, (getR x).2.2.2.1) i with
      | none => rfl
      | some S' => exact scan_stop xs S' (i + 1) (by rw [List.length_cons] at h; rw [show i + 1 + xs.length = i + (xs.length + 1) by omega]; exact h)
    · rfl
def lR (V : Nat → ByteArray) (i : Nat) : Int × Int × Int × ByteArray × Int := getR (getP (V (2 + i)))
theorem logL_get (V : Nat → ByteArray) {i : Nat} (h : i < 200) : (logL V)[i]'(by rw [logL_len]; exact h) = getP (V (2 + i)) := by simp [logL]
/-- what is scanned of a log: whole transactions, quiet records behind them, a sector that is none of it -/
theorem scan_log {V : Nat → ByteArray} {hs : Int} {tss : List (List Img)} {xs : List ByteArray} (hs1 : 1 ≤ hs ∧ hs ≤ 2147483647) (hok : lgOk tss hs) (hl : (logL V).take (lgN tss + xs.length) = lgT tss hs ++ xs) (hle : lgN tss + xs.length ≤ 200)
    (hq : ∀ t ∈ xs, (getR t).2.2.1 ≠ 4) (hst : lgN tss + xs.length < 200 → ¬ ((lR V (lgN tss + xs.length)).2.2.2.2 = 0 ∧ (lR V (lgN tss + xs.length)).1 = hs + ((lgN tss + xs.length : Nat) : Int))) :
    scTxns (logL V) hs = tss ∧ scUsed (logL V) hs = lgN tss ∧ scNext (logL V) hs = hs + lgN tss := by
  have hsc : scOk (logL V) hs := ⟨hs1, by rw [logL_len]; omega⟩
  have key : (scRes (logL V) hs).done = tss ∧ (scRes (logL V) hs).used = lgN tss := by
    have hsplit : logL V = lgT tss hs ++ (xs ++ (logL V).drop (lgN tss + xs.length)) := by
      rw [← List.append_assoc, ← hl, List.take_append_drop]
    obtain ⟨fl, e⟩ := scan_all (seq := hs) (ts := xs ++ (logL V).drop (lgN tss + xs.length)) tss [] 0 false hs hok (by omega)
    have e0 : scRes (logL V) hs = scanGo hs ⟨tss, lgN tss, [], 0, fl⟩ (lgN tss) (xs ++ (logL V).drop (lgN tss + xs.length)) := by
      rw [scRes]; conv => lhs; rw [hsplit]
      rw [sc0, e]; simp
    have e1 : scRes (logL V) hs = scanGo hs ⟨tss, lgN tss, [], 0, fl⟩ (lgN tss) xs := by
      rw [e0]
      by_cases hlt : lgN tss + xs.length < 200
      · rw [List.drop_eq_getElem_cons (by rw [logL_len]; exact hlt)]
        refine scan_stop _ _ _ ?_
        rw [logL_get V hlt]; exact hst hlt
      · rw [List.drop_of_length_le (by rw [logL_len]; omega), List.append_nil]
    rw [e1]; exact scanGo_quiet xs _ _ hq
  exact ⟨by rw [scTxns, if_pos hsc, key.1], by rw [scUsed, if_pos hsc, key.2], by rw [scNext, if_pos hsc, key.2]⟩
/-! ### heads -/
theorem hdOf_cases (s : ByteArray) : (∃ m t, hdOf s = (m, t, 0)) ∨ hdOf s = (0, 0, 500) := by
  rcases getH_two (getP s) with ⟨h, _⟩ | h
  · exact .inl ⟨_, _, Prod.ext rfl (Prod.ext rfl h)⟩
  · exact .inr h
theorem best_head {V : Nat → ByteArray} {n s : Int} (hm : hdMay n s) (hh : V (n % 2).toNat = putP (headOf n s)) (ho : ∀ m t, hdOf (V ((n + 1) % 2).toNat) = (m, t, 0) → m < n) : bestH (V 0) (V 1) = (n, s, 0) := by
  have h1 : hdOf (V (n % 2).toNat) = (n, s, 0) := by rw [hh, hdOf_put hm]
  have hb : ∀ x : HdX, ((∃ m t, x = (m, t, 0)) ∨ x = (0, 0, 500)) → (∀ m t, x = (m, t, 0) → m < n) → bestX (n, s, 0) x = (n, s, 0) ∧ bestX x (n, s, 0) = (n, s, 0) := fun x hx ho => by
    rcases hx with ⟨m, t, rfl⟩ | rfl
    · have := ho m t rfl
      exact ⟨bestX_hi (by omega), bestX_lo this⟩
    · exact ⟨bestX_l, bestX_r⟩
  have h2 := hb _ (hdOf_cases (V ((n + 1) % 2).toNat)) ho
  rcases (show n % 2 = 0 ∨ n % 2 = 1 by omega) with e | e
  · have e' : (n + 1) % 2 = 1 := by omega
    rw [e] at h1; rw [e'] at h2
    show bestX (hdOf (V 0)) (hdOf (V 1)) = _
    rw [show hdOf (V 0) = (n, s, 0) from h1]; exact h2.1
  · have e' : (n + 1) % 2 = 0 := by omega
    rw [e] at h1; rw [e'] at h2
    show bestX (hdOf (V 0)) (hdOf (V 1)) = _
    rw [show hdOf (V 1) = (n, s, 0) from h1]; exact h2.2
/-! ### sound stores -/
def hPut (pg j : Nat) (t : ByteArray) : ByteArray := putP (txtR (1, (pg : Int), (j : Int), partD t j))
structure Found (V : Nat → ByteArray) (p : Pg) : Prop where
  may : pgMay p = true
  head : V (p.hn % 2).toNat = putP (headOf p.hn p.hs)
  other : ∀ m t, hdOf (V ((p.hn + 1) % 2).toNat) = (m, t, 0) → m < p.hn
  seqs : ∀ i, i < 200 → (lR V i).2.2.2.2 = 0 → (lR V i).1 < p.next + 200
  clean : ∀ i, i < 394 → V i = zer 64 ∨ ∃ t, t.size = 32 ∧ V i = putP t
structure Sound (V : Nat → ByteArray) (p : Pg) (tss : List (List Img)) : Prop extends Found V p where
  lok : lgOk tss p.hs
  log : (logL V).take (lgN tss) = lgT tss p.hs
  used : p.used = lgN tss
  next : p.next = p.hs + lgN tss
  tail : ∀ i, lgN tss ≤ i → i < 200 → (lR V i).2.2.2.2 = 0 → (lR V i).1 ≠ p.hs + (i : Int)
  home : ∀ pg : Nat, pg < 48 → (∀ is ∈ tss, ∀ x ∈ is, x.1 ≠ (pg : Int)) → ∀ j, j < 4 → V (202 + 4 * pg + j) = hPut pg j (txt p pg) ∨ (txt p pg = ⟨#[]⟩ ∧ ¬ hOk V pg j)
  text : p.text = applyT (homes V) tss
theorem pgMay_of {p : Pg} (h : pgMay p = true) : hdMay p.hn p.hs ∧ (1 ≤ p.next ∧ p.next ≤ 2147483647) ∧ (0 ≤ p.used ∧ p.used ≤ 200) ∧ p.text.length = 48 ∧ (∀ s ∈ p.text, s.size ≤ 96) := by
  simp only [pgMay, Bool.and_eq_true, decide_eq_true_eq, List.all_eq_true] at h
  obtain ⟨⟨⟨⟨⟨h1, h2⟩, h3⟩, h4⟩, h5⟩, h6⟩ := h
  exact ⟨h1, h2, ⟨h3, h4⟩, h5, h6⟩
theorem open_of {V : Nat → ByteArray} {n s : Int} {tss : List (List Img)} {N : Nat} (hb : bestH (V 0) (V 1) = (n, s, 0)) (hs : scTxns (logL V) s = tss ∧ scUsed (logL V) s = N ∧ scNext (logL V) s = s + N) : openV V = (⟨n, s, s + N, N, applyT (homes V) tss⟩, 0) := by
  rw [openV, hb, if_pos rfl, openH, hs.1, hs.2.1, hs.2.2]
theorem Sound.opened {V : Nat → ByteArray} {p : Pg} {tss : List (List Img)} (h : Sound V p tss) : openV V = (p, 0) := by
  obtain ⟨m1, m2, m3, m4, m5⟩ := pgMay_of h.may
  have hu := h.used
  have := open_of (best_head m1 h.head h.other) (scan_log (xs := []) m1.2 h.lok (by simpa using h.log) (by simp; omega) (fun t ht => by cases ht) (fun hlt hh => h.tail (lgN tss) (Nat.le_refl _) (by simpa using hlt) (by simpa using hh.1) (by simpa using hh.2)))
  rw [this, ← h.next, ← hu, ← h.text]
/-! ### pages behind transactions -/
theorem applyI_get {is : List Img} : ∀ {b : List ByteArray} {pg : Nat}, (∀ x ∈ is, x.1.toNat ≠ pg) → (applyI b is)[pg]? = b[pg]? := by
  induction is with
  | nil => intro b pg _; rfl
  | cons x is ih =>
    intro b pg h
    rw [applyI, List.foldl_cons]
    show (applyI (b.set x.1.toNat x.2) is)[pg]? = _
    rw [ih (fun y hy => h y (by simp [hy])), List.getElem?_set_ne (h x (by simp))]
theorem applyI_congr {is : List Img} : ∀ {a b : List ByteArray} {pg : Nat}, a.length = b.length → ((∀ x ∈ is, x.1.toNat ≠ pg) → a[pg]? = b[pg]?) → (applyI a is)[pg]? = (applyI b is)[pg]? := by
  induction is with
  | nil => intro a b pg _ h; exact h (fun x hx => by cases hx)
  | cons x is ih =>
    intro a b pg hl h
    rw [applyI, applyI, List.foldl_cons, List.foldl_cons]
    refine ih (by simp [hl]) fun hx => ?_
    by_cases e : x.1.toNat = pg
    · subst e
      rcases Nat.lt_or_ge x.1.toNat a.length with hlt | hge
      · rw [List.getElem?_set_self hlt, List.getElem?_set_self (by omega)]
      · rw [List.getElem?_eq_none (by simp; omega), List.getElem?_eq_none (by simp; omega)]
    · rw [List.getElem?_set_ne e, List.getElem?_set_ne e]
      exact h fun y hy => by
        rcases List.mem_cons.1 hy with rfl | hy
        · exact e
        · exact hx y hy
theorem applyT_congr {tss : List (List Img)} : ∀ {a b : List ByteArray} {pg : Nat}, a.length = b.length → ((∀ is ∈ tss, ∀ x ∈ is, x.1.toNat ≠ pg) → a[pg]? = b[pg]?) → (applyT a tss)[pg]? = (applyT b tss)[pg]? := by
  induction tss with
  | nil => intro a b pg _ h; exact h (fun x hx => by cases hx)
  | cons is tss ih =>
    intro a b pg hl h
    rw [applyT, applyT, List.foldl_cons, List.foldl_cons]
    refine ih (by rw [applyI_len, applyI_len, hl]) fun hx => applyI_congr hl fun hy => h fun js hjs => ?_
    rcases List.mem_cons.1 hjs with rfl | hjs
    · exact hy
    · exact hx js hjs
theorem applyT_eq {tss : List (List Img)} {a b : List ByteArray} (hl : a.length = b.length) (h : ∀ pg, pg < a.length → (∀ is ∈ tss, ∀ x ∈ is, x.1.toNat ≠ pg) → a[pg]? = b[pg]?) : applyT a tss = applyT b tss := by
  refine List.ext_getElem? fun pg => applyT_congr hl fun hu => ?_
  rcases Nat.lt_or_ge pg a.length with hlt | hge
  · exact h pg hlt hu
  · rw [List.getElem?_eq_none hge, List.getElem?_eq_none (by omega)]
theorem applyT_get {tss : List (List Img)} : ∀ {b : List ByteArray} {pg : Nat}, (∀ is ∈ tss, ∀ x ∈ is, x.1.toNat ≠ pg) → (applyT b tss)[pg]? = b[pg]? := by
  induction tss with
  | nil => intro b pg _; rfl
  | cons is tss ih =>
    intro b pg h
    rw [applyT, List.foldl_cons]
    exact (ih (fun js hjs => h js (by simp [hjs]))).trans (applyI_get (h is (by simp)))
theorem applyT_snoc (b : List ByteArray) (tss : List (List Img)) (is : List Img) : applyT b (tss ++ [is]) = applyI (applyT b tss) is := by
  rw [applyT, List.foldl_append]; rfl
theorem applyT_idem {tss : List (List Img)} {b : List ByteArray} : applyT (applyT b tss) tss = applyT b tss :=
  applyT_eq (applyT_len _ _) fun pg _ hu => applyT_get hu
end Go.AM
end TextR6Tj
section TextR6Tk
/- Plain laws: steps lead from a sound store to a sound store. -/
namespace Go.AM
open Go.Proofs
set_option linter.unusedVariables false
set_option linter.unusedSimpArgs false
set_option maxRecDepth 100000
attribute [-simp] ByteArray.size_eq_zero_iff
structure Store (d : Dk) (p : Pg) (tss : List (List Img)) : Prop where
  ok : dOk d = true
  flat : d.2 = []
  sound : Sound (vw d) p tss
theorem phase_law {d : Dk} (hd : dOk d = true) (hc : d.2 = []) {ws : List Wr} (hw : ∀ w ∈ ws, wrOk w) (ha : Apart ws) (hl : ws.length ≤ 512) :
    ∃ d', (∀ ss, done8 d (ws.map wS ++ flSt :: ss) = done8 d' ss ∧ done7 d (ws.map wS ++ flSt :: ss) = done7 d' ss) ∧ dOk d' = true ∧ d'.2 = [] ∧ Written (vw d) ws (vw d') := by
  obtain ⟨S, C⟩ := d
  simp only at hc
  subst hc
  have hok : dOk (S, ws.map wI) = true := by simpa using (done8_writes ws (S, []) [] hd hw (by simpa using hl)).2.2
  refine ⟨(applyW S (ws.map wI), []), fun ss => ?_, (doO_flush hok).2, rfl, ?_⟩
  · obtain ⟨e1, e2, e3⟩ := done8_writes ws (S, []) (flSt :: ss) hd hw (by simpa using hl)
    simp only [List.nil_append] at e1 e2 e3
    obtain ⟨f1, f2, _⟩ := done8_flush e3 ss
    exact ⟨by rw [e1, f1], by rw [e2, f2]⟩
  · have h := vw_writes (S := S) (C := []) ha
    simp only [List.nil_append] at h
    exact ⟨fun w hw' => by rw [vw_flush hok]; exact h.put w hw', fun i hi hne => by rw [vw_flush hok]; exact h.old i hi hne⟩
theorem hRec_congr {V V' : Nat → ByteArray} {pg j : Nat} (h : V' (202 + 4 * pg + j) = V (202 + 4 * pg + j)) : hRec V' pg j = hRec V pg j := by unfold hRec; rw [h]
theorem hOk_congr {V V' : Nat → ByteArray} {pg j : Nat} (h : V' (202 + 4 * pg + j) = V (202 + 4 * pg + j)) : hOk V' pg j ↔ hOk V pg j := by unfold hOk; rw [hRec_congr h]
theorem homeT_congr {V V' : Nat → ByteArray} {pg : Nat} (h : ∀ j, j < 4 → V' (202 + 4 * pg + j) = V (202 + 4 * pg + j)) : homeT V' pg = homeT V pg := by
  have e : (∀ j, j < 4 → hOk V' pg j) ↔ ∀ j, j < 4 → hOk V pg j := ⟨fun g j hj => (hOk_congr (h j hj)).1 (g j hj), fun g j hj => (hOk_congr (h j hj)).2 (g j hj)⟩
  have a : hAcc V' pg 4 = hAcc V pg 4 := by simp only [hAcc, hRec_congr (h 0 (by omega)), hRec_congr (h 1 (by omega)), hRec_congr (h 2 (by omega)), hRec_congr (h 3 (by omega))]
  unfold homeT
  rw [a]
  by_cases g : ∀ j, j < 4 → hOk V pg j
  · rw [if_pos g, if_pos (e.2 g)]
  · rw [if_neg g, if_neg (fun x => g (e.1 x))]
theorem homes_congr {V V' : Nat → ByteArray} (h : ∀ i, 202 ≤ i → i < 394 → V' i = V i) : homes V' = homes V := by
  unfold homes
  refine List.map_congr_left fun pg hpg => homeT_congr fun j hj => ?_
  rw [List.mem_range] at hpg
  exact h _ (by omega) (by omega)
theorem lR_congr {V V' : Nat → ByteArray} {i : Nat} (h : V' (2 + i) = V (2 + i)) : lR V' i = lR V i := by unfold lR; rw [h]
/-! records -/
theorem recsAll_law : ∀ (xs : List Img) (s : Int) (l : Int), 1 ≤ s → s + 4 * xs.length ≤ 2147483647 → imOk l xs = true → ∀ (i : Nat) (h : i < (recsAll xs s).length), RMay (recsAll xs s)[i].1 (recsAll xs s)[i].2.1 (recsAll xs s)[i].2.2.1 (recsAll xs s)[i].2.2.2 ∧ (recsAll xs s)[i].1 = s + i
  | [], s, l, _, _, _, i, h => by simp [recsAll] at h
  | x :: xs, s, l, h1, h2, hk, i, h => by
    have hk2 := hk
    simp [imOk] at hk2
    have e : recsAll (x :: xs) s = recsOf x s ++ recsAll xs (s + 4) := rfl
    simp only [List.length_cons] at h2
    by_cases hlt : i < 4
    · have : (recsAll (x :: xs) s)[i] = recAtI x s i := by
        simp only [e]
        rw [List.getElem_append_left (by rw [recsOf_len]; exact hlt)]
        simp [recsOf]
      rw [this]
      refine ⟨⟨⟨?_, ?_⟩, .inr ⟨?_, ?_, hk2.1.2.1.1, hk2.1.2.1.2, partD_le _ _⟩⟩, rfl⟩
      · show 1 ≤ s + (i : Int); omega
      · show s + (i : Int) ≤ 2147483647; omega
      · show (0 : Int) ≤ (i : Int); omega
      · show (i : Int) < 4; omega
    · rw [e, List.length_append, recsOf_len] at h
      have : (recsAll (x :: xs) s)[i]'(by rw [e, List.length_append, recsOf_len]; exact h) = (recsAll xs (s + 4))[i - 4]'(by omega) := by
        simp only [e]
        rw [List.getElem_append_right (by rw [recsOf_len]; omega)]
        simp [recsOf_len]
      rw [this]
      obtain ⟨g1, g2⟩ := recsAll_law xs (s + 4) x.1 (by omega) (by omega) hk2.2 (i - 4) (by omega)
      exact ⟨g1, by rw [g2]; omega⟩
theorem recN_law {is : List Img} {s : Int} (hk : MkOk is s) {i : Nat} (h : i < (mkRecs is s).length) : RMay (recN (mkRecs is s) i).1 (recN (mkRecs is s) i).2.1 (recN (mkRecs is s) i).2.2.1 (recN (mkRecs is s) i).2.2.2 ∧ (recN (mkRecs is s) i).1 = s + i := by
  have hl := mkRecs_len hk
  have e : mkRecs is s = recsAll is s ++ [(s + 4 * is.length, 0, 4, ⟨#[]⟩)] := if_pos hk
  have h1 := hk.2.1; have h2 := hk.2.2
  unfold recN
  rw [List.getElem?_eq_getElem h]
  simp only [Option.getD_some]
  by_cases hlt : i < (recsAll is s).length
  · have : (mkRecs is s)[i] = (recsAll is s)[i] := by simp only [e]; rw [List.getElem_append_left hlt]
    rw [this]
    exact recsAll_law is s (-1) h1.1 h2 hk.1 i hlt
  · have hi : i = (recsAll is s).length := by rw [recsAll_len] at hlt ⊢; omega
    have : (mkRecs is s)[i] = (s + 4 * is.length, 0, 4, ⟨#[]⟩) := by
      simp only [e]
      rw [List.getElem_append_right (by omega)]
      simp [hi]
    rw [this]
    rw [recsAll_len] at hi
    refine ⟨⟨⟨?_, ?_⟩, .inl ⟨rfl, rfl, rfl⟩⟩, ?_⟩
    · show 1 ≤ s + 4 * (is.length : Int); omega
    · show s + 4 * (is.length : Int) ≤ 2147483647; omega
    · show s + 4 * (is.length : Int) = s + (i : Int); omega
theorem txtR_size {r : Rec} (h : RMay r.1 r.2.1 r.2.2.1 r.2.2.2) : (txtR r).size = 32 := by
  unfold txtR; rw [putR_yes h]; exact recOf_size _ _ _ _ (RMay_size h)
/-- the writes of a transaction's first n records -/
def logW (u : Nat) (rs : List Rec) (n : Nat) : List Wr := (List.range n).map fun i => (2 + u + i, putP (txtR (recN rs i)))
theorem recSt_logW (u : Nat) (rs : List Rec) (n : Nat) : recSt (u : Int) rs n = (logW u rs n).map wS := by
  simp only [recSt, logW, List.map_map]
  refine List.map_congr_left fun i _ => ?_
  simp only [Function.comp, wS, wrSt, Prod.mk.injEq, true_and, and_true]
  omega
theorem mem_logW {u n : Nat} {rs : List Rec} {w : Wr} : w ∈ logW u rs n ↔ ∃ i, i < n ∧ w = (2 + u + i, putP (txtR (recN rs i))) := by
  simp only [logW, List.mem_map, List.mem_range]
  exact ⟨fun ⟨i, h, e⟩ => ⟨i, h, e.symm⟩, fun ⟨i, h, e⟩ => ⟨i, h, e.symm⟩⟩
theorem logW_len (u : Nat) (rs : List Rec) (n : Nat) : (logW u rs n).length = n := by simp [logW]
theorem logW_apart (u : Nat) (rs : List Rec) (n : Nat) : Apart (logW u rs n) := by
  unfold Apart logW
  rw [List.map_map]
  refine List.Pairwise.map _ (fun a b h => ?_) (List.nodup_range (n := n))
  simp only [Function.comp]
  intro e; exact h (by omega)
theorem logW_ok {u n : Nat} {is : List Img} {s : Int} (hk : MkOk is s) (hn : n ≤ (mkRecs is s).length) (hu : u + n ≤ 200) : ∀ w ∈ logW u (mkRecs is s) n, wrOk w := fun w hw => by
  obtain ⟨i, hi, rfl⟩ := mem_logW.1 hw
  exact ⟨by simp only; omega, putP_size (txtR_size (recN_law hk (by omega)).1)⟩
theorem applyI_size {is : List Img} (h : ∀ x ∈ is, x.2.size ≤ 96) : ∀ {b : List ByteArray}, (∀ s ∈ b, s.size ≤ 96) → ∀ s ∈ applyI b is, s.size ≤ 96 := by
  induction is with
  | nil => intro b hb; exact hb
  | cons x is ih =>
    intro b hb
    rw [applyI, List.foldl_cons]
    refine ih (fun y hy => h y (by simp [hy])) fun s hs => ?_
    rcases List.mem_or_eq_of_mem_set hs with hs | rfl
    · exact hb s hs
    · exact h x (by simp)
theorem imOk_mem {is : List Img} (h : imOk (-1) is = true) : ∀ x ∈ is, iOk x := fun x hx => by
  obtain ⟨i, hi, rfl⟩ := List.getElem_of_mem hx
  exact imOk_drop is i (-1) hi h
/-- a log behind the writes of some records -/
theorem log_written {V V' : Nat → ByteArray} {u n : Nat} {is : List Img} {s : Int} (hk : MkOk is s) (hn : n ≤ (mkRecs is s).length) (hu : u + n ≤ 200) (hnew : ∀ i, i < n → V' (2 + u + i) = putP (txtR (recN (mkRecs is s) i))) (hold : ∀ i, i < u → V' (2 + i) = V (2 + i)) :
    (logL V').take (u + n) = (logL V).take u ++ ((mkRecs is s).map txtR).take n := by
  refine List.ext_getElem (by simp [logL_len]; omega) fun i h1 h2 => ?_
  have hi : i < u + n := by simp [logL_len] at h1; omega
  rw [List.getElem_take, logL_get V' (by omega)]
  by_cases hlt : i < u
  · rw [List.getElem_append_left (by simp [logL_len]; omega), List.getElem_take, logL_get V (by omega), hold i hlt]
  · have hl : ((logL V).take u).length = u := by simp [logL_len]; omega
    rw [List.getElem_append_right (by omega)]
    simp only [hl, List.getElem_take, List.getElem_map]
    have hr := recN_law hk (i := i - u) (by omega)
    have e : recN (mkRecs is s) (i - u) = (mkRecs is s)[i - u]'(by omega) := by simp [recN, List.getElem?_eq_getElem (show i - u < (mkRecs is s).length by omega)]
    rw [show 2 + i = 2 + u + (i - u) by omega, hnew _ (by omega), (getP_putP (txtR_size hr.1)).1, e]
theorem commit_sound {V V' : Nat → ByteArray} {p : Pg} {tss : List (List Img)} {is : List Img} (h : Sound V p tss) (hr : p.next ≤ 2147483000) (hi : imOk (-1) is = true) (hfit : p.used + 4 * is.length + 1 ≤ 200)
    (hnew : ∀ i, i < (mkRecs is p.next).length → V' (2 + lgN tss + i) = putP (txtR (recN (mkRecs is p.next) i))) (hold : ∀ i, i < 394 → (i < 2 + lgN tss ∨ 2 + lgN tss + (mkRecs is p.next).length ≤ i) → V' i = V i) :
    Sound V' ⟨p.hn, p.hs, p.next + (mkRecs is p.next).length, p.used + (mkRecs is p.next).length, applyI p.text is⟩ (tss ++ [is]) := by
  obtain ⟨m1, m2, m3, m4, m5⟩ := pgMay_of h.may
  have h48 := imOk_48 hi
  have hk : MkOk is p.next := ⟨hi, by omega, by omega⟩
  have hl := mkRecs_len hk
  have hu := h.used
  have him := imOk_mem hi
  have hnew2 : ∀ i, i < (mkRecs is p.next).length → getR (getP (V' (2 + lgN tss + i))) = ((recN (mkRecs is p.next) i).1, (recN (mkRecs is p.next) i).2.1, (recN (mkRecs is p.next) i).2.2.1, (recN (mkRecs is p.next) i).2.2.2, 0) := fun i hi => by
    rw [hnew i hi, (getP_putP (txtR_size (recN_law hk hi).1)).1, getR_txt (recN_law hk hi).1]
  have hhn : (p.hn % 2).toNat < 2 := by omega
  have hhn2 : ((p.hn + 1) % 2).toNat < 2 := by omega
  refine { may := ?_, head := ?_, other := ?_, seqs := ?_, clean := ?_, lok := ?_, log := ?_, used := ?_, next := ?_, tail := ?_, home := ?_, text := ?_ }
  · simp only [pgMay, Bool.and_eq_true, decide_eq_true_eq, List.all_eq_true]
    exact ⟨⟨⟨⟨⟨m1, by omega, by omega⟩, by omega⟩, by omega⟩, by rw [applyI_len]; exact m4⟩, applyI_size (fun x hx => (him x hx).2) m5⟩
  · rw [hold _ (by omega) (by omega)]; exact h.head
  · rw [hold _ (by omega) (by omega)]; exact h.other
  · intro i hi he
    by_cases hin : lgN tss ≤ i ∧ i < lgN tss + (mkRecs is p.next).length
    · have e := hnew2 (i - lgN tss) (by omega)
      rw [show 2 + lgN tss + (i - lgN tss) = 2 + i by omega] at e
      have e2 := (recN_law hk (i := i - lgN tss) (by omega)).2
      show (getR (getP (V' (2 + i)))).1 < _
      rw [e]
      simp only
      rw [e2]; omega
    · rw [lR_congr (hold (2 + i) (by omega) (by omega))] at he ⊢
      have := h.seqs i hi he
      simp only; omega
  · intro i hi
    by_cases hin : 2 + lgN tss ≤ i ∧ i < 2 + lgN tss + (mkRecs is p.next).length
    · refine .inr ⟨txtR (recN (mkRecs is p.next) (i - (2 + lgN tss))), txtR_size (recN_law hk (by omega)).1, ?_⟩
      have := hnew (i - (2 + lgN tss)) (by omega)
      rw [show 2 + lgN tss + (i - (2 + lgN tss)) = i by omega] at this
      exact this
    · rw [hold i hi (by omega)]; exact h.clean i hi
  · exact lgOk_snoc h.lok (by rw [← h.next]; exact hk)
  · rw [lgN_snoc, lgT_snoc, ← hl]
    show _ = lgT tss p.hs ++ (mkRecs is (p.hs + lgN tss)).map txtR
    rw [← h.next, log_written hk (Nat.le_refl _) (by omega) hnew (fun i hi => hold (2 + i) (by omega) (by omega)), h.log, List.take_of_length_le (by simp)]
  · simp only [lgN_snoc]; omega
  · have := h.next
    simp only [lgN_snoc]; omega
  · intro i hi1 hi2 he
    rw [lgN_snoc] at hi1
    rw [lR_congr (hold (2 + i) (by omega) (by omega))] at he ⊢
    exact h.tail i (by omega) hi2 he
  · intro pg hpg hun j hj
    have e := hold (202 + 4 * pg + j) (by omega) (by omega)
    have ht : txt ⟨p.hn, p.hs, p.next + (mkRecs is p.next).length, p.used + (mkRecs is p.next).length, applyI p.text is⟩ pg = txt p pg := by
      unfold txt
      simp only
      rw [applyI_get fun x hx e => hun is (by simp) x hx (by have := (him x hx).1.1; omega)]
    rw [e, ht, hOk_congr e]
    exact h.home pg hpg (fun js hjs => hun js (by simp [hjs])) j hj
  · rw [applyT_snoc, homes_congr (fun i h1 h2 => hold i h2 (by omega)), ← h.text]
end Go.AM
end TextR6Tk
section TextR6Tl
/- Plain laws: a fresh beginning, a new store, a transaction. -/
namespace Go.AM
open Go.Proofs
set_option linter.unusedVariables false
set_option linter.unusedSimpArgs false
set_option maxRecDepth 100000
attribute [-simp] ByteArray.size_eq_zero_iff
/-- what steps lead to, by both ways of doing them -/
def Leads (d : Dk) (ss : List Stp) (d' : Dk) : Prop := ∀ ts, done8 d (ss ++ ts) = done8 d' ts ∧ done7 d (ss ++ ts) = done7 d' ts
theorem Leads.trans {a b c : Dk} {ss ts : List Stp} (h : Leads a ss b) (k : Leads b ts c) : Leads a (ss ++ ts) c := fun us => by
  rw [List.append_assoc]
  exact ⟨(h _).1.trans (k _).1, (h _).2.trans (k _).2⟩
theorem Leads.nil (a : Dk) : Leads a [] a := fun us => ⟨rfl, rfl⟩
theorem Leads.done {a b : Dk} {ss : List Stp} (h : Leads a ss b) : done8 a ss = (b, true) ∧ done7 a ss = b := by
  have := h []
  rw [List.append_nil] at this
  exact this
theorem phase_leads {d : Dk} (hd : dOk d = true) (hc : d.2 = []) {ws : List Wr} (hw : ∀ w ∈ ws, wrOk w) (ha : Apart ws) (hl : ws.length ≤ 512) :
    ∃ d', Leads d (ws.map wS ++ [flSt]) d' ∧ dOk d' = true ∧ d'.2 = [] ∧ Written (vw d) ws (vw d') := by
  obtain ⟨d', h1, h2⟩ := phase_law hd hc hw ha hl
  exact ⟨d', fun ts => by simpa using h1 ts, h2⟩
/-! a transaction -/
theorem commit_store {d : Dk} {p : Pg} {tss : List (List Img)} {is : List Img} (h : Store d p tss) (hr : p.next ≤ 2147483000) (hi : imOk (-1) is = true) (hfit : p.used + 4 * is.length + 1 ≤ 200) :
    ∃ d', Leads d (recSt p.used (mkRecs is p.next) (mkRecs is p.next).length ++ [flSt]) d' ∧ Store d' ⟨p.hn, p.hs, p.next + (mkRecs is p.next).length, p.used + (mkRecs is p.next).length, applyI p.text is⟩ (tss ++ [is]) := by
  obtain ⟨m1, m2, m3, m4, m5⟩ := pgMay_of h.sound.may
  have h48 := imOk_48 hi
  have hk : MkOk is p.next := ⟨hi, by omega, by omega⟩
  have hl := mkRecs_len hk
  have hu := h.sound.used
  obtain ⟨d', e1, e2, e3, e4⟩ := phase_leads h.ok h.flat (logW_ok (u := lgN tss) hk (Nat.le_refl _) (by omega)) (logW_apart _ _ _) (by rw [logW_len]; omega)
  refine ⟨d', by rw [hu, recSt_logW]; exact e1, e2, e3, commit_sound h.sound hr hi hfit (fun i hi => ?_) fun i hi hne => ?_⟩
  · exact e4.put (2 + lgN tss + i, putP (txtR (recN (mkRecs is p.next) i))) (mem_logW.2 ⟨i, hi, rfl⟩)
  · refine e4.old i hi fun w hw => ?_
    obtain ⟨j, hj, rfl⟩ := mem_logW.1 hw
    simp only; omega
/-! a new store -/
theorem zer_pair : getP (zer 64) = ⟨#[]⟩ := by kernel_rfl
theorem getR_nil : getR ⟨#[]⟩ = (0, 0, 0, ⟨#[]⟩, 300) := by kernel_rfl
theorem newD_view (i : Nat) (h : i < 394) : vw newD i = zer 64 := by
  show vw (List.replicate nSec (zer 64), []) i = _
  rw [vw_nil, sg, List.getElem?_replicate, nSec_eq, if_pos h]; rfl
theorem hdMay01 : hdMay 0 1 := by decide
theorem format_store : ∃ d, Leads newD formS d ∧ Store d pgB [] := by
  obtain ⟨d', e1, e2, e3, e4⟩ := phase_leads (ws := [((0 : Nat), putP (headOf 0 1))]) newD_ok rfl (fun w hw => by rw [List.mem_singleton.1 hw]; exact ⟨by decide, putP_size (headOf_size _ _)⟩) (by simp [Apart]) (by simp)
  have h0 : vw d' 0 = putP (headOf 0 1) := e4.put (0, putP (headOf 0 1)) (by simp)
  have hz : ∀ i, 0 < i → i < 394 → vw d' i = zer 64 := fun i h1 h2 => by
    rw [e4.old i h2 (fun w hw => by rw [List.mem_singleton.1 hw]; simp only; omega), newD_view i h2]
  have hform : formS = [((0 : Nat), putP (headOf 0 1))].map wS ++ [flSt] := by
    have : putH 0 1 = headOf 0 1 := if_pos hdMay01
    simp [formS, hdSt, wrSt, wS, this]
  have hnone : ∀ i, 0 < i → i < 394 → getR (getP (vw d' i)) = (0, 0, 0, ⟨#[]⟩, 300) := fun i h1 h2 => by rw [hz i h1 h2, zer_pair, getR_nil]
  refine ⟨d', by rw [hform]; exact e1, e2, e3, { may := by kernel_rfl, head := h0, other := ?_, seqs := ?_, clean := ?_, lok := trivial, log := by simp [lgN, lgT], used := rfl, next := rfl, tail := ?_, home := ?_, text := ?_ }⟩
  · intro m t he
    have : ((pgB.hn + 1) % 2).toNat = 1 := by decide
    rw [this, hz 1 (by omega) (by omega), hdOf_none zer_pair] at he
    cases he
  · intro i hi he
    rw [lR, hnone _ (by omega) (by omega)] at he; cases he
  · intro i hi
    rcases Nat.eq_zero_or_pos i with rfl | hp
    · exact .inr ⟨_, headOf_size 0 1, h0⟩
    · exact .inl (hz i hp hi)
  · intro i _ hi he
    rw [lR, hnone _ (by omega) (by omega)] at he; cases he
  · intro pg hpg _ j hj
    refine .inr ⟨?_, fun ho => ?_⟩
    · have e : pgB.text[pg]? = some ⟨#[]⟩ := by rw [show pgB.text = List.replicate 48 _ from rfl, List.getElem?_replicate, if_pos hpg]
      rw [txt, e]; rfl
    · have := ho.1
      rw [hRec, hnone _ (by omega) (by omega)] at this; cases this
  · show List.replicate 48 (⟨#[]⟩ : ByteArray) = homes (vw d')
    refine List.ext_getElem (by simp [homes]) fun i h1 h2 => ?_
    have hi : i < 48 := by simpa using h1
    rw [List.getElem_replicate]
    simp only [homes, List.getElem_map, List.getElem_range]
    rw [homeT, if_neg fun hh => ?_]
    have := (hh 0 (by omega)).1
    rw [hRec, hnone _ (by omega) (by omega)] at this; cases this
/-! a fresh beginning -/
def hW (p : Pg) : List Wr := (List.range 48).flatMap fun pg => (List.range 4).map fun j => (202 + 4 * pg + j, hPut pg j (txt p pg))
theorem freshHome_hW (p : Pg) : freshHome p 48 = (hW p).map wS := by
  unfold freshHome hW
  rw [List.map_flatMap]
  congr 1
theorem mem_hW {p : Pg} {w : Wr} : w ∈ hW p ↔ ∃ pg j, pg < 48 ∧ j < 4 ∧ w = (202 + 4 * pg + j, hPut pg j (txt p pg)) := by
  simp only [hW, List.mem_flatMap, List.mem_map, List.mem_range]
  exact ⟨fun ⟨pg, h1, j, h2, e⟩ => ⟨pg, j, h1, h2, e.symm⟩, fun ⟨pg, j, h1, h2, e⟩ => ⟨pg, h1, j, h2, e.symm⟩⟩
theorem hW_len (p : Pg) : (hW p).length = 192 := by
  have := congrArg List.length (freshHome_hW p)
  rw [freshHome_len, List.length_map] at this
  exact this.symm
theorem hW_fst (p : Pg) : (hW p).map Prod.fst = (List.range 48).flatMap fun pg => (List.range 4).map fun j => 202 + 4 * pg + j := by
  unfold hW
  rw [List.map_flatMap]
  congr 1
theorem hW_apart (p : Pg) : Apart (hW p) := by
  unfold Apart; rw [hW_fst]; decide
theorem rm_home {pg j : Nat} (hp : pg < 48) (hj : j < 4) (t : ByteArray) : RMay 1 (pg : Int) (j : Int) (partD t j) := ⟨⟨by omega, by omega⟩, .inr ⟨by omega, by omega, by omega, by omega, partD_le _ _⟩⟩
theorem hPut_size {pg j : Nat} (hp : pg < 48) (hj : j < 4) (t : ByteArray) : (txtR (1, (pg : Int), (j : Int), partD t j)).size = 32 := txtR_size (rm_home hp hj t)
theorem hW_ok (p : Pg) : ∀ w ∈ hW p, wrOk w := fun w hw => by
  obtain ⟨pg, j, h1, h2, rfl⟩ := mem_hW.1 hw
  exact ⟨by simp only; omega, putP_size (hPut_size h1 h2 _)⟩
/-- what stands at home once it was written -/
theorem home_rec {V : Nat → ByteArray} {pg j : Nat} {t : ByteArray} (hp : pg < 48) (hj : j < 4) (h : V (202 + 4 * pg + j) = hPut pg j t) : hRec V pg j = (1, (pg : Int), (j : Int), partD t j, 0) := by
  rw [hRec, h, hPut, (getP_putP (hPut_size hp hj t)).1, getR_txt (rm_home hp hj t)]
theorem home_text {V : Nat → ByteArray} {pg : Nat} {t : ByteArray} (hp : pg < 48) (ht : t.size ≤ 96) (h : ∀ j, j < 4 → V (202 + 4 * pg + j) = hPut pg j t) : homeT V pg = t := by
  rw [homeT, if_pos fun j hj => by rw [hOk, home_rec hp hj (h j hj)]; exact ⟨rfl, rfl, rfl, rfl⟩]
  simp only [hAcc, home_rec hp (show 0 < 4 by omega) (h 0 (by omega)), home_rec hp (show 1 < 4 by omega) (h 1 (by omega)), home_rec hp (show 2 < 4 by omega) (h 2 (by omega)), home_rec hp (show 3 < 4 by omega) (h 3 (by omega))]
  exact partD_join ht
theorem txt_get {p : Pg} (hl : p.text.length = 48) {pg : Nat} (hp : pg < 48) : p.text[pg]? = some (txt p pg) := by
  rw [txt, List.getElem?_eq_getElem (by omega)]; rfl
theorem homes_all {V : Nat → ByteArray} {p : Pg} (hl : p.text.length = 48) (hz : ∀ s ∈ p.text, s.size ≤ 96) (h : ∀ pg j, pg < 48 → j < 4 → V (202 + 4 * pg + j) = hPut pg j (txt p pg)) : homes V = p.text := by
  refine List.ext_getElem? fun pg => ?_
  by_cases hp : pg < 48
  · have e := txt_get hl hp
    have hm : txt p pg ∈ p.text := List.mem_of_getElem? e
    rw [e, homes, List.getElem?_map, List.getElem?_range hp]
    simp [home_text hp (hz _ hm) (fun j hj => h pg j hp hj)]
  · rw [List.getElem?_eq_none (by rw [homes_len]; omega), List.getElem?_eq_none (by omega)]
/-- the sound store behind a fresh beginning -/
theorem fresh_sound {V V1 V2 : Nat → ByteArray} {p : Pg} (h : Found V p) (hr : pgRoom p = true) (h1 : Written V (hW p) V1) (h2 : Written V1 [(((p.hn + 1) % 2).toNat, putP (putH (p.hn + 1) (p.next + 200)))] V2) : Sound V2 (freshQ p) [] := by
  obtain ⟨m1, m2, m3, m4, m5, m6⟩ := pgRoom_of hr
  have hn0 := m1.1
  have hh : hdMay (p.hn + 1) (p.next + 200) := ⟨by omega, by omega⟩
  have hput : putH (p.hn + 1) (p.next + 200) = headOf (p.hn + 1) (p.next + 200) := if_pos hh
  rw [hput] at h2
  have hV2 : V2 ((p.hn + 1) % 2).toNat = putP (headOf (p.hn + 1) (p.next + 200)) := h2.put (((p.hn + 1) % 2).toNat, putP (headOf (p.hn + 1) (p.next + 200))) (by simp)
  have hold2 : ∀ i, i < 394 → i ≠ ((p.hn + 1) % 2).toNat → V2 i = V1 i := fun i hi hne => h2.old i hi fun w hw => by rw [List.mem_singleton.1 hw]; exact fun e => hne e.symm
  have hold1 : ∀ i, i < 202 → V1 i = V i := fun i hi => h1.old i (by omega) fun w hw => by
    obtain ⟨pg, j, _, _, rfl⟩ := mem_hW.1 hw
    simp only; omega
  have hhome : ∀ pg j, pg < 48 → j < 4 → V2 (202 + 4 * pg + j) = hPut pg j (txt p pg) := fun pg j hp hj => by
    rw [hold2 _ (by omega) (by omega)]
    exact h1.put (202 + 4 * pg + j, hPut pg j (txt p pg)) (mem_hW.2 ⟨pg, j, hp, hj, rfl⟩)
  have hlog : ∀ i, i < 200 → lR V2 i = lR V i := fun i hi => lR_congr (by rw [hold2 _ (by omega) (by omega), hold1 _ (by omega)])
  have htx : homes V2 = p.text := homes_all m4 m5 hhome
  refine { may := ?_, head := hV2, other := ?_, seqs := ?_, clean := ?_, lok := trivial, log := by simp [lgN, lgT], used := rfl, next := by simp [freshQ, lgN], tail := ?_, home := ?_, text := ?_ }
  · show pgMay ⟨p.hn + 1, p.next + 200, p.next + 200, 0, p.text⟩ = true
    simp only [pgMay, Bool.and_eq_true, decide_eq_true_eq, List.all_eq_true]
    exact ⟨⟨⟨⟨⟨hh, by omega, by omega⟩, by omega⟩, by omega⟩, m4⟩, m5⟩
  · intro m t he
    have e : ((freshQ p).hn + 1) % 2 = p.hn % 2 := by simp only [freshQ]; omega
    rw [e, hold2 _ (by omega) (by omega), hold1 _ (by omega), h.head, hdOf_put m1] at he
    cases he
    simp only [freshQ]; omega
  · intro i hi he
    rw [hlog i hi] at he ⊢
    have := h.seqs i hi he
    simp only [freshQ]; omega
  · intro i hi
    by_cases e : i = ((p.hn + 1) % 2).toNat
    · subst e; exact .inr ⟨_, headOf_size _ _, hV2⟩
    · by_cases h202 : i < 202
      · rw [hold2 i hi e, hold1 i h202]; exact h.clean i hi
      · obtain ⟨pg, j, hp, hj, rfl⟩ : ∃ pg j, pg < 48 ∧ j < 4 ∧ i = 202 + 4 * pg + j := ⟨(i - 202) / 4, (i - 202) % 4, by omega, by omega, by omega⟩
        exact .inr ⟨_, hPut_size hp hj _, hhome pg j hp hj⟩
  · intro i _ hi he
    rw [hlog i hi] at he ⊢
    have := h.seqs i hi he
    simp only [freshQ]; omega
  · intro pg hpg _ j hj
    exact .inl (hhome pg j hpg hj)
  · show p.text = homes V2
    exact htx.symm
theorem hdSt_wS {n s : Int} (h : 0 ≤ n) : hdSt n s = wS ((n % 2).toNat, putP (putH n s)) := by
  simp only [hdSt, wrSt, wS, Prod.mk.injEq, true_and, and_true]; omega
theorem freshS_eq (p : Pg) (h : 0 ≤ p.hn) : freshS p = ((hW p).map wS ++ [flSt]) ++ ([(((p.hn + 1) % 2).toNat, putP (putH (p.hn + 1) (p.next + 200)))].map wS ++ [flSt]) := by
  rw [freshS, freshHome_hW, hdSt_wS (show 0 ≤ p.hn + 1 by omega), List.append_assoc]; rfl
theorem hd_ok {n s : Int} (h : hdMay n s) : ∀ w ∈ [((n % 2).toNat, putP (putH n s))], wrOk w := fun w hw => by
  rw [List.mem_singleton.1 hw]
  exact ⟨by simp only; omega, by rw [putH, if_pos h]; exact putP_size (headOf_size _ _)⟩
theorem fresh_store {d : Dk} {p : Pg} (hd : dOk d = true) (hc : d.2 = []) (h : Found (vw d) p) (hr : pgRoom p = true) : ∃ d', Leads d (freshS p) d' ∧ Store d' (freshQ p) [] := by
  obtain ⟨m1, m2, m3, m4, m5, m6⟩ := pgRoom_of hr
  have hn0 := m1.1.1
  obtain ⟨d1, a1, a2, a3, a4⟩ := phase_leads hd hc (hW_ok p) (hW_apart p) (by rw [hW_len]; omega)
  obtain ⟨d2, b1, b2, b3, b4⟩ := phase_leads a2 a3 (hd_ok (n := p.hn + 1) (s := p.next + 200) ⟨by omega, by omega⟩) (by simp [Apart]) (by simp)
  exact ⟨d2, by rw [freshS_eq p hn0]; exact a1.trans b1, b2, b3, fresh_sound h hr a4 b4⟩
/-! a commit, with a fresh beginning or without one -/
theorem freshQ_room {p : Pg} (h : pgRoom p = true) : hdMay (p.hn + 1) (p.next + 200) := by
  obtain ⟨m1, m2, m3, m4, m5, m6⟩ := pgRoom_of h
  have := m1.1
  exact ⟨by omega, by omega⟩
theorem baseP_room {p : Pg} {is : List Img} (h : pgRoom p = true) : (baseP p is).next ≤ 2147483000 := by
  obtain ⟨m1, m2, m3, m4, m5, m6⟩ := pgRoom_of h
  unfold baseP
  split
  · simp only [freshQ]; omega
  · omega
theorem base_store {d : Dk} {p : Pg} {tss : List (List Img)} (is : List Img) (h : Store d p tss) (hr : pgRoom p = true) : ∃ d' tss', Leads d (baseS p is) d' ∧ Store d' (baseP p is) tss' := by
  by_cases hb : 200 < p.used + 4 * (is.length : Int) + 1
  · obtain ⟨d', h1, h2⟩ := fresh_store h.ok h.flat h.sound.toFound hr
    exact ⟨d', [], by rw [baseS, if_pos hb]; exact h1, by rw [baseP, if_pos hb]; exact h2⟩
  · exact ⟨d, tss, by rw [baseS, if_neg hb]; exact Leads.nil d, by rw [baseP, if_neg hb]; exact h⟩
theorem baseP_fit {p : Pg} {is : List Img} (h : pgRoom p = true) (hi : imOk (-1) is = true) : (baseP p is).used + 4 * is.length + 1 ≤ 200 := by
  have h48 := imOk_48 hi
  unfold baseP
  split
  · simp only [freshQ]; omega
  · omega
theorem comm_store {d : Dk} {p : Pg} {tss : List (List Img)} {is : List Img} (h : Store d p tss) (hr : pgRoom p = true) (hi : imOk (-1) is = true) : ∃ d' tss', Leads d (comm p is).1 d' ∧ Store d' (comm p is).2.1 tss' ∧ (comm p is).2.2 = 0 := by
  rw [comm, if_pos ⟨hr, hi⟩]
  by_cases hn : is = []
  · rw [if_pos hn]; exact ⟨d, tss, Leads.nil d, h, rfl⟩
  · rw [if_neg hn]
    obtain ⟨d1, t1, a1, a2⟩ := base_store is h hr
    obtain ⟨d2, b1, b2⟩ := commit_store a2 (baseP_room hr) hi (baseP_fit hr hi)
    refine ⟨d2, t1 ++ [is], ?_, b2, rfl⟩
    rw [commS, List.append_assoc]; exact a1.trans b1
end Go.AM
end TextR6Tl
section TextR6Tm
/- Plain laws: crashes. -/
namespace Go.AM
open Go.Proofs
set_option linter.unusedVariables false
set_option linter.unusedSimpArgs false
set_option maxRecDepth 100000
attribute [-simp] ByteArray.size_eq_zero_iff
theorem first_bad (P : Nat → Prop) : ∀ n, (∀ i, i < n → P i) ∨ ∃ k, k < n ∧ (∀ i, i < k → P i) ∧ ¬ P k
  | 0 => .inl fun i h => by omega
  | n + 1 => by
    rcases first_bad P n with h | ⟨k, h1, h2⟩
    · by_cases hp : P n
      · exact .inl fun i hi => by
          rcases Nat.lt_or_ge i n with h3 | h3
          · exact h i h3
          · rw [show i = n by omega]; exact hp
      · exact .inr ⟨n, by omega, h, hp⟩
    · exact .inr ⟨k, by omega, h2⟩
theorem torn_clean {old a x : ByteArray} {c : Nat} (hc : old = zer 64 ∨ ∃ t, t.size = 32 ∧ old = putP t) (ha : a.size = 32) (hc64 : c ≤ 64) (hx : x = (putP a).extract 0 c ++ old.extract c 64) : x = putP a ∨ x = old ∨ getP x = ⟨#[]⟩ := by
  rcases hc with rfl | ⟨t, ht, rfl⟩
  · by_cases h0 : getPE x = 0
    · obtain ⟨u, hu, e⟩ := (getPE_iff x).1 h0
      have za := putP_size ha
      by_cases h32 : 32 ≤ c
      · refine .inl ?_
        have e1 : x.extract 0 32 = (putP a).extract 0 32 := by
          apply L_inj
          rw [L_extract, L_extract, hx, L_append, L_extract, List.drop_zero, List.drop_zero, List.take_append_of_le_length (by simp [L_length, za]; omega), List.take_take]
          rw [show min (32 - 0) (c - 0) = 32 - 0 by omega]
        rw [e, putP, if_pos hu, putP, if_pos ha, ext_left hu, ext_left ha] at e1
        rw [e, e1]
      · exfalso
        have hL : L x = (L (putP a)).take c ++ List.replicate (64 - c) 0 := by
          rw [hx, L_append, L_extract, L_extract, L_zer, List.drop_zero, Nat.sub_zero, List.drop_replicate, List.take_replicate]
          congr 2
          omega
        have hlx : ((L (putP a)).take c).length = c := by rw [List.length_take, L_length, za]; omega
        have z : ∀ i, c ≤ i → i < 64 → (L x)[i]? = some 0 := fun i h1 h2 => by
          rw [hL, List.getElem?_append_right (by omega), hlx, List.getElem?_replicate, if_pos (by omega)]
        have hu2 : L x = L u ++ (L u).map fun b => 255 - b := by rw [e, putP, if_pos hu, L_append, L_inv]
        have lu : (L u).length = 32 := by rw [L_length, hu]
        have z1 := z 31 (by omega) (by omega)
        have z2 := z 63 (by omega) (by omega)
        rw [hu2, List.getElem?_append_left (by omega)] at z1
        rw [hu2, List.getElem?_append_right (by omega), lu, List.getElem?_map, z1] at z2
        revert z2; decide
    · refine .inr (.inr ?_)
      rw [getPE] at h0
      rw [getP]
      split at h0
      · exact absurd rfl h0
      · rename_i h; exact if_neg h
  · rcases torn_pair ha ht hc64 hx with h | h | h
    · exact .inl h
    · exact .inr (.inl h)
    · exact .inr (.inr h.1)
theorem cr1_clean {old a x : ByteArray} (hc : old = zer 64 ∨ ∃ t, t.size = 32 ∧ old = putP t) (ha : a.size = 32) (h : Cr1 old (putP a) x) : x = putP a ∨ x = old ∨ getP x = ⟨#[]⟩ := by
  rcases h with h | h | ⟨c, h1, h2⟩
  · exact .inr (.inl h)
  · exact .inl h
  · exact torn_clean hc ha h1 h2
/-- a transaction's records, some of them lost at a crash -/
theorem crash_commit {V V' : Nat → ByteArray} {p : Pg} {tss : List (List Img)} {is : List Img} {m : Nat} (h : Sound V p tss) (hr : p.next ≤ 2147483000) (hi : imOk (-1) is = true) (hfit : p.used + 4 * is.length + 1 ≤ 200)
    (hm : m ≤ (mkRecs is p.next).length) (hV : Crashed V (logW (lgN tss) (mkRecs is p.next) m) V') :
    openV V' = (p, 0) ∨ m = (mkRecs is p.next).length ∧ (∀ i, i < m → V' (2 + lgN tss + i) = putP (txtR (recN (mkRecs is p.next) i))) := by
  obtain ⟨m1, m2, m3, m4, m5⟩ := pgMay_of h.may
  have h48 := imOk_48 hi
  have hk : MkOk is p.next := ⟨hi, by omega, by omega⟩
  have hl := mkRecs_len hk
  have hu := h.used
  have hold : ∀ i, i < 394 → (i < 2 + lgN tss ∨ 2 + lgN tss + m ≤ i) → V' i = V i := fun i hi hne => hV.old i hi fun w hw => by
    obtain ⟨j, hj, rfl⟩ := mem_logW.1 hw
    simp only; omega
  rcases first_bad (fun i => i < m ∧ V' (2 + lgN tss + i) = putP (txtR (recN (mkRecs is p.next) i))) (mkRecs is p.next).length with hall | ⟨k, k1, k2, k3⟩
  · have hmn : m = (mkRecs is p.next).length := by
      have := (hall ((mkRecs is p.next).length - 1) (by omega)).1; omega
    exact .inr ⟨hmn, fun i hi => (hall i (by omega)).2⟩
  · refine .inl ?_
    have hfail : ¬ ((lR V' (lgN tss + k)).2.2.2.2 = 0 ∧ (lR V' (lgN tss + k)).1 = p.hs + ((lgN tss + k : Nat) : Int)) := by
      have hsame : V' (2 + (lgN tss + k)) = V (2 + (lgN tss + k)) → ¬ ((lR V' (lgN tss + k)).2.2.2.2 = 0 ∧ (lR V' (lgN tss + k)).1 = p.hs + ((lgN tss + k : Nat) : Int)) := fun e hh => by
        rw [lR_congr e] at hh
        exact h.tail (lgN tss + k) (by omega) (by omega) hh.1 hh.2
      by_cases hkm : k < m
      · have hne : V' (2 + lgN tss + k) ≠ putP (txtR (recN (mkRecs is p.next) k)) := fun e => k3 ⟨hkm, e⟩
        have hc := hV.put (2 + lgN tss + k, putP (txtR (recN (mkRecs is p.next) k))) (mem_logW.2 ⟨k, hkm, rfl⟩)
        rcases cr1_clean (h.clean _ (by omega)) (txtR_size (recN_law hk k1).1) hc with e | e | e
        · exact absurd e hne
        · exact hsame (by rw [← Nat.add_assoc]; exact e)
        · intro hh
          have : lR V' (lgN tss + k) = (0, 0, 0, ⟨#[]⟩, 300) := by rw [lR, ← Nat.add_assoc, e, getR_nil]
          rw [this] at hh; exact absurd hh.1 (by decide)
      · exact hsame (hold _ (by omega) (by omega))
    have hlg := log_written (V := V) (V' := V') hk (n := k) (by omega) (show lgN tss + k ≤ 200 by omega) (fun i hi => (k2 i hi).2) (fun i hi => hold (2 + i) (by omega) (by omega))
    rw [h.log] at hlg
    have hxl : (((mkRecs is p.next).map txtR).take k).length = k := by simp; omega
    have hsc := scan_log (V := V') (hs := p.hs) (tss := tss) (xs := ((mkRecs is p.next).map txtR).take k) m1.2 h.lok (by rw [hxl]; exact hlg) (by rw [hxl]; omega) (fun t ht => by
      rw [mkRecs, if_pos hk] at ht
      rw [hl] at k1
      rw [List.map_append, List.take_append_of_le_length (by simp [recsAll_len]; omega)] at ht
      obtain ⟨r, hr, rfl⟩ := List.mem_map.1 (List.mem_of_mem_take ht)
      exact part_txt r (part_recs _ _ r hr)) (fun _ => by rw [hxl]; exact hfail)
    have hhn : (p.hn % 2).toNat < 2 := by omega
    have hhn2 : ((p.hn + 1) % 2).toNat < 2 := by omega
    have := open_of (V := V') (best_head m1 (by rw [hold _ (by omega) (by omega)]; exact h.head) (by rw [hold _ (by omega) (by omega)]; exact h.other)) hsc
    rw [this, homes_congr (V := V) (fun i h1 h2 => hold i h2 (by omega)), ← h.text, ← h.next, ← hu]
/-- pages at home, some of them lost at a crash; the other head is none, or an old one -/
theorem crash_home {V V' : Nat → ByteArray} {p : Pg} {tss : List (List Img)} (h : Sound V p tss) (hold : ∀ i, i < 202 → i ≠ ((p.hn + 1) % 2).toNat → V' i = V i) (hoth : ∀ m t, hdOf (V' ((p.hn + 1) % 2).toNat) = (m, t, 0) → m < p.hn)
    (hc : ∀ pg j, pg < 48 → j < 4 → Cr1 (V (202 + 4 * pg + j)) (hPut pg j (txt p pg)) (V' (202 + 4 * pg + j))) : openV V' = (p, 0) := by
  obtain ⟨m1, m2, m3, m4, m5⟩ := pgMay_of h.may
  have hu := h.used
  have hhn : (p.hn % 2).toNat < 2 := by omega
  have hhn2 : ((p.hn + 1) % 2).toNat < 2 := by omega
  have hlog : (logL V') = logL V := by
    unfold logL
    refine List.map_congr_left fun i hi => ?_
    rw [List.mem_range] at hi
    rw [hold (2 + i) (by omega) (by omega)]
  have hst : lgN tss < 200 → ¬ ((lR V' (lgN tss)).2.2.2.2 = 0 ∧ (lR V' (lgN tss)).1 = p.hs + (lgN tss : Int)) := fun hlt hh => by
    rw [lR_congr (V := V) (V' := V') (hold (2 + lgN tss) (by omega) (by omega))] at hh
    exact h.tail (lgN tss) (Nat.le_refl _) hlt hh.1 hh.2
  have hsc := scan_log (V := V') (hs := p.hs) (tss := tss) (xs := []) m1.2 h.lok (by rw [hlog]; have := h.log; rwa [List.append_nil]) (by show lgN tss + 0 ≤ 200; omega) (fun t ht => by cases ht) (fun hlt => hst hlt)
  have := open_of (V := V') (best_head m1 (by rw [hold _ (by omega) (by omega)]; exact h.head) hoth) hsc
  have ht : applyT (homes V') tss = applyT (homes V) tss := by
    refine applyT_eq (by rw [homes_len, homes_len]) fun pg hpg hun => ?_
    rw [homes_len] at hpg
    have hun' : ∀ is ∈ tss, ∀ x ∈ is, x.1 ≠ (pg : Int) := fun is his x hx e => hun is his x hx (by omega)
    have htx : txt p pg = homeT V pg := by
      rw [txt, h.text, applyT_get hun, homes, List.getElem?_map, List.getElem?_range hpg]; rfl
    simp only [homes, List.getElem?_map, List.getElem?_range hpg, Option.map_some, Option.some.injEq]
    by_cases hz : txt p pg = ⟨#[]⟩
    · rw [← htx, hz]
      by_cases hall : ∀ j, j < 4 → hOk V' pg j
      · have hd : ∀ j, j < 4 → (hRec V' pg j).2.2.2.1 = ⟨#[]⟩ := fun j hj => by
          have hpd : partD ⟨#[]⟩ j = ⟨#[]⟩ := by
            have : (partD ⟨#[]⟩ j).size = 0 := by rw [partD_size]; show min (j * 24 + 24) 0 - min (j * 24) 0 = 0; omega
            exact size_zero.1 this
          have hnew : V' (202 + 4 * pg + j) = hPut pg j (txt p pg) → (hRec V' pg j).2.2.2.1 = ⟨#[]⟩ := fun e => by rw [home_rec hpg hj e, hz]; exact hpd
          rcases cr1_clean (h.clean _ (by omega)) (hPut_size hpg hj (txt p pg)) (hc pg j hpg hj) with e | e | e
          · exact hnew e
          · rcases h.home pg hpg hun' j hj with g | g
            · exact hnew (e.trans g)
            · exact absurd ((hOk_congr e).1 (hall j hj)) g.2
          · have := (hall j hj).1
            rw [hRec, e, getR_nil] at this; cases this
        rw [homeT, if_pos hall]
        simp only [hAcc, hd 0 (by omega), hd 1 (by omega), hd 2 (by omega), hd 3 (by omega)]
        rfl
      · rw [homeT, if_neg hall]
    · refine homeT_congr fun j hj => ?_
      have g := (h.home pg hpg hun' j hj).resolve_right fun g => hz g.1
      rcases hc pg j hpg hj with e | e | ⟨c, c1, e⟩
      · exact e
      · rw [e, g]
      · rw [e, g]
        have hs := putP_size (hPut_size hpg hj (txt p pg))
        apply L_inj
        rw [L_append, L_extract, L_extract, List.drop_zero, Nat.sub_zero]
        have hl2 : (List.drop c (L (hPut pg j (txt p pg)))).take (64 - c) = List.drop c (L (hPut pg j (txt p pg))) := List.take_of_length_le (by rw [List.length_drop, L_length, hPut, hs]; omega)
        rw [hl2, List.take_append_drop]
  rw [this, ht, ← h.text, ← h.next, ← hu]
end Go.AM
end TextR6Tm
section TextR6Tn
/- Helpers for the laws over plans and openings. -/
namespace Go.AM
open Go.Proofs
set_option linter.unusedVariables false
set_option linter.unusedSimpArgs false
set_option maxRecDepth 100000
attribute [-simp] ByteArray.size_eq_zero_iff
theorem openP_store {d : Dk} {p : Pg} {tss : List (List Img)} (h : Store d p tss) : openP d = (p, 0) := by
  rw [openP, if_pos h.ok]; exact h.sound.opened
theorem store_len {d : Dk} {p : Pg} {tss : List (List Img)} (h : Store d p tss) : d.1.length = 394 ∧ d.2.length = 0 := ⟨(dOk_len h.ok).1, by rw [h.flat]; rfl⟩
theorem room_of {p : Pg} (h : pgMay p = true) (h1 : p.hn ≤ 2147482647) (h2 : p.next ≤ 2147482647) : pgRoom p = true := by simp [pgRoom, h, h1, h2]
theorem comm_bounds {p : Pg} {is : List Img} (hr : pgRoom p = true) (hi : imOk (-1) is = true) : (comm p is).2.1.hn ≤ p.hn + 1 ∧ (comm p is).2.1.next ≤ p.next + 400 ∧ (comm p is).2.1.used ≤ 200 := by
  obtain ⟨m1, m2, m3, m4, m5, m6⟩ := pgRoom_of hr
  have h48 := imOk_48 hi
  rw [comm, if_pos ⟨hr, hi⟩]
  by_cases hn : is = []
  · rw [if_pos hn]; simp only; omega
  · rw [if_neg hn]
    have hf := baseP_fit hr hi
    have hb := baseP_room (is := is) hr
    have hn1 : 1 ≤ (baseP p is).next := by unfold baseP; split <;> (try simp only [freshQ]) <;> omega
    have hl : (commR p is).length = 4 * is.length + 1 := by rw [commR]; exact mkRecs_len ⟨hi, by omega, by omega⟩
    have hb2 : (baseP p is).hn ≤ p.hn + 1 ∧ (baseP p is).next ≤ p.next + 200 := by unfold baseP; split <;> (try simp only [freshQ]) <;> omega
    simp only [commQ, hl]
    omega
/-- a disk, and that it lies far from some blocks -/
theorem DkR.far {G : Heap} {s c : Value} {d : Dk} (h : DkR G (.agg #[s, c]) d) {b : Nat} (hb : G.next ≤ b) : NotIn s b ∧ NotIn c b := by
  obtain ⟨s', c', e, h1, h2⟩ := h
  obtain ⟨rfl, rfl⟩ : s = s' ∧ c = c' := by simpa using e
  constructor
  · obtain ⟨_, p, k, rfl, hp⟩ := h1
    intro a n c e
    rcases hp with ⟨rfl, _⟩ | ⟨b', o, rfl, hb', _⟩
    · cases e
    · cases e; simp only; omega
  · obtain ⟨_, p, k, rfl, hp⟩ := h2
    intro a n c e
    rcases hp with ⟨rfl, _⟩ | ⟨b', o, rfl, hb', _⟩
    · cases e
    · cases e; simp only; omega
theorem Rows.far {α : Type} {enc : α → List Value} {sz : Nat} {H : Heap} {v : Value} {xs : List α} (h : Rows enc sz H v xs) {b : Nat} (hb : H.next ≤ b) : NotIn v b := by
  obtain ⟨_, p, k, rfl, hp⟩ := h
  intro a n c e
  rcases hp with ⟨rfl, _⟩ | ⟨b', o, rfl, hb', _⟩
  · cases e
  · cases e; simp only; omega
theorem Rows.setB {α : Type} {enc : α → List Value} {sz : Nat} {H : Heap} {v : Value} {xs : List α} (h : Rows enc sz H v xs) {b : Nat} (hb : NotIn v b) (f : Option Blk) : Rows enc sz (H.set b f) v xs := by
  obtain ⟨l, p, k, rfl, hp⟩ := h
  refine ⟨l, p, k, rfl, hp.imp id ?_⟩
  rintro ⟨b', o, rfl, h2, h3, h4⟩
  refine ⟨b', o, rfl, by simpa using h2, h3, fun i hi j hj => ?_⟩
  have hne : b' ≠ b := fun e => hb _ _ _ rfl e.symm
  rw [cell_set_ne hne, h4 i hi j hj]
theorem DkR.setB {H : Heap} {s c : Value} {d : Dk} (h : DkR H (.agg #[s, c]) d) {b : Nat} (h1 : NotIn s b) (h2 : NotIn c b) (f : Option Blk) : DkR (H.set b f) (.agg #[s, c]) d := by
  obtain ⟨s', c', e, g1, g2⟩ := h
  obtain ⟨rfl, rfl⟩ : s = s' ∧ c = c' := by simpa using e
  exact ⟨s, c, rfl, g1.setB h1 f, g2.setB h2 f⟩
theorem OwnD.far3 {n0 : Nat} {H : Heap} {s c : Value} {d : Dk} (h : OwnD n0 H (.agg #[s, c]) d) {b : Nat} (hb : b < n0) : NotIn s b ∧ NotIn c b := by
  obtain ⟨s', c', e, h1, h2, _⟩ := h
  obtain ⟨rfl, rfl⟩ : s = s' ∧ c = c' := by simpa using e
  exact ⟨h1.notIn hb, h2.notIn hb⟩
/-- the first disk: new, and laid out -/
theorem new_store (G : Heap) : ∃ v0 G1 va G2 v3 G3 d, call K f_ref1_NewDisk [] G = some (v0, G1) ∧ call K f_plan_Format [] G1 = some (va, G2) ∧ call K f_law8_done [v0, va] G2 = some (.tuple #[v3, .bool true], G3) ∧ Ext G G1 ∧ Ext G1 G2 ∧ Ext G2 G3 ∧ DkR G3 v3 d ∧ Store d pgB [] := by
  obtain ⟨v0, G1, c1, E1, D1⟩ := rnew_ok G
  obtain ⟨va, G2, c2, E2, R2⟩ := format_ok G1
  obtain ⟨d, hl, hs⟩ := format_store
  obtain ⟨_, G3, c3, E3, v3, rfl, D3, _⟩ := done8_ok v0 va newD formS G2 (D1.ext E2) R2
  rw [hl.done.1] at c3 D3
  exact ⟨v0, G1, va, G2, v3, G3, d, c1, c2, c3, E1, E2, E3, D3, hs⟩
end Go.AM
end TextR6Tn
section TextR6To
/- Plain laws: a crash behind any part of the steps. -/
namespace Go.AM
open Go.Proofs
set_option linter.unusedVariables false
set_option linter.unusedSimpArgs false
set_option maxRecDepth 100000
attribute [-simp] ByteArray.size_eq_zero_iff
def AllCr (d : Dk) (ss : List Stp) (P : (Nat → ByteArray) → Prop) : Prop :=
  ∀ k, k ≤ ss.length → ∃ x, done8 d (ss.take k) = (x, true) ∧ dOk x = true ∧ ∀ keep torn at_, 0 ≤ at_ ∧ at_ ≤ 64 → dOk (crR x keep torn at_) = true ∧ crE x at_ = 0 ∧ P (vw (crR x keep torn at_))
theorem crR_flat {d : Dk} (hd : dOk d = true) (hc : d.2 = []) (keep : ByteArray) (torn : Int) {at_ : Int} (h0 : 0 ≤ at_ ∧ at_ ≤ 64) : crR d keep torn at_ = d ∧ crE d at_ = 0 := by
  obtain ⟨c1, c2, _⟩ := do_crash hd keep torn h0
  obtain ⟨S, C⟩ := d
  simp only at hc
  subst hc
  exact ⟨by rw [c1]; rfl, c2⟩
theorem AllCr.append {d d' : Dk} {a b : List Stp} {P : (Nat → ByteArray) → Prop} (hA : AllCr d a P) (hL : Leads d a d') (hB : AllCr d' b P) : AllCr d (a ++ b) P := fun k hk => by
  rcases Nat.le_total k a.length with h | h
  · obtain ⟨x, h1, h2⟩ := hA k h
    exact ⟨x, by rw [List.take_append_of_le_length h]; exact h1, h2⟩
  · obtain ⟨x, h1, h2⟩ := hB (k - a.length) (by rw [List.length_append] at hk; omega)
    refine ⟨x, ?_, h2⟩
    rw [List.take_append, List.take_of_length_le h, (hL _).1]; exact h1
theorem AllCr.mono {d : Dk} {ss : List Stp} {P Q : (Nat → ByteArray) → Prop} (h : AllCr d ss P) (hPQ : ∀ V, P V → Q V) : AllCr d ss Q := fun k hk => by
  obtain ⟨x, h1, h2, h3⟩ := h k hk
  exact ⟨x, h1, h2, fun a b c hc => ⟨(h3 a b c hc).1, (h3 a b c hc).2.1, hPQ _ (h3 a b c hc).2.2⟩⟩
theorem AllCr.flat {d : Dk} (hd : dOk d = true) (hc : d.2 = []) {P : (Nat → ByteArray) → Prop} (h : P (vw d)) : AllCr d [] P := fun k hk => by
  refine ⟨d, by rw [List.take_nil]; rfl, hd, fun keep torn at_ h0 => ?_⟩
  obtain ⟨e1, e2⟩ := crR_flat hd hc keep torn h0
  rw [e1]; exact ⟨hd, e2, h⟩
theorem apart_take {ws : List Wr} (h : Apart ws) (m : Nat) : Apart (ws.take m) := by
  unfold Apart at h ⊢
  rw [List.map_take]
  exact h.sublist (List.take_sublist _ _)
theorem phase_cr {d : Dk} (hd : dOk d = true) (hc : d.2 = []) {ws : List Wr} (hw : ∀ w ∈ ws, wrOk w) (ha : Apart ws) (hl : ws.length ≤ 512) {P : (Nat → ByteArray) → Prop} (h1 : ∀ m, m ≤ ws.length → ∀ V', Crashed (vw d) (ws.take m) V' → P V')
    (h2 : ∀ V', Written (vw d) ws V' → P V') : AllCr d (ws.map wS ++ [flSt]) P := fun k hk => by
  by_cases hlt : k ≤ ws.length
  · obtain ⟨S, C⟩ := d
    simp only at hc
    subst hc
    have hw' : ∀ w ∈ ws.take k, wrOk w := fun w h => hw w (List.mem_of_mem_take h)
    have hl' : (ws.take k).length ≤ ws.length := by rw [List.length_take]; omega
    obtain ⟨e1, _, e3⟩ := done8_writes (ws.take k) (S, []) [] hd hw' (by show 0 + (ws.take k).length ≤ 512; omega)
    simp only [List.nil_append, List.append_nil] at e1 e3
    refine ⟨(S, (ws.take k).map wI), ?_, e3, fun keep torn at_ h0 => ?_⟩
    · rw [List.take_append_of_le_length (by simpa using hlt), ← List.map_take, e1]; rfl
    · obtain ⟨c1, c2, c3, _, _⟩ := crash_law keep torn at_ e3 (apart_take ha k) hw' h0
      exact ⟨c1, c2, h1 k hlt _ c3⟩
  · have hk2 : k = (ws.map wS ++ [flSt]).length := by simp at hk ⊢; omega
    obtain ⟨d', p1, p2, p3, p4⟩ := phase_leads hd hc hw ha hl
    refine ⟨d', by rw [hk2, List.take_length]; exact p1.done.1, p2, fun keep torn at_ h0 => ?_⟩
    obtain ⟨e1, e2⟩ := crR_flat p2 p3 keep torn h0
    rw [e1]; exact ⟨p2, e2, h2 _ p4⟩
theorem hW_old {p : Pg} {V V' : Nat → ByteArray} {m : Nat} (h : Crashed V ((hW p).take m) V') : (∀ i, i < 202 → V' i = V i) ∧ ∀ pg j, pg < 48 → j < 4 → Cr1 (V (202 + 4 * pg + j)) (hPut pg j (txt p pg)) (V' (202 + 4 * pg + j)) := by
  refine ⟨fun i hi => h.old i (by omega) fun w hw => ?_, fun pg j hp hj => ?_⟩
  · obtain ⟨pg, j, _, _, rfl⟩ := mem_hW.1 (List.mem_of_mem_take hw)
    simp only; omega
  · by_cases hm : (202 + 4 * pg + j, hPut pg j (txt p pg)) ∈ (hW p).take m
    · exact h.put _ hm
    · refine .inl (h.old _ (by omega) fun w hw e => hm ?_)
      obtain ⟨pg', j', hp', hj', rfl⟩ := mem_hW.1 (List.mem_of_mem_take hw)
      simp only at e
      obtain ⟨rfl, rfl⟩ : pg' = pg ∧ j' = j := by omega
      exact hw
theorem fresh_cr {d : Dk} {p : Pg} {tss : List (List Img)} (h : Store d p tss) (hr : pgRoom p = true) : AllCr d (freshS p) fun V' => ∃ r, openV V' = (r, 0) ∧ r.text = p.text := by
  obtain ⟨m1, m2, m3, m4, m5, m6⟩ := pgRoom_of hr
  have hn0 := m1.1.1
  have hS := h.sound
  have hhn : (p.hn % 2).toNat < 2 := by omega
  have hhn2 : ((p.hn + 1) % 2).toNat < 2 := by omega
  rw [freshS_eq p hn0]
  obtain ⟨d1, a1, a2, a3, a4⟩ := phase_leads h.ok h.flat (hW_ok p) (hW_apart p) (by rw [hW_len]; omega)
  have hold1 : ∀ i, i < 202 → vw d1 i = vw d i := fun i hi => a4.old i (by omega) fun w hw => by
    obtain ⟨pg, j, _, _, rfl⟩ := mem_hW.1 hw
    simp only; omega
  have hnew1 : ∀ pg j, pg < 48 → j < 4 → vw d1 (202 + 4 * pg + j) = hPut pg j (txt p pg) := fun pg j hp hj => a4.put (202 + 4 * pg + j, hPut pg j (txt p pg)) (mem_hW.2 ⟨pg, j, hp, hj, rfl⟩)
  have hput : putH (p.hn + 1) (p.next + 200) = headOf (p.hn + 1) (p.next + 200) := if_pos (freshQ_room hr)
  have fin : ∀ V', (∀ i, i < 394 → i ≠ ((p.hn + 1) % 2).toNat → V' i = vw d1 i) → (V' ((p.hn + 1) % 2).toNat = putP (headOf (p.hn + 1) (p.next + 200)) ∨ V' ((p.hn + 1) % 2).toNat = vw d ((p.hn + 1) % 2).toNat ∨ getP (V' ((p.hn + 1) % 2).toNat) = ⟨#[]⟩) → ∃ r, openV V' = (r, 0) ∧ r.text = p.text := fun V' ho hx => by
    rcases hx with e | e | e
    · have hW2 : Written (vw d1) [(((p.hn + 1) % 2).toNat, putP (putH (p.hn + 1) (p.next + 200)))] V' := ⟨fun w hw => by rw [List.mem_singleton.1 hw, hput]; exact e, fun i hi hne => ho i hi fun e2 => hne (((p.hn + 1) % 2).toNat, putP (putH (p.hn + 1) (p.next + 200))) (by simp) e2.symm⟩
      exact ⟨freshQ p, (fresh_sound hS.toFound hr a4 hW2).opened, rfl⟩
    · refine ⟨p, crash_home hS (fun i hi hne => by rw [ho i (by omega) hne, hold1 i hi]) (by rw [e]; exact hS.other) fun pg j hp hj => .inr (.inl ?_), rfl⟩
      rw [ho _ (by omega) (by omega)]; exact hnew1 pg j hp hj
    · refine ⟨p, crash_home hS (fun i hi hne => by rw [ho i (by omega) hne, hold1 i hi]) (fun m t hh => by rw [hdOf_none e] at hh; cases hh) fun pg j hp hj => .inr (.inl ?_), rfl⟩
      rw [ho _ (by omega) (by omega)]; exact hnew1 pg j hp hj
  refine AllCr.append ?_ a1 ?_
  · refine phase_cr h.ok h.flat (hW_ok p) (hW_apart p) (by rw [hW_len]; omega) (fun m hm V' hV => ?_) fun V' hV => ?_
    · obtain ⟨g1, g2⟩ := hW_old hV
      exact ⟨p, crash_home hS (fun i hi _ => g1 i hi) (by rw [g1 _ (by omega)]; exact hS.other) g2, rfl⟩
    · have g1 : ∀ i, i < 202 → V' i = vw d i := fun i hi => hV.old i (by omega) fun w hw => by
        obtain ⟨pg, j, _, _, rfl⟩ := mem_hW.1 hw
        simp only; omega
      exact ⟨p, crash_home hS (fun i hi _ => g1 i hi) (by rw [g1 _ (by omega)]; exact hS.other) fun pg j hp hj => .inr (.inl (hV.put (202 + 4 * pg + j, hPut pg j (txt p pg)) (mem_hW.2 ⟨pg, j, hp, hj, rfl⟩))), rfl⟩
  · refine phase_cr a2 a3 (hd_ok (freshQ_room hr)) (by simp [Apart]) (by simp) (fun m hm V' hV => ?_) fun V' hV => ?_
    · refine fin V' (fun i hi hne => hV.old i hi fun w hw => ?_) ?_
      · rw [List.mem_singleton.1 (List.mem_of_mem_take hw)]; exact fun e => hne e.symm
      · rcases Nat.eq_zero_or_pos m with rfl | hp
        · refine .inr (.inl ?_)
          rw [hV.old _ (by omega) (fun w hw => by simp at hw), hold1 _ (by omega)]
        · have := hV.put (((p.hn + 1) % 2).toNat, putP (putH (p.hn + 1) (p.next + 200))) (by rw [List.take_of_length_le (by simp; omega)]; simp)
          rw [hput] at this
          rcases cr1_clean (by rw [hold1 _ (by omega)]; exact hS.clean _ (by omega)) (headOf_size _ _) this with e | e | e
          · exact .inl e
          · exact .inr (.inl (by rw [e, hold1 _ (by omega)]))
          · exact .inr (.inr e)
    · exact ⟨freshQ p, (fresh_sound hS.toFound hr a4 hV).opened, rfl⟩
theorem logW_take (u : Nat) (rs : List Rec) {m n : Nat} (h : m ≤ n) : (logW u rs n).take m = logW u rs m := by
  unfold logW; rw [← List.map_take, List.take_range, Nat.min_eq_left h]
theorem commit_cr {d : Dk} {p : Pg} {tss : List (List Img)} {is : List Img} (h : Store d p tss) (hr : p.next ≤ 2147483000) (hi : imOk (-1) is = true) (hfit : p.used + 4 * is.length + 1 ≤ 200) :
    AllCr d (recSt p.used (mkRecs is p.next) (mkRecs is p.next).length ++ [flSt]) fun V' => ∃ r, openV V' = (r, 0) ∧ (r.text = p.text ∨ r.text = applyI p.text is) := by
  obtain ⟨m1, m2, m3, m4, m5⟩ := pgMay_of h.sound.may
  have h48 := imOk_48 hi
  have hk : MkOk is p.next := ⟨hi, by omega, by omega⟩
  have hl := mkRecs_len hk
  have hu := h.sound.used
  have newp : ∀ V', (∀ i, i < (mkRecs is p.next).length → V' (2 + lgN tss + i) = putP (txtR (recN (mkRecs is p.next) i))) → (∀ i, i < 394 → (i < 2 + lgN tss ∨ 2 + lgN tss + (mkRecs is p.next).length ≤ i) → V' i = vw d i) → ∃ r, openV V' = (r, 0) ∧ (r.text = p.text ∨ r.text = applyI p.text is) := fun V' a b => ⟨_, (commit_sound h.sound hr hi hfit a b).opened, .inr rfl⟩
  rw [hu, recSt_logW]
  refine phase_cr h.ok h.flat (logW_ok hk (Nat.le_refl _) (by omega)) (logW_apart _ _ _) (by rw [logW_len]; omega) (fun m hm V' hV => ?_) fun V' hV => ?_
  · rw [logW_len] at hm
    rw [logW_take _ _ hm] at hV
    rcases crash_commit h.sound hr hi hfit hm hV with e | ⟨e, hall⟩
    · exact ⟨p, e, .inl rfl⟩
    · subst e
      refine newp V' hall fun i hi hne => hV.old i hi fun w hw => ?_
      obtain ⟨j, hj, rfl⟩ := mem_logW.1 hw
      simp only; omega
  · refine newp V' (fun i hi => hV.put (2 + lgN tss + i, putP (txtR (recN (mkRecs is p.next) i))) (mem_logW.2 ⟨i, hi, rfl⟩)) fun i hi hne => hV.old i hi fun w hw => ?_
    obtain ⟨j, hj, rfl⟩ := mem_logW.1 hw
    simp only; omega
theorem comm_cr {d : Dk} {p : Pg} {tss : List (List Img)} {is : List Img} (h : Store d p tss) (hr : pgRoom p = true) (hi : imOk (-1) is = true) : AllCr d (comm p is).1 fun V' => ∃ r, openV V' = (r, 0) ∧ (r.text = p.text ∨ r.text = (comm p is).2.1.text) := by
  rw [comm, if_pos ⟨hr, hi⟩]
  by_cases hn : is = []
  · rw [if_pos hn]; exact AllCr.flat h.ok h.flat ⟨p, h.sound.opened, .inl rfl⟩
  · rw [if_neg hn]
    have hbt : (baseP p is).text = p.text := by unfold baseP; split <;> rfl
    show AllCr d (commS p is) fun V' => ∃ r, openV V' = (r, 0) ∧ (r.text = p.text ∨ r.text = applyI (baseP p is).text is)
    rw [commS, List.append_assoc]
    by_cases hb : 200 < p.used + 4 * (is.length : Int) + 1
    · obtain ⟨d1, a1, a2⟩ := fresh_store h.ok h.flat h.sound.toFound hr
      have eB : baseP p is = freshQ p := if_pos hb
      have eS : baseS p is = freshS p := if_pos hb
      have hc := commit_cr (is := is) a2 (by have := baseP_room (is := is) hr; rw [eB] at this; exact this) hi (by have := baseP_fit (is := is) hr hi; rw [eB] at this; exact this)
      rw [eS, commR, eB]
      exact ((fresh_cr h hr).mono fun V ⟨r, e1, e2⟩ => ⟨r, e1, .inl e2⟩).append a1 hc
    · have eB : baseP p is = p := if_neg hb
      have eS : baseS p is = [] := if_neg hb
      have hc := commit_cr (is := is) h (by have := baseP_room (is := is) hr; rw [eB] at this; exact this) hi (by have := baseP_fit (is := is) hr hi; rw [eB] at this; exact this)
      rw [eS, commR, eB]; exact hc
end Go.AM
end TextR6To
section TextR6Tp
/- Helpers: disks in boxes. -/
namespace Go.AM
open Go.Proofs
set_option linter.unusedVariables false
set_option linter.unusedSimpArgs false
set_option maxRecDepth 100000
attribute [-simp] ByteArray.size_eq_zero_iff
/-- .. in a box that stood ahead of the call -/
theorem stage3 {A G : Heap} {v : Value} {d : Dk} (hE : Ext (A.add (rowBlk 2 [.slice none 0 0, .slice none 0 0])) G) (h : DkR G v d) (hfar : ∀ s c, v = .agg #[s, c] → NotIn s A.next ∧ NotIn c A.next) (hl : d.1.length = 394) {n : Nat} (hn : d.2.length = n) :
    ∃ p k q m A2, v = .agg #[.slice p 394 k, .slice q n m] ∧ G.blk A.next = some (rowBlk 2 [.slice none 0 0, .slice none 0 0]) ∧ (∀ o, G.cell A.next o = (rowBlk 2 [.slice none 0 0, .slice none 0 0]).at_ o) ∧ A2 = G.set A.next (some (((rowBlk 2 [.slice none 0 0, .slice none 0 0]).put 0 (.slice p 394 k)).put 1 (.slice q n m))) ∧ A2.next = G.next ∧ A.next < A2.next ∧ Ext A A2 ∧
      ∀ A', Ext A2 A' → A'.cell A.next 0 = some (.slice p 394 k) ∧ A'.cell A.next 1 = some (.slice q n m) ∧ DkR A' (.agg #[.slice p 394 k, .slice q n m]) d := by
  have hn2 := hE.next
  simp at hn2
  have h0 := h
  obtain ⟨s, c, rfl, hs, hc⟩ := h
  obtain ⟨f1, f2⟩ := hfar _ _ rfl
  obtain ⟨p, k, rfl⟩ := hs.sliceN hl
  obtain ⟨q, m, rfl⟩ := hc.sliceN hn
  have hbk : G.blk A.next = some (rowBlk 2 [.slice none 0 0, .slice none 0 0]) := by rw [hE.blk _ (by simp), blk_add, if_pos rfl]
  refine ⟨p, k, q, m, _, rfl, hbk, fun o => by simp only [Heap.cell, hbk], rfl, rfl, by simp; omega, (((Ext.refl A).add _).trans hE).set (Nat.le_refl _) _, fun A' hE' => ?_⟩
  have hb := (BoxD.set (show A.next < G.next by omega) (.slice p 394 k) (.slice q n m)).ext hE'
  exact ⟨hb.c0, hb.c1, (h0.setB f1 f2 _).ext hE'⟩
/-- a disk laid in a box that another one lay in -/
theorem stage4 {G : Heap} {b : Nat} {B : Blk} {v : Value} {d : Dk} (h : DkR G v d) (hb : b < G.next) (hfar : ∀ s c, v = .agg #[s, c] → NotIn s b ∧ NotIn c b) (hl : d.1.length = 394) {n : Nat} (hn : d.2.length = n) :
    ∃ p k q m A, v = .agg #[.slice p 394 k, .slice q n m] ∧ A = G.set b (some ((B.put 0 (.slice p 394 k)).put 1 (.slice q n m))) ∧ A.next = G.next ∧ (∀ k, k ≠ b → A.blk k = G.blk k) ∧
      ∀ A', Ext A A' → A'.cell b 0 = some (.slice p 394 k) ∧ A'.cell b 1 = some (.slice q n m) ∧ DkR A' (.agg #[.slice p 394 k, .slice q n m]) d := by
  have h0 := h
  obtain ⟨s, c, rfl, hs, hc⟩ := h
  obtain ⟨f1, f2⟩ := hfar _ _ rfl
  obtain ⟨p, k, rfl⟩ := hs.sliceN hl
  obtain ⟨q, m, rfl⟩ := hc.sliceN hn
  refine ⟨p, k, q, m, _, rfl, rfl, rfl, fun k hk => blk_set_ne hk, fun A' hE => ?_⟩
  have hcell : ∀ o, A'.cell b o = ((B.put 0 (.slice p 394 k)).put 1 (.slice q n m)).at_ o := fun o => by
    rw [hE.cell (by simpa using hb)]; simp
  exact ⟨by rw [hcell]; simp, by rw [hcell]; simp, (h0.setB f1 f2 _).ext hE⟩
/-- what steps of a disk leave lies far from what lay there -/
theorem done_far {G G' : Heap} {v v' : Value} {d d' : Dk} {b : Nat} (h : DkR G v d) (hor : (v' = v ∧ d' = d) ∨ OwnD G.next G' v' d') (hb : b < G.next) (hv : ∀ s c, v = .agg #[s, c] → NotIn s b ∧ NotIn c b) : ∀ s c, v' = .agg #[s, c] → NotIn s b ∧ NotIn c b := fun s c e => by
  rcases hor with ⟨e2, _⟩ | ho
  · exact hv s c (e2 ▸ e)
  · subst e; exact ho.far3 hb
theorem and255' (x : Int) : bits .and .i64 x 255 = x % 256 := and_mask x 8 (by decide)
theorem and63' (x : Int) : bits .and .i64 x 63 = x % 64 := and_mask x 6 (by decide)
theorem and7' (x : Int) : bits .and .i64 x 7 = x % 8 := and_mask x 3 (by decide)
/-- the first k steps -/
theorem Rows.pre {α : Type} {enc : α → List Value} {sz : Nat} {H : Heap} {v : Value} {xs : List α} (h : Rows enc sz H v xs) (k : Nat) (hk : k ≤ xs.length) : ∃ u, slvV H sz v none (some (.int .i64 (k : Int))) none = some u ∧ Rows enc sz H u (xs.take k) := by
  obtain ⟨hl, p, c, rfl, hp⟩ := h
  have ht : (xs.take k).length = k := by rw [List.length_take]; omega
  rcases hp with ⟨rfl, rfl, rfl⟩ | ⟨b, o, rfl, h2, h3, h4⟩
  · obtain rfl : k = 0 := by simpa using hk
    exact ⟨.slice none 0 0, rfl, Rows.nil⟩
  · refine ⟨.slice (some ⟨b, o, none⟩) k (2 * (c / 2) + c % 2), ?_, ?_⟩
    · have h5 : k ≤ c / 2 := by omega
      simp [slvV, bound, h5]
    · refine ⟨by rw [ht]; omega, _, _, by rw [ht], .inr ⟨b, o, rfl, h2, by rw [ht]; omega, fun i hi j hj => ?_⟩⟩
      rw [ht] at hi
      rw [h4 i (by omega) j hj, List.getElem_take]
end Go.AM
end TextR6Tp
section TextR6Tq
/- Helpers: steps, a crash, an opening, each in a box of its own. -/
namespace Go.AM
open Go.Proofs
set_option linter.unusedVariables false
set_option linter.unusedSimpArgs false
set_option maxRecDepth 100000
attribute [-simp] ByteArray.size_eq_zero_iff
theorem freshS_len (p : Pg) : (freshS p).length = 195 := by rw [freshS, List.length_append, freshHome_len]; rfl
theorem comm_len {p : Pg} {is : List Img} (hr : pgRoom p = true) (hi : imOk (-1) is = true) : (comm p is).1.length ≤ 1000 := by
  obtain ⟨m1, m2, m3, m4, m5, m6⟩ := pgRoom_of hr
  have h48 := imOk_48 hi
  rw [comm, if_pos ⟨hr, hi⟩]
  by_cases hn : is = []
  · rw [if_pos hn]; simp
  · rw [if_neg hn]
    have hb := baseP_room (is := is) hr
    have hn1 : 1 ≤ (baseP p is).next := by unfold baseP; split <;> (try simp only [freshQ]) <;> omega
    have hl : (commR p is).length = 4 * is.length + 1 := by rw [commR]; exact mkRecs_len ⟨hi, by omega, by omega⟩
    have hbs : (baseS p is).length ≤ 195 := by unfold baseS; split <;> simp [freshS_len]
    simp only [commS, List.length_append, recSt_len, hl, List.length_singleton]
    omega
@[simp] theorem env0_cons6 (a b c d x y z : Value) (l : List Value) : env0 (a :: b :: c :: d :: x :: y :: z :: l) 6 = z := rfl
abbrev n2B : Blk := rowBlk 2 [.slice none 0 0, .slice none 0 0]
abbrev dkB (s c : Value) : Blk := ((rowBlk 2 [.slice none 0 0, .slice none 0 0]).put 0 s).put 1 c
abbrev n5B : Blk := rowBlk 5 [.int .i64 0, .int .i64 0, .int .i64 0, .int .i64 0, .slice none 0 0]
abbrev pgBk (p : Pg) (t : Value) : Blk := ((((n5B.put 0 (.int .i64 p.hn)).put 1 (.int .i64 p.hs)).put 2 (.int .i64 p.next)).put 3 (.int .i64 p.used)).put 4 t
structure CrRun (A : Heap) (s c : Value) (d : Dk) (ps : Option Addr) (ks : Nat) (ss : List Stp) (k : Nat) (keep : ByteArray) (torn at_ : Int) (R : Dk → Pg → Prop) (x : Dk) (r : Pg) (u : Value) (g2 a2 g3 a3 g4 a4 : Heap) (s2 c2 s3 c3 t4 : Value) : Prop where
  cut : slvV A 3 (.slice ps ss.length ks) none (some (.int .i64 (k : Int))) none = some u
  run : call K f_law8_done [.agg #[s, c], u] (A.add n2B) = some (.tuple #[.agg #[s2, c2], .bool true], g2)
  blk2 : g2.blk A.next = some n2B
  cel2 : ∀ o, g2.cell A.next o = n2B.at_ o
  h2 : a2 = g2.set A.next (some (dkB s2 c2))
  c20 : a2.cell A.next 0 = some s2
  c21 : a2.cell A.next 1 = some c2
  crash : call K f_ref1_Crash [.agg #[s2, c2], .string keep, .int .i64 torn, .int .i64 at_] a2 = some (.tuple #[.agg #[s3, c3], .int .i64 0], g3)
  h3 : a3 = (g3.add n2B).set g3.next (some (dkB s3 c3))
  c30 : ∀ A', Ext a3 A' → A'.cell g3.next 0 = some s3
  c31 : ∀ A', Ext a3 A' → A'.cell g3.next 1 = some c3
  open_ : call K f_ref1_Open [.agg #[s3, c3]] a3 = some (.tuple #[pgV r t4, .int .i64 0], g4)
  h4 : a4 = (g4.add n5B).set g4.next (some (pgBk r t4))
  E13 : Ext A a3
  E : Ext A a4
  n4 : g4.next < a4.next
  hl3 : g3.next < a4.next
  E34 : Ext a3 a4
  dk : ∀ A', Ext a3 A' → DkR A' (.agg #[s3, c3]) (crR x keep torn at_)
  c4 : ∀ A', Ext a4 A' → (A'.cell g4.next 0 = some (.int .i64 r.hn) ∧ A'.cell g4.next 1 = some (.int .i64 r.hs) ∧ A'.cell g4.next 2 = some (.int .i64 r.next) ∧ A'.cell g4.next 3 = some (.int .i64 r.used) ∧ A'.cell g4.next 4 = some t4) ∧ Strs A' t4 r.text
  isx : done8 d (ss.take k) = (x, true)
  dokx : dOk x = true
  doky : dOk (crR x keep torn at_) = true
  op : openP (crR x keep torn at_) = (r, 0)
  is : R x r
  shp2 : ∃ p2 k2 q2 n2 m2, s2 = .slice p2 394 k2 ∧ c2 = .slice q2 n2 m2
  shp3 : ∃ p3 k3 q3 n3 m3, s3 = .slice p3 394 k3 ∧ c3 = .slice q3 n3 m3
  shpt : ∃ q n k, t4 = .slice q n k
theorem AllCr.at_ {d : Dk} {ss : List Stp} {R : Pg → Prop} (h : AllCr d ss fun V => ∃ r, openV V = (r, 0) ∧ R r) {k : Nat} (hk : k ≤ ss.length) (keep : ByteArray) (torn at_ : Int) (h0 : 0 ≤ at_ ∧ at_ ≤ 64) :
    ∃ x, done8 d (ss.take k) = (x, true) ∧ dOk x = true ∧ dOk (crR x keep torn at_) = true ∧ crE x at_ = 0 ∧ ∃ r, openV (vw (crR x keep torn at_)) = (r, 0) ∧ R r := by
  obtain ⟨x, h1, h2, h3⟩ := h k hk
  obtain ⟨a, b, c⟩ := h3 keep torn at_ h0
  exact ⟨x, h1, h2, a, b, c⟩
theorem cr_run {A : Heap} {s c : Value} {d : Dk} {ps : Option Addr} {ks : Nat} {ss : List Stp} {R : Dk → Pg → Prop} {keep : ByteArray} {torn at_ : Int} (hD : DkR A (.agg #[s, c]) d) (hs : Rows encSt 3 A (.slice ps ss.length ks) ss) {k : Nat} (hk : k ≤ ss.length)
    (hcr : ∃ x, done8 d (ss.take k) = (x, true) ∧ dOk x = true ∧ dOk (crR x keep torn at_) = true ∧ crE x at_ = 0 ∧ ∃ r, openV (vw (crR x keep torn at_)) = (r, 0) ∧ R x r) (hR : ∀ x r, R x r → r.text.length = 48) :
    ∃ x r u g2 a2 g3 a3 g4 a4 s2 c2 s3 c3 t4, CrRun A s c d ps ks ss k keep torn at_ R x r u g2 a2 g3 a3 g4 a4 s2 c2 s3 c3 t4 := by
  obtain ⟨u, hu, rU⟩ := Rows.pre hs k hk
  obtain ⟨x, hx, dx, dy, cy, py⟩ := hcr
  obtain ⟨_, g2, u2, X2, v2, rfl, D22, hor⟩ := done8_ok _ _ d (ss.take k) (A.add n2B) (hD.ext ((Ext.refl A).add _)) (rU.ext ((Ext.refl A).add _))
  rw [hx] at u2 D22 hor
  simp only at u2 D22 hor
  obtain ⟨n1, n2, _, _⟩ := dOk_len dx
  have hfar := done_far (b := A.next) (hD.ext ((Ext.refl A).add n2B)) hor (by simp) (fun s' c' e => by
    obtain ⟨rfl, rfl⟩ : s = s' ∧ c = c' := by simpa using e
    exact hD.far (Nat.le_refl _))
  obtain ⟨p2, k2, q2, m2, a2, rfl, hb2, cb2, ha2, na2, la2, Y2, L2⟩ := stage3 X2 D22 hfar n1 (n := x.2.length) rfl
  obtain ⟨z20, z21, D23⟩ := L2 a2 (Ext.refl _)
  obtain ⟨_, g3, u3, X3, v3, rfl, o3⟩ := rcrash_ok _ x keep torn at_ a2 D23
  rw [cy] at u3
  obtain ⟨n3, n4, _, _⟩ := dOk_len dy
  obtain ⟨p3, k3, q3, m3, a3, rfl, ha3, na3, Y3, L3⟩ := stage1 o3.dk n3 (n := (crR x keep torn at_).2.length) rfl
  obtain ⟨z30, z31, D33⟩ := L3 a3 (Ext.refl _)
  obtain ⟨r, ho, hor2⟩ := py
  have hop : openP (crR x keep torn at_) = (r, 0) := by rw [openP, if_pos dy]; exact ho
  obtain ⟨_, g4, u4, X4, t4, rfl, oT4⟩ := ropen_ok _ _ a3 D33
  rw [hop] at u4 oT4
  simp only at u4 oT4
  obtain ⟨qt4, kt4, a4, rfl, ha4, na4, Y4, L4⟩ := stageP (p := r) (oT4.rows encS_len) (hR x r hor2)
  have x4 := X4.next
  have y4 := Y4.next
  have e13 : Ext A a3 := Y2.trans (X3.trans Y3)
  exact ⟨x, r, u, g2, a2, g3, a3, g4, a4, _, _, _, _, _, { cut := hu, run := u2, blk2 := hb2, cel2 := cb2, h2 := ha2, c20 := z20, c21 := z21, crash := u3, h3 := ha3, c30 := fun A' h => (L3 A' h).1, c31 := fun A' h => (L3 A' h).2.1, open_ := u4, h4 := ha4, E13 := e13, E := e13.trans (X4.trans Y4), n4 := by omega, hl3 := by omega, E34 := X4.trans Y4, dk := fun A' h => (L3 A' h).2.2, c4 := L4, isx := hx, dokx := dx, doky := dy, op := hop, is := hor2, shp2 := ⟨_, _, _, _, _, rfl, rfl⟩, shp3 := ⟨_, _, _, _, _, rfl, rfl⟩, shpt := ⟨_, _, _, rfl⟩ }⟩
end Go.AM
end TextR6Tq
section TextR6Tr
/- Contracts: pagers that are copied; steps, writes, texts, pagers, disks that are spoilt. -/
namespace Go.AM
open Go.Proofs
set_option linter.unusedVariables false
set_option linter.unusedSimpArgs false
set_option maxRecDepth 100000
attribute [-simp] ByteArray.size_eq_zero_iff
/-- nothing that stood turns but what v points to -/
structure Spo (v : Value) (H H' : Heap) : Prop where
  next : H.next ≤ H'.next
  blk : ∀ b, b < H.next → NotIn v b → H'.blk b = H.blk b
theorem Own.numSt {n0 : Nat} {H : Heap} {v : Value} {xs : List Stp} (h : Own encSt 3 n0 H v xs) : NumC n0 3 1 H v := by
  rcases h.is with ⟨rfl, _⟩ | ⟨b, B, rfl, h2, h3, h4, h5, _⟩
  · exact .inl rfl
  · by_cases hne : xs = []
    · subst hne; exact .inr ⟨b, 0, _, B, rfl, h2, h3, by omega, h4, h5, fun i hi => by omega⟩
    · obtain ⟨b', B', e, _, _, hB, _, hat, _⟩ := h.blkOf encSt_len hne
      cases e
      rw [h4] at hB; cases hB
      exact .inr ⟨b, _, _, B, rfl, h2, h3, h.lim, h4, h5, fun i hi => ⟨xs[i].2.1, by rw [hat i hi 1 (by omega)]; rfl⟩⟩
theorem spoilSt_ok {n0 : Nat} {H : Heap} {v : Value} {xs : List Stp} (h : Own encSt 3 n0 H v xs) : wpf (call K f_law0_SpoilSteps [v] H) fun r H' => Spo v H H' := by
  refine open_plain rfl fc_law0_SpoilSteps rfl (Nat.le_of_ble_eq_true rfl) ?_
  rcases h.numSt with rfl | ⟨b, n, c, B, rfl, h1, h2, h3, h4, h5, h6⟩
  · simp
    refine wp_for (fun d e G => G = H ∧ e 0 = .slice none 0 0 ∧ e 2 = .int .i64 0) 0 ⟨rfl, by simp, by simp⟩ ?_
    rintro d e G ⟨rfl, h0, h2⟩
    simp [c_law0_SpoilSteps_l4, h0, h2]
    exact ⟨Nat.le_refl _, fun _ _ _ => rfl⟩
  · simp
    refine wp_for (fun d e G => ∃ i : Nat, d = n - i ∧ i ≤ n ∧ e 0 = .slice (some ⟨b, 0, none⟩) n c ∧ e 2 = .int .i64 (i : Int) ∧ G.next = H.next ∧ (∀ k, k ≠ b → G.blk k = H.blk k) ∧ NumC n0 3 1 G (.slice (some ⟨b, 0, none⟩) n c)) n ⟨0, by simp, by simp, by simp, by simp, rfl, fun _ _ => rfl, .inr ⟨b, n, c, B, rfl, h1, h2, h3, h4, h5, h6⟩⟩ ?_
    rintro d e G ⟨i, rfl, hi, h0, h2', hnx, hfr, hN⟩
    by_cases hlt : i < n
    · rcases id hN with hh | ⟨b', n', c', B', e', g1, g2, g3, g4, g5, g6⟩
      · cases hh
      · cases e'
        obtain ⟨x, hx⟩ := g6 i hlt
        have hcb : ∀ o, G.cell b o = B'.at_ o := fun o => by simp only [Heap.cell, g4]
        simp [c_law0_SpoilSteps_l4, h0, h2', hlt, hcb, hx, g4, g5]
        exact ⟨n - (i + 1), by omega, i + 1, rfl, hlt, wrap_succ (by omega), hnx, fun k hk => by simp only [hk, if_false]; exact hfr k hk, hN.put g4 g5 _ _⟩
    · obtain rfl : i = n := by omega
      simp [c_law0_SpoilSteps_l4, h0, h2']
      exact ⟨by omega, fun k _ hk => hfr k (hk _ _ _ rfl)⟩
theorem spoilW_ok {n0 : Nat} {H : Heap} {v : Value} {xs : List Img} (h : OwnZ encI 2 n0 H v xs) : wpf (call K f_law0_SpoilWrites [v] H) fun r H' => Spo v H H' := by
  refine open_plain rfl fc_law0_SpoilWrites rfl (Nat.le_of_ble_eq_true rfl) ?_
  have hz : (∃ p c, v = Value.slice p 0 c) ∨ NumC n0 2 0 H v := by
    rcases h with h | ⟨_, b, rfl, _⟩
    · exact .inr h.numI
    · exact .inl ⟨_, _, rfl⟩
  rcases hz with ⟨p, c, rfl⟩ | rfl | ⟨b, n, c, B, rfl, h1, h2, h3, h4, h5, h6⟩
  · simp
    refine wp_for (fun d e G => G = H ∧ e 0 = .slice p 0 c ∧ e 2 = .int .i64 0) 0 ⟨rfl, by simp, by simp⟩ ?_
    rintro d e G ⟨rfl, h0, h2⟩
    simp [c_law0_SpoilWrites_l4, h0, h2]
    exact ⟨Nat.le_refl _, fun _ _ _ => rfl⟩
  · simp
    refine wp_for (fun d e G => G = H ∧ e 0 = .slice none 0 0 ∧ e 2 = .int .i64 0) 0 ⟨rfl, by simp, by simp⟩ ?_
    rintro d e G ⟨rfl, h0, h2⟩
    simp [c_law0_SpoilWrites_l4, h0, h2]
    exact ⟨Nat.le_refl _, fun _ _ _ => rfl⟩
  · simp
    refine wp_for (fun d e G => ∃ i : Nat, d = n - i ∧ i ≤ n ∧ e 0 = .slice (some ⟨b, 0, none⟩) n c ∧ e 2 = .int .i64 (i : Int) ∧ G.next = H.next ∧ (∀ k, k ≠ b → G.blk k = H.blk k) ∧ NumC n0 2 0 G (.slice (some ⟨b, 0, none⟩) n c)) n ⟨0, by simp, by simp, by simp, by simp, rfl, fun _ _ => rfl, .inr ⟨b, n, c, B, rfl, h1, h2, h3, h4, h5, h6⟩⟩ ?_
    rintro d e G ⟨i, rfl, hi, h0, h2', hnx, hfr, hN⟩
    by_cases hlt : i < n
    · rcases id hN with hh | ⟨b', n', c', B', e', g1, g2, g3, g4, g5, g6⟩
      · cases hh
      · cases e'
        obtain ⟨x, hx⟩ := g6 i hlt
        simp at hx
        have hcb : ∀ o, G.cell b o = B'.at_ o := fun o => by simp only [Heap.cell, g4]
        simp [c_law0_SpoilWrites_l4, h0, h2', hlt, hcb, hx, g4, g5]
        exact ⟨n - (i + 1), by omega, i + 1, rfl, hlt, wrap_succ (by omega), hnx, fun k hk => by simp only [hk, if_false]; exact hfr k hk, hN.put g4 g5 _ _⟩
    · obtain rfl : i = n := by omega
      simp [c_law0_SpoilWrites_l4, h0, h2']
      exact ⟨by omega, fun k _ hk => hfr k (hk _ _ _ rfl)⟩
theorem spoilT_ok {n0 : Nat} {H : Heap} {v : Value} {xs : List ByteArray} (h : OwnZ encS 1 n0 H v xs) (hsz : ∀ s ∈ xs, s.size ≤ 1000000) : wpf (call K f_law0_SpoilTexts [v] H) fun r H' => Spo v H H' := by
  refine open_plain rfl fc_law0_SpoilTexts rfl (Nat.le_of_ble_eq_true rfl) ?_
  have hz : (∃ p c, v = Value.slice p 0 c) ∨ ∃ b B, v = .slice (some ⟨b, 0, none⟩) xs.length (2 * xs.length) ∧ xs.length ≤ 140737488355328 ∧ H.blk b = some B ∧ B.ro = false ∧ ∀ i (h : i < xs.length), B.at_ i = some (.string xs[i]) := by
    rcases h with h | ⟨_, b, rfl, _⟩
    · by_cases hne : xs = []
      · subst hne
        rcases h.is with ⟨rfl, _⟩ | ⟨b, B, rfl, _⟩
        · exact .inl ⟨_, _, rfl⟩
        · exact .inl ⟨_, _, rfl⟩
      · obtain ⟨b, B, e, _, _, hB, hro, hat, _⟩ := h.blkOf encS_len hne
        exact .inr ⟨b, B, e, h.lim, hB, hro, fun i hi => by have := hat i hi 0 (by omega); simpa using this⟩
    · exact .inl ⟨_, _, rfl⟩
  rcases hz with ⟨p, c, rfl⟩ | ⟨b, B, rfl, hl, h4, h5, h6⟩
  · simp
    refine wp_for (fun d e G => G = H ∧ e 0 = .slice p 0 c ∧ e 2 = .int .i64 0) 0 ⟨rfl, by simp, by simp⟩ ?_
    rintro d e G ⟨rfl, h0, h2⟩
    simp [c_law0_SpoilTexts_l4, h0, h2]
    exact ⟨Nat.le_refl _, fun _ _ _ => rfl⟩
  · simp
    refine wp_for (fun d e G => ∃ (i : Nat) (B' : Blk), d = xs.length - i ∧ i ≤ xs.length ∧ e 0 = .slice (some ⟨b, 0, none⟩) xs.length (2 * xs.length) ∧ e 2 = .int .i64 (i : Int) ∧ G.next = H.next ∧ (∀ k, k ≠ b → G.blk k = H.blk k) ∧ G.blk b = some B' ∧ B'.ro = false ∧ ∀ j (h : j < xs.length), i ≤ j → B'.at_ j = some (.string xs[j])) xs.length ⟨0, B, by simp, by simp, by simp, by simp, rfl, fun _ _ => rfl, h4, h5, fun j hj _ => h6 j hj⟩ ?_
    rintro d e G ⟨i, B', rfl, hi, h0, h2', hnx, hfr, g4, g5, g6⟩
    by_cases hlt : i < xs.length
    · have hx := g6 i hlt (Nat.le_refl _)
      have hcb : ∀ o, G.cell b o = B'.at_ o := fun o => by simp only [Heap.cell, g4]
      have hs := hsz _ (List.getElem_mem hlt)
      have hadd : binV K.P .add tyStr (.string ⟨#[126]⟩) (.string xs[i]) = some (.string (⟨#[126]⟩ ++ xs[i])) := binV_sadd _ _ _ _ (by show 1 + _ ≤ _; omega)
      simp [c_law0_SpoilTexts_l4, h0, h2', hlt, hcb, hx, g4, g5, hadd]
      exact ⟨xs.length - (i + 1), by omega, i + 1, rfl, hlt, wrap_succ (by omega), hnx, fun k hk => by simp only [hk, if_false]; exact hfr k hk, fun j hj hij => by
        rw [if_neg (by omega)]; exact g6 j hj (by omega)⟩
    · obtain rfl : i = xs.length := by omega
      simp [c_law0_SpoilTexts_l4, h0, h2']
      exact ⟨by omega, fun k _ hk => hfr k (hk _ _ _ rfl)⟩
theorem spoilP_ok {n0 : Nat} {H : Heap} {p : Pg} {t : Value} (h : OwnZ encS 1 n0 H t p.text) (hsz : ∀ s ∈ p.text, s.size ≤ 1000000) : wpf (call K f_law0_SpoilPager [pgV p t] H) fun r H' => Spo t H H' := by
  refine open_plain rfl fc_law0_SpoilPager rfl (Nat.le_of_ble_eq_true rfl) ?_
  obtain ⟨q, k, rfl⟩ := (h.rows encS_len).slice
  obtain ⟨r, G, c1, S1⟩ := spoilT_ok (h.ext ((Ext.refl H).add (rowBlk 5 [.int .i64 p.hn, .int .i64 p.hs, .int .i64 p.next, .int .i64 p.used, .slice q p.text.length k]))) hsz
  have n1 := S1.next
  simp at n1
  simp [pgV, c1]
  exact ⟨by omega, fun b hb hn => by rw [S1.blk b (by simp; omega) hn, blk_add_old hb]⟩
theorem spoilD_ok {n0 : Nat} {H : Heap} {v : Value} {d : Dk} (h : OwnD n0 H v d) (hsz : ∀ s ∈ d.1, s.size ≤ 1000000) : wpf (call K f_law0_SpoilDisk [v] H) fun r H' => H.next ≤ H'.next ∧ ∀ b, b < H.next → FarD v b → H'.blk b = H.blk b := by
  refine open_plain rfl fc_law0_SpoilDisk rfl (Nat.le_of_ble_eq_true rfl) ?_
  have h0 := h
  obtain ⟨s, c, rfl, hs, hc, hsc⟩ := h
  obtain ⟨q, k, rfl⟩ := (hs.rows encS_len).slice
  obtain ⟨q2, k2, rfl⟩ := (hc.rows encI_len).slice
  have E0 := (Ext.refl H).add (rowBlk 2 [.slice q d.1.length k, .slice q2 d.2.length k2])
  obtain ⟨r, G, c1, S1⟩ := spoilT_ok (hs.ext E0) hsz
  have n1 := S1.next
  simp at n1
  have hc1 : OwnZ encI 2 n0 G (.slice q2 d.2.length k2) d.2 := (hc.ext E0).frame (by simpa using n1) fun b _ hb hnb => S1.blk b hb (Classical.byContradiction fun hx => hnb (hsc b hx))
  have hcell : G.cell H.next 1 = some (.slice q2 d.2.length k2) := by
    have : G.blk H.next = some (rowBlk 2 [.slice q d.1.length k, .slice q2 d.2.length k2]) := by
      rw [S1.blk _ (by simp) ((hs.rows encS_len).far (Nat.le_refl _))]; simp
    simp only [Heap.cell, this]; rfl
  obtain ⟨r2, G2, c2, S2⟩ := spoilW_ok hc1
  have n2 := S2.next
  simp [c1, hcell, c2]
  refine ⟨by omega, fun b hb hf => ?_⟩
  obtain ⟨_, _, e, f1, f2⟩ := hf
  obtain ⟨rfl, rfl⟩ : Value.slice q d.1.length k = _ ∧ Value.slice q2 d.2.length k2 = _ := by simpa using e
  rw [S2.blk b (by omega) f2, S1.blk b (by simp; omega) f1, blk_add_old hb]
theorem copyP_ok (p : Pg) (t : Value) (H : Heap) (h : Strs H t p.text) (hl : (p.text.length + 2) * 16 ≤ 140737488355328) : wpf (call K f_law0_CopyPager [pgV p t] H) fun r H' => Ext H H' ∧ ∃ t', r = pgV p t' ∧ OwnZ encS 1 H.next H' t' p.text := by
  refine open_plain rfl fc_law0_CopyPager rfl (Nat.le_of_ble_eq_true rfl) ?_
  obtain ⟨q, k, rfl⟩ := h.slice
  obtain ⟨G0, hG0⟩ : ∃ G0, G0 = ((H.add (rowBlk 5 [.int .i64 p.hn, .int .i64 p.hs, .int .i64 p.next, .int .i64 p.used, .slice q p.text.length k])).add (rowBlk 5 [.int .i64 0, .int .i64 0, .int .i64 0, .int .i64 0, .slice none 0 0])).add (rowBlk 1 []) := ⟨_, rfl⟩
  have E0 : Ext H G0 := by subst hG0; exact (((Ext.refl H).add _).add _).add _
  have n0 : G0.next = H.next + 3 := by subst hG0; simp
  obtain ⟨v1, G1, c1, E1, o1, f1⟩ := empty_app (n0 := H.next) (b := H.next + 1 + 1) (h.ext E0) encS_len encS_one (bytes := 16) (by omega) (by omega) (by omega) (by omega)
  have e1 := E1.next
  have k0 : G0.cell H.next 4 = some (.slice q p.text.length k) := by subst hG0; simp
  have b0 : G1.blk H.next = some (rowBlk 5 [.int .i64 p.hn, .int .i64 p.hs, .int .i64 p.next, .int .i64 p.used, .slice q p.text.length k]) := by
    rw [E1.blk _ (by omega)]; subst hG0; simp [Heap.add]
  have b1 : G1.blk (H.next + 1) = some (rowBlk 5 [.int .i64 0, .int .i64 0, .int .i64 0, .int .i64 0, .slice none 0 0]) := by
    rw [E1.blk _ (by omega)]; subst hG0; simp [Heap.add]
  have q1 : G1.cell (H.next + 1) = (rowBlk 5 [.int .i64 0, .int .i64 0, .int .i64 0, .int .i64 0, .slice none 0 0]).at_ := by funext o; simp only [Heap.cell, b1]
  have q0 : G1.cell H.next = (rowBlk 5 [.int .i64 p.hn, .int .i64 p.hs, .int .i64 p.next, .int .i64 p.used, .slice q p.text.length k]).at_ := by funext o; simp only [Heap.cell, b0]
  obtain ⟨p1, m1, hv1⟩ := (o1.rows encS_len).slice
  rw [hv1] at c1
  simp [pgV, ← hG0, k0, c1, b0, b1, q0, q1]
  refine ⟨((E0.trans E1).set (Nat.le_refl _) _).set (by omega) _, ?_⟩
  rw [← hv1]
  exact (o1.frame (by simp) fun b _ hb hn => (blk_set_ne fun e => hn (by subst e; exact f1 _ (by omega) (by omega)))).frame (by simp) fun b _ hb hn => blk_set_ne fun e => hn (by subst e; exact f1 _ (by omega) (by omega))
end Go.AM
end TextR6Tr
