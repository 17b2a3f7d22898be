import Derived.Test.YtbgidagbogpfkaaR7CodeL
import Derived.Test.YtbgidagbogpfkaaR7Pw
import Derived.Test.YtbgidagbogpfkaaR7Faults
import Derived.Test.YtbgidagbogpfkaaR7S
/- The law ForestKept: true. -/
namespace Go.AM
open Go.Proofs
set_option linter.unusedVariables false
set_option linter.unusedSimpArgs false
set_option maxRecDepth 100000
attribute [-simp] ByteArray.size_eq_zero_iff
/-- What an act left, in a later memory, whether it was done or not. -/
theorem ret_all {H G' H' : Heap} {q : List Inf × Int} {r : Value} (h : Ret H q r H') (hE : Ext H' G') : ∃ u, r = .tuple #[u, .int .i64 q.2] ∧ (q.2 ≠ 0 → u = .slice none 0 0) ∧ (q.2 = 0 → ∃ s, infs s = q.1 ∧ Fo G' u s) := by
  obtain ⟨_, u, rfl, h1, h2⟩ := h
  refine ⟨u, rfl, h1, fun h0 => ?_⟩
  obtain ⟨s, h3, h4⟩ := h2 h0
  exact ⟨s, h3, (h4.ext hE).fo⟩
theorem infs_get {rs : List (Inf × Value)} {i : Nat} (hi : i < rs.length) : (infs rs)[i]? = some rs[i].1 := by simp [infs, List.getElem?_eq_getElem hi]
/-- One of the two acts. -/
def KOut (G : Heap) (rs : List (Inf × Value)) (name : ByteArray) (u : Value) (e : Int) : Prop := (e ≠ 0 → u = .slice none 0 0) ∧ (e = 0 → ∃ s, Fo G u s ∧ KeptS (infs rs) (infs s) name)
/-- A snapshot laid into a variable of its own. -/
theorem new_store5 (G : Heap) (x : Inf × Value) (h1 : x.2.oneCell' = true) : ∃ X, (G.add (rowBlk 5 [.string ⟨#[]⟩, .int .i64 0, .string ⟨#[]⟩, .string ⟨#[]⟩, .slice none 0 0])).store G.next 0 (encP x) = some X ∧ Ext G X ∧ X.row G.next 0 5 = some (encP x) ∧
    X.cell G.next 0 = some (.string x.1.name) ∧ X.cell G.next 1 = some (.int .i64 x.1.kind) ∧ X.cell G.next 2 = some (.string x.1.parent) ∧ X.cell G.next 3 = some (.string x.1.label) ∧ X.cell G.next 4 = some x.2 ∧ X.next = G.next + 1 := by
  refine ⟨(G.add (rowBlk 5 [.string ⟨#[]⟩, .int .i64 0, .string ⟨#[]⟩, .string ⟨#[]⟩, .slice none 0 0])).set G.next (some ((rowBlk 5 [.string ⟨#[]⟩, .int .i64 0, .string ⟨#[]⟩, .string ⟨#[]⟩, .slice none 0 0]).puts 0 (encP x))), ?_, ((Ext.refl G).add _).set (Nat.le_refl _) _, ?_, ?_, ?_, ?_, ?_, ?_, rfl⟩
  · simp [Heap.store, Heap.row, h1, rowBlk]
  · simp [Heap.row, Blk.puts, Blk.put, rowBlk]
  all_goals (rw [cell_set_self]; rfl)
attribute [-simp] Heap.store
theorem kept_law (v : Value) (rs : List (Inf × Value)) (name path content : ByteArray) (H : Heap) (hF : Fo H v rs) (hz : FoZ rs ∧ FoW rs ∧ FoC rs) (hs1 : name.size ≤ 140737488351232) (hs2 : path.size ≤ 140737488351232) :
    call K f_law19_ForestKept [v, .string name, .string path, .string content] H = some (.bool true, H) := by
  refine of_wpf (open_pure rfl fc_law19_ForestKept rfl (Nat.le_of_ble_eq_true rfl) ?_)
  have ha := awake_ok H.roAll
  have hF := hF.roAll
  generalize H.roAll = G0 at *
  obtain ⟨r1, G1, c1, R1⟩ := write_ok v rs name path content G0 hF hz.1 hz.2.1 (by omega) (by omega)
  obtain ⟨r2, G2, c2, R2⟩ := delete_ok v rs name path G1 (hF.ext R1.1) hz.1 hz.2.1 (by omega) (by omega)
  obtain ⟨u1, rfl, n1, o1⟩ := ret_all (G' := G2) R1 R2.1
  obtain ⟨u2, rfl, n2, o2⟩ := ret_all R2 (Ext.refl G2)
  have K1 : KOut G2 rs name u1 (writeS (infs rs) name path content).2 := ⟨n1, fun h => by obtain ⟨s, h1, h2⟩ := o1 h; exact ⟨s, h2, by rw [h1]; exact write_kept h⟩⟩
  have K2 : KOut G2 rs name u2 (deleteS (infs rs) name path).2 := ⟨n2, fun h => by obtain ⟨s, h1, h2⟩ := o2 h; exact ⟨s, h2, by rw [h1]; exact delete_kept h⟩⟩
  have hF2 := (hF.ext R1.1).ext R2.1
  obtain ⟨pu1, lu1, cu1, rfl⟩ : ∃ p n c, u1 = .slice p n c := by
    by_cases h : (writeS (infs rs) name path content).2 = 0
    · obtain ⟨s, h1, _⟩ := K1.2 h
      obtain ⟨p, c, h2⟩ := h1.rows.slice
      exact ⟨p, _, c, h2⟩
    · exact ⟨_, _, _, K1.1 h⟩
  obtain ⟨pu2, lu2, cu2, rfl⟩ : ∃ p n c, u2 = .slice p n c := by
    by_cases h : (deleteS (infs rs) name path).2 = 0
    · obtain ⟨s, h1, _⟩ := K2.2 h
      obtain ⟨p, c, h2⟩ := h1.rows.slice
      exact ⟨p, _, c, h2⟩
    · exact ⟨_, _, _, K2.1 h⟩
  clear R1 R2 n1 n2 o1 o2
  generalize (writeS (infs rs) name path content).2 = e1 at *
  generalize (deleteS (infs rs) name path).2 = e2 at *
  obtain ⟨G4, hG4⟩ : ∃ G4, G4 = (G2.add (rowBlk 1 [.slice pu1 lu1 cu1, .slice pu2 lu2 cu2])).add (rowBlk 1 [.bool (decide (e1 = 0)), .bool (decide (e2 = 0))]) := ⟨_, rfl⟩
  have E4 : Ext G2 G4 := by rw [hG4]; exact ((Ext.refl G2).add _).add _
  have cell : ∀ k : Nat, k < 2 → ∃ u e, KOut G2 rs name u e ∧ G4.cell G2.next k = some u ∧ G4.cell (G2.next + 1) k = some (.bool (decide (e = 0))) := by
    intro k hk
    match k, hk with
    | 0, _ => exact ⟨_, e1, K1, by rw [hG4, cell_add_old (by simp)]; simp, by rw [hG4]; rw [show G2.next + 1 = (G2.add (rowBlk 1 [.slice pu1 lu1 cu1, .slice pu2 lu2 cu2])).next from rfl, cell_add_new]; rfl⟩
    | 1, _ => exact ⟨_, e2, K2, by rw [hG4, cell_add_old (by simp)]; simp, by rw [hG4]; rw [show G2.next + 1 = (G2.add (rowBlk 1 [.slice pu1 lu1 cu1, .slice pu2 lu2 cu2])).next from rfl, cell_add_new]; rfl⟩
  simp [ha, c1, c2]
  rw [← hG4]
  refine wp_nxt (wp_for (fun d e G => ∃ k : Nat, d = 2 - k ∧ k ≤ 2 ∧ Ext G4 G ∧ e 0 = v ∧ e 1 = .string name ∧ e 13 = .slice (some ⟨G2.next, 0, none⟩) 2 5 ∧ e 14 = .slice (some ⟨G2.next + 1, 0, none⟩) 2 5 ∧ e 15 = .int .i64 (k : Int)) 2 ⟨0, by simp [Ext.refl]⟩ ?_)
  rintro d e G ⟨k, rfl, hk, hE, k0, k1, k13, k14, k15⟩
  by_cases hlt : k < 2
  · obtain ⟨u, er, KO, q1, q2⟩ := cell k hlt
    have b1 : G2.next < G4.next := by rw [hG4]; simp; omega
    have b2 : G2.next + 1 < G4.next := by rw [hG4]; simp
    have q0 := q1
    rw [← hE.cell b1] at q1
    rw [← hE.cell b2] at q2
    have hi2 : ((k : Int) < 2) := by omega
    have w1 := wrap_succ (i := k) (by omega)
    by_cases he : er = 0
    · obtain ⟨s, hs, hl, hkept⟩ := KO.2 he
      obtain ⟨ps, cs, rfl⟩ := hs.rows.slice
      obtain ⟨pr, cr, hv⟩ := hF2.rows.slice
      have hll : s.length = rs.length := by simpa using hl
      simp [c_law19_ForestKept_l22, k0, k1, k13, k14, k15, hi2, hlt, q1, q2, he, hv, hll]
      have hbnd : rs.length ≤ 140737488355328 := hz.1.len
      rw [hv] at hF2
      rw [hll] at hs
      refine wp_nxt (wp_unblock (wp_for (fun d e G => ∃ i : Nat, d = rs.length - i ∧ i ≤ rs.length ∧ Ext G4 G ∧ e 0 = .slice pr rs.length cr ∧ e 1 = .string name ∧ e 13 = .slice (some ⟨G2.next, 0, none⟩) 2 5 ∧ e 14 = .slice (some ⟨G2.next + 1, 0, none⟩) 2 5 ∧ e 15 = .int .i64 (k : Int) ∧ e 16 = .int .i64 (i : Int)) rs.length ⟨0, by simp [k0, k1, k13, k14, k15, hE, hv]⟩ ?_))
      clear k0 k1 k13 k14 k15 q1
      rintro d e G ⟨i, rfl, hi, hE, k0, k1, k13, k14, k15, k16⟩
      by_cases hil : i < rs.length
      · have q1 : G.cell G2.next k = some (.slice ps rs.length cs) := by rw [hE.cell b1, ← hll]; exact q0
        have hfs := hs.ext (E4.trans hE)
        have hfr := hF2.ext (E4.trans hE)
        have hils : i < s.length := by omega
        obtain ⟨X, x1, EX, x2, x3, x4, x5, x6, x7, xn⟩ := new_store5 G s[i] (hfs.one _ (List.getElem_mem hils))
        obtain ⟨bs, os, hps, hbs, m0⟩ := hfs.rows.row encP_len hils
        obtain ⟨br, orr, hpr, hbr, m1⟩ := hfr.rows.row encP_len hil
        obtain ⟨_, _, hpr2, _, t0, t1, t2, t3, t4⟩ := hfr.rows.at5 hil
        rw [hpr] at hpr2
        cases hpr2
        subst hps hpr
        have kept := hkept i _ _ (infs_get hil) (infs_get hils)
        have same : s[i].1 = rs[i].1 → call K f_law0_SameInfo [.agg (encP s[i]).toArray, .agg (encP rs[i]).toArray] X = some (.bool true, X) := fun he => by
          have := sameInfo_ok s[i] rs[i] X ((hfs.fils _ (List.getElem_mem hils)).ext EX) ((hfr.fils _ (List.getElem_mem hil)).ext EX) (by rw [he]; exact (hz.1.inf _ (List.getElem_mem hil)).2)
          rw [he] at this; simpa using this
        rw [← EX.cell hbr] at t0 t1 t2 t3 t4
        have m1' := m1
        rw [← EX.row hbr] at m1'
        have wi := wrap_succ (i := i) (by omega)
        simp at t0 t1 t2 t3 t4
        generalize s[i] = x at *
        generalize rs[i] = y at *
        obtain ⟨⟨xn0, xk, xp, xl, xf⟩, xv⟩ := x
        obtain ⟨⟨yn0, yk, yp, yl, yf⟩, yv⟩ := y
        obtain ⟨kp1, kp2, kp3, kp4, kp5⟩ := kept
        simp only at kp1 kp2 kp3 kp4 kp5 x3 x4 x5 x6 x7 same
        subst kp2 kp3 kp4
        by_cases hnm : xn0 = name
        · by_cases hk2 : xk = 2
          · have := same (kp5 hk2)
            subst hnm hk2
            simp [-Heap.row, c_law19_ForestKept_l20, k0, k1, k13, k14, k15, k16, hlt, hil, q1, m0, m1, x1, x2, x3, x4, x5, t0, t1, t2, m1', this]
            exact ⟨rs.length - (i + 1), by omega, i + 1, rfl, by omega, hE.trans EX, wi⟩
          · subst hnm
            simp [-Heap.row, c_law19_ForestKept_l20, k0, k1, k13, k14, k15, k16, hlt, hil, q1, m0, m1, x1, x2, x3, x4, x5, t0, t1, t2, m1', hk2]
            exact ⟨rs.length - (i + 1), by omega, i + 1, rfl, by omega, hE.trans EX, wi⟩
        · have := same (kp1 hnm)
          by_cases hk2 : xk = 2
          · subst hk2
            simp [-Heap.row, c_law19_ForestKept_l20, k0, k1, k13, k14, k15, k16, hlt, hil, q1, m0, m1, x1, x2, x3, x4, x5, t0, t1, t2, m1', hnm, this]
            exact ⟨rs.length - (i + 1), by omega, i + 1, rfl, by omega, hE.trans EX, wi⟩
          · simp [-Heap.row, c_law19_ForestKept_l20, k0, k1, k13, k14, k15, k16, hlt, hil, q1, m0, m1, x1, x2, x3, x4, x5, t0, t1, t2, m1', hnm, hk2, this]
            exact ⟨rs.length - (i + 1), by omega, i + 1, rfl, by omega, hE.trans EX, wi⟩
      · have : i = rs.length := by omega
        subst this
        simp [c_law19_ForestKept_l20, k0, k1, k13, k14, k15, k16]
        exact ⟨2 - (k + 1), by omega, k + 1, rfl, by omega, hE, w1⟩
    · have hu := KO.1 he
      subst hu
      simp [c_law19_ForestKept_l22, k0, k1, k13, k14, k15, hi2, hlt, q1, q2, he]
      exact ⟨2 - (k + 1), by omega, k + 1, rfl, by omega, hE, w1⟩
  · have : k = 2 := by omega
    subst this
    simp [c_law19_ForestKept_l22, k15]
end Go.AM
