import Derived.Test.YtiiliffoclejlaaR6J3
import Derived.Test.YtiiliffoclejlaaR6J4
section TextR6Oa
/- Contracts: pages at home, sectors of the log. -/
namespace Go.AM
open Go.Proofs
set_option linter.unusedVariables false
set_option linter.unusedSimpArgs false
set_option maxRecDepth 100000
attribute [-simp] ByteArray.size_eq_zero_iff
theorem ohome_ok (pg j : Nat) (hp : pg < 48) (hj : j < 4) (H : Heap) : call K f_open_Home [.int .i64 (pg : Int), .int .i64 (j : Int)] H = some (.int .i64 ((202 + 4 * pg + j : Nat) : Int), H) := by
  refine of_wpf (open_pure rfl fc_open_Home rfl (Nat.le_of_ble_eq_true rfl) ?_)
  have w1 : IntKind.i64.wrap (4 * (pg : Int)) = 4 * (pg : Int) := wrap_i64 (by omega) (by omega)
  have w2 : IntKind.i64.wrap (202 + 4 * (pg : Int)) = 202 + 4 * (pg : Int) := wrap_i64 (by omega) (by omega)
  have w3 : IntKind.i64.wrap (202 + 4 * (pg : Int) + j) = 202 + 4 * (pg : Int) + j := wrap_i64 (by omega) (by omega)
  simp [w1, w2, w3]
theorem rhome_ok (pg j : Nat) (hp : pg < 48) (hj : j < 4) (H : Heap) : call K f_ref1_home [.int .i64 (pg : Int), .int .i64 (j : Int)] H = some (.int .i64 ((202 + 4 * pg + j : Nat) : Int), H) := by
  refine of_wpf (open_pure rfl fc_ref1_home rfl (Nat.le_of_ble_eq_true rfl) ?_)
  have w1 : IntKind.i64.wrap (4 * (pg : Int)) = 4 * (pg : Int) := wrap_i64 (by omega) (by omega)
  have w2 : IntKind.i64.wrap (202 + 4 * (pg : Int)) = 202 + 4 * (pg : Int) := wrap_i64 (by omega) (by omega)
  have w3 : IntKind.i64.wrap (202 + 4 * (pg : Int) + j) = 202 + 4 * (pg : Int) + j := wrap_i64 (by omega) (by omega)
  simp [w1, w2, w3]
theorem rd_look {d : Dk} (hd : dOk d = true) {a : Nat} (h : a < 394) : rdD d (a : Int) = lookD d (a : Int) ∧ rdE d (a : Int) = 0 := by
  have : rdOk d (a : Int) = true := by simp [rdOk, hd]; omega
  rw [rdD, rdE, if_pos this, if_pos this]
  exact ⟨rfl, rfl⟩
theorem whole_ok (s c : Value) (d : Dk) (a : Nat) (H : Heap) (hs : Strs H s d.1) (hc : Imgs H c d.2) (hd : dOk d = true) (ha : a < 394) : call K f_open_whole [.agg #[s, c], .int .i64 (a : Int)] H = some (.string (getP (lookD d (a : Int))), H) := by
  refine of_wpf (open_pure rfl fc_open_whole rfl (Nat.le_of_ble_eq_true rfl) ?_)
  have c1 := fun X => read_ok s c d (a : Int) (H.roAll.add X) (hs.roAll.ext ((Ext.refl _).add X)) (hc.roAll.ext ((Ext.refl _).add X))
  rw [(rd_look hd ha).1, (rd_look hd ha).2] at c1
  obtain ⟨p, k, rfl⟩ := hs.slice
  obtain ⟨q, m, rfl⟩ := hc.slice
  simp [c1]
/-- the record that a page's part has at home -/
def hRec (V : Nat → ByteArray) (pg j : Nat) : Int × Int × Int × ByteArray × Int := getR (getP (V (202 + 4 * pg + j)))
def hOk (V : Nat → ByteArray) (pg j : Nat) : Prop := (hRec V pg j).2.2.2.2 = 0 ∧ (hRec V pg j).1 = 1 ∧ (hRec V pg j).2.1 = pg ∧ (hRec V pg j).2.2.1 = j
instance (V : Nat → ByteArray) (pg j : Nat) : Decidable (hOk V pg j) := by unfold hOk; infer_instance
def hAcc (V : Nat → ByteArray) (pg : Nat) : Nat → ByteArray
  | 0 => ⟨#[]⟩
  | j + 1 => hAcc V pg j ++ (hRec V pg j).2.2.2.1
open Classical in
noncomputable def homeT (V : Nat → ByteArray) (pg : Nat) : ByteArray := if ∀ j, j < 4 → hOk V pg j then hAcc V pg 4 else ⟨#[]⟩
/-- what stands in a sector -/
def vw (d : Dk) (i : Nat) : ByteArray := lookD d (i : Int)
theorem hRec_size (V : Nat → ByteArray) (pg j : Nat) : (hRec V pg j).2.2.2.1.size ≤ 24 := by
  by_cases h : (hRec V pg j).2.2.2.2 = 0
  · exact RMay_size (getR_may h)
  · unfold hRec getR at h ⊢
    split
    · rename_i h2; rw [if_pos h2] at h; exact absurd rfl h
    · exact Nat.zero_le _
theorem hAcc_size (V : Nat → ByteArray) (pg : Nat) : ∀ j, (hAcc V pg j).size ≤ 24 * j
  | 0 => Nat.le_refl 0
  | j + 1 => by
    have := hAcc_size V pg j; have := hRec_size V pg j
    rw [hAcc, size_append]; omega
theorem homeT_size (V : Nat → ByteArray) (pg : Nat) : (homeT V pg).size ≤ 96 := by
  unfold homeT; split
  · exact hAcc_size V pg 4
  · exact Nat.zero_le _
theorem ohomeT_ok (s c : Value) (d : Dk) (pg : Nat) (H : Heap) (hs : Strs H s d.1) (hc : Imgs H c d.2) (hd : dOk d = true) (hp : pg < 48) : call K f_open_home [.agg #[s, c], .int .i64 (pg : Int)] H = some (.string (homeT (vw d) pg), H) := by
  refine of_wpf (open_pure rfl fc_open_home rfl (Nat.le_of_ble_eq_true rfl) ?_)
  obtain ⟨p, k, rfl⟩ := hs.slice
  obtain ⟨q, m, rfl⟩ := hc.slice
  obtain ⟨G0, hG0⟩ : ∃ G0, G0 = H.roAll.add (rowBlk 2 [.slice p d.1.length k, .slice q d.2.length m]) := ⟨_, rfl⟩
  have E0 : Ext H.roAll G0 := by subst hG0; exact (Ext.refl _).add _
  have b0 : G0.blk H.next = some (rowBlk 2 [.slice p d.1.length k, .slice q d.2.length m]) := by subst hG0; simp
  have n0 : G0.next = H.next + 1 := by subst hG0; simp
  simp [← hG0]
  refine wp_nxt (wp_for (fun dd e G => ∃ i : Nat, dd = 4 - i ∧ i ≤ 4 ∧ Ext G0 G ∧ e 1 = .int .i64 (pg : Int) ∧ e 2 = .pointer (some ⟨H.next, 0, none⟩) ∧ e 9 = .int .i64 (i : Int) ∧ e 5 = .string (hAcc (vw d) pg i) ∧ ∀ j, j < i → hOk (vw d) pg j) 4 ⟨0, by simp, by simp, Ext.refl _, by simp, by simp, by simp, by simp [hAcc], by simp⟩ ?_)
  rintro dd e G ⟨i, rfl, hi, hE, h1, h2, h9, h5, hall⟩
  by_cases hlt : i < 4
  · have w1 : (i : Int) < 4 := by omega
    have c0 := ohome_ok pg i hp hlt
    obtain ⟨a, ha⟩ : ∃ a, a = 202 + 4 * pg + i := ⟨_, rfl⟩
    rw [← ha] at c0
    have c1 : ∀ X, call K f_open_whole [.agg #[.slice p d.1.length k, .slice q d.2.length m], .int .i64 (a : Int)] (G.add X) = some (.string (getP (vw d a)), G.add X) := fun X => whole_ok _ _ d _ (G.add X) ((hs.roAll.ext E0).ext (hE.add X)) ((hc.roAll.ext E0).ext (hE.add X)) hd (by omega)
    have c2 : ∀ H, call K f_record_Get [.string (getP (vw d a))] H = some (.tuple #[.agg #[.int .i64 (hRec (vw d) pg i).1, .int .i64 (hRec (vw d) pg i).2.1, .int .i64 (hRec (vw d) pg i).2.2.1, .string (hRec (vw d) pg i).2.2.2.1], .int .i64 (hRec (vw d) pg i).2.2.2.2], H) := fun H => by rw [ha]; exact get_ok _ _
    have hz1 := hRec_size (vw d) pg i
    have hz2 := hAcc_size (vw d) pg i
    have e1 : binV K.P .add tyStr (.string (hAcc (vw d) pg i)) (.string (hRec (vw d) pg i).2.2.2.1) = some (.string (hAcc (vw d) pg (i + 1))) := binV_sadd _ _ _ _ (by omega)
    have hiff : hOk (vw d) pg i ↔ (hRec (vw d) pg i).2.2.2.2 = 0 ∧ (hRec (vw d) pg i).1 = 1 ∧ (hRec (vw d) pg i).2.1 = pg ∧ (hRec (vw d) pg i).2.2.1 = i := Iff.rfl
    have bb : G.blk H.next = some (rowBlk 2 [.slice p d.1.length k, .slice q d.2.length m]) := by rw [hE.blk _ (by omega), b0]
    have cb : G.cell H.next = (rowBlk 2 [.slice p d.1.length k, .slice q d.2.length m]).at_ := by funext o; simp only [Heap.cell, bb]
    have x1 : ¬ H.next = G.next := by have := hE.next; omega
    have x2 : ¬ G.next = H.next := by have := hE.next; omega
    generalize hRec (vw d) pg i = r at c2 e1 hiff
    obtain ⟨r1, r2, r3, r4, r5⟩ := r
    simp only at c2 e1 hiff
    have hE' : ∀ X f, Ext G0 ((G.add X).set G.next f) := fun X f => (hE.add X).set hE.next f
    have hno : ¬ hOk (vw d) pg i → homeT (vw d) pg = ⟨#[]⟩ := fun h => if_neg fun hh => h (hh i hlt)
    by_cases k1 : r5 = 0
    · by_cases k2 : r1 = 1
      · by_cases k3 : r2 = (pg : Int)
        · by_cases k4 : r3 = (i : Int)
          · have hok := hiff.2 ⟨k1, k2, k3, k4⟩
            simp [c_open_home_l10, h1, h2, h9, h5, w1, run_regd_tr, finD_some, Chk, wanted, cb, c0, c1, c2, k1, k2, k3, k4, x1, x2, e1]
            refine ⟨4 - (i + 1), by omega, i + 1, rfl, hlt, hE' _ _, wrap_succ (by omega), rfl, fun j hj => ?_⟩
            rcases Nat.lt_or_ge j i with hji | hji
            · exact hall j hji
            · rw [show j = i by omega]; exact hok
          · have hh := hno fun h => k4 (hiff.1 h).2.2.2
            simp [c_open_home_l10, h1, h2, h9, h5, w1, run_regd_tr, finD_some, Chk, wanted, cb, c0, c1, c2, k1, k2, k3, k4, x1, x2, hh]
        · have hh := hno fun h => k3 (hiff.1 h).2.2.1
          simp [c_open_home_l10, h1, h2, h9, h5, w1, run_regd_tr, finD_some, Chk, wanted, cb, c0, c1, c2, k1, k2, k3, x1, x2, hh]
      · have hh := hno fun h => k2 (hiff.1 h).2.1
        simp [c_open_home_l10, h1, h2, h9, h5, w1, run_regd_tr, finD_some, Chk, wanted, cb, c0, c1, c2, k1, k2, x1, x2, hh]
    · have hh := hno fun h => k1 (hiff.1 h).1
      simp [c_open_home_l10, h1, h2, h9, h5, w1, run_regd_tr, finD_some, Chk, wanted, cb, c0, c1, c2, k1, x1, x2, hh]
  · obtain rfl : i = 4 := by omega
    have hh : homeT (vw d) pg = hAcc (vw d) pg 4 := if_pos hall
    simp [c_open_home_l10, h9, h5, hh]
theorem rhomeT_ok (s c : Value) (d : Dk) (pg : Nat) (H : Heap) (hs : Strs H s d.1) (hc : Imgs H c d.2) (hd : dOk d = true) (hp : pg < 48) : call K f_ref1_homeText [.agg #[s, c], .int .i64 (pg : Int)] H = some (.string (homeT (vw d) pg), H) := by
  refine of_wpf (open_pure rfl fc_ref1_homeText rfl (Nat.le_of_ble_eq_true rfl) ?_)
  have hl : d.1.length = 394 := by simp only [dOk, Bool.and_eq_true, decide_eq_true_eq] at hd; omega
  obtain ⟨p, k, rfl⟩ := hs.slice
  obtain ⟨q, m, rfl⟩ := hc.slice
  obtain ⟨G0, hG0⟩ : ∃ G0, G0 = H.roAll.add (rowBlk 2 [.slice p d.1.length k, .slice q d.2.length m]) := ⟨_, rfl⟩
  have E0 : Ext H.roAll G0 := by subst hG0; exact (Ext.refl _).add _
  have b0 : G0.blk H.next = some (rowBlk 2 [.slice p d.1.length k, .slice q d.2.length m]) := by subst hG0; simp
  have n0 : G0.next = H.next + 1 := by subst hG0; simp
  simp [← hG0]
  refine wp_nxt (wp_for (fun dd e G => ∃ i : Nat, dd = 4 - i ∧ i ≤ 4 ∧ Ext G0 G ∧ e 1 = .int .i64 (pg : Int) ∧ e 2 = .pointer (some ⟨H.next, 0, none⟩) ∧ e 6 = .int .i64 (i : Int) ∧ e 5 = .string (hAcc (vw d) pg i) ∧ ∀ j, j < i → hOk (vw d) pg j) 4 ⟨0, by simp, by simp, Ext.refl _, by simp, by simp, by simp, by simp [hAcc], by simp⟩ ?_)
  rintro dd e G ⟨i, rfl, hi, hE, h1, h2, h9, h5, hall⟩
  by_cases hlt : i < 4
  · have w1 : (i : Int) < 4 := by omega
    have c0 := rhome_ok pg i hp hlt
    obtain ⟨a, ha⟩ : ∃ a, a = 202 + 4 * pg + i := ⟨_, rfl⟩
    rw [← ha] at c0
    have c1 : call K f_ref1_read [.agg #[.slice p d.1.length k, .slice q d.2.length m], .int .i64 (a : Int)] G = some (.string (vw d a), G) := rlook_ok _ _ d _ G ((hs.roAll.ext E0).ext hE) ((hc.roAll.ext E0).ext hE) ⟨by omega, by omega⟩
    have c2 : ∀ H, call K f_ref1_GetRecord [.string (getP (vw d a))] H = some (.tuple #[.agg #[.int .i64 (hRec (vw d) pg i).1, .int .i64 (hRec (vw d) pg i).2.1, .int .i64 (hRec (vw d) pg i).2.2.1, .string (hRec (vw d) pg i).2.2.2.1], .int .i64 (hRec (vw d) pg i).2.2.2.2], H) := fun H => by rw [ha]; exact rget_ok _ _
    have hz1 := hRec_size (vw d) pg i
    have hz2 := hAcc_size (vw d) pg i
    have e1 : binV K.P .add tyStr (.string (hAcc (vw d) pg i)) (.string (hRec (vw d) pg i).2.2.2.1) = some (.string (hAcc (vw d) pg (i + 1))) := binV_sadd _ _ _ _ (by omega)
    have hiff : hOk (vw d) pg i ↔ (hRec (vw d) pg i).2.2.2.2 = 0 ∧ (hRec (vw d) pg i).1 = 1 ∧ (hRec (vw d) pg i).2.1 = pg ∧ (hRec (vw d) pg i).2.2.1 = i := Iff.rfl
    have bb : G.blk H.next = some (rowBlk 2 [.slice p d.1.length k, .slice q d.2.length m]) := by rw [hE.blk _ (by omega), b0]
    have cb : G.cell H.next = (rowBlk 2 [.slice p d.1.length k, .slice q d.2.length m]).at_ := by funext o; simp only [Heap.cell, bb]
    have x1 : ¬ H.next = G.next := by have := hE.next; omega
    have x2 : ¬ G.next = H.next := by have := hE.next; omega
    generalize hRec (vw d) pg i = r at c2 e1 hiff
    obtain ⟨r1, r2, r3, r4, r5⟩ := r
    simp only at c2 e1 hiff
    have hE' : ∀ X f, Ext G0 ((G.add X).set G.next f) := fun X f => (hE.add X).set hE.next f
    have hno : ¬ hOk (vw d) pg i → homeT (vw d) pg = ⟨#[]⟩ := fun h => if_neg fun hh => h (hh i hlt)
    by_cases k1 : r5 = 0
    · by_cases k2 : r1 = 1
      · by_cases k3 : r2 = (pg : Int)
        · by_cases k4 : r3 = (i : Int)
          · have hok := hiff.2 ⟨k1, k2, k3, k4⟩
            simp [c_ref1_homeText_l10, h1, h2, h9, h5, w1, run_regd_tr, finD_some, Chk, wanted, cb, c0, c1, c2, k1, k2, k3, k4, x1, x2, e1]
            refine ⟨4 - (i + 1), by omega, i + 1, rfl, hlt, hE' _ _, wrap_succ (by omega), rfl, fun j hj => ?_⟩
            rcases Nat.lt_or_ge j i with hji | hji
            · exact hall j hji
            · rw [show j = i by omega]; exact hok
          · have hh := hno fun h => k4 (hiff.1 h).2.2.2
            simp [c_ref1_homeText_l10, h1, h2, h9, h5, w1, run_regd_tr, finD_some, Chk, wanted, cb, c0, c1, c2, k1, k2, k3, k4, x1, x2, hh]
        · have hh := hno fun h => k3 (hiff.1 h).2.2.1
          simp [c_ref1_homeText_l10, h1, h2, h9, h5, w1, run_regd_tr, finD_some, Chk, wanted, cb, c0, c1, c2, k1, k2, k3, x1, x2, hh]
      · have hh := hno fun h => k2 (hiff.1 h).2.1
        simp [c_ref1_homeText_l10, h1, h2, h9, h5, w1, run_regd_tr, finD_some, Chk, wanted, cb, c0, c1, c2, k1, k2, x1, x2, hh]
    · have hh := hno fun h => k1 (hiff.1 h).1
      simp [c_ref1_homeText_l10, h1, h2, h9, h5, w1, run_regd_tr, finD_some, Chk, wanted, cb, c0, c1, c2, k1, x1, x2, hh]
  · obtain rfl : i = 4 := by omega
    have hh : homeT (vw d) pg = hAcc (vw d) pg 4 := if_pos hall
    simp [c_ref1_homeText_l10, h9, h5, hh]
end Go.AM
end TextR6Oa
section TextR6Ob
/- Opened pagers: what they are; plain laws of what is scanned. -/
namespace Go.AM
open Go.Proofs
set_option linter.unusedVariables false
set_option linter.unusedSimpArgs false
set_option maxRecDepth 100000
attribute [-simp] ByteArray.size_eq_zero_iff
def iOk (x : Img) : Prop := (0 ≤ x.1 ∧ x.1 < 48) ∧ x.2.size ≤ 96
structure Sc96 (S : Sc) : Prop where
  part : S.part < 4
  pg : ∀ x ∈ S.opn, iOk x
  last : S.part ≠ 0 → ∀ x, S.opn.getLast? = some x → x.2.size ≤ 24 * S.part
  done : ∀ is ∈ S.done, ∀ x ∈ is, iOk x
theorem Sc96.take {S S' : Sc} {i : Nat} {r : Rec} (h : Sc96 S) (hr : 0 ≤ r.2.2.1 ∧ r.2.2.1 ≤ 4) (hm : r.2.2.1 ≠ 4 → 0 ≤ r.2.1 ∧ r.2.1 < 48) (hd : r.2.2.2.size ≤ 24) (ht : takeS S r i = some S') : Sc96 S' := by
  obtain ⟨q, pg, t, d⟩ := r
  simp only at hr hd hm
  have h4 := h.part
  unfold takeS at ht
  split at ht
  · split at ht
    · cases ht
      refine ⟨h.part, by simp [commitS], fun _ x hx => by simp [commitS] at hx, fun is his => ?_⟩
      simp only [commitS, List.mem_append, List.mem_singleton] at his
      rcases his with his | rfl
      · exact h.done is his
      · exact h.pg
    · cases ht
  · split at ht
    · cases ht
    · rename_i hn4 hpt
      have ep : t = (S.part : Int) := Classical.not_not.1 hpt
      have hpg := hm hn4
      have put : ∀ (ini : List Img) (x : Img), (∀ y ∈ ini, iOk y) → x.2.size ≤ 24 * S.part → Sc96 (putS S ini x (q, pg, t, d)) := fun ini x hb hc => by
        have hz : (x.2 ++ d).size ≤ 24 * S.part + 24 := by rw [size_append]; omega
        refine ⟨by simp only [putS]; omega, fun y hy => ?_, fun hp y hy => ?_, by simp only [putS]; exact h.done⟩
        · simp only [putS, List.mem_append, List.mem_singleton] at hy
          rcases hy with hy | rfl
          · exact hb y hy
          · exact ⟨hpg, by simp only; omega⟩
        · simp only [putS, List.getLast?_append, List.getLast?_singleton, Option.some_or, Option.some.injEq] at hy hp
          subst hy
          simp only [putS]
          omega
      split at ht
      · split at ht
        · cases ht; exact put _ _ h.pg (Nat.zero_le _)
        · cases ht
      · rename_i x hx
        split at ht
        · split at ht
          · cases ht
          · cases ht; exact put _ _ h.pg (Nat.zero_le _)
        · split at ht
          · cases ht
          · cases ht
            rename_i h0 _
            exact put _ _ (fun y hy => h.pg y (List.dropLast_subset _ hy)) (h.last (fun hh => h0 (by rw [ep, hh]; rfl)) x hx)
theorem scanGo_96 {seq : Int} : ∀ (ts : List ByteArray) (S : Sc) (i : Nat), Sc96 S → Sc96 (scanGo seq S i ts)
  | [], S, i, h => h
  | t :: ts, S, i, h => by
    rw [scanGo]
    split
    · rename_i hh
      have hm := getR_may hh.1
      cases hk : takeS S ((getR t).1, (getR t).2.1, (getR t).2.2.1, (getR t).2.2.2.1) i with
      | none => exact h
      | some S' =>
        refine scanGo_96 ts S' (i + 1) (h.take ?_ ?_ ?_ hk)
        · rcases hm.2 with hm | hm <;> simp only <;> omega
        · intro h4
          rcases hm.2 with hm | hm
          · exact absurd hm.1 h4
          · exact ⟨hm.2.2.1, hm.2.2.2.1⟩
        · exact RMay_size hm
    · exact h
theorem scTxns_ok (rs : List ByteArray) (seq : Int) : ∀ is ∈ scTxns rs seq, ∀ x ∈ is, iOk x := by
  unfold scTxns
  split
  · exact (scanGo_96 rs sc0 0 ⟨by decide, fun x hx => by simp [sc0] at hx, fun h => absurd rfl h, fun x hx => by simp [sc0] at hx⟩).done
  · intro is h; cases h
theorem scanGo_used {seq : Int} : ∀ (ts : List ByteArray) (S : Sc) (i : Nat), S.used ≤ i → (scanGo seq S i ts).used ≤ i + ts.length
  | [], S, i, h => by rw [scanGo]; simpa using h
  | t :: ts, S, i, h => by
    rw [scanGo]
    split
    · cases hk : takeS S ((getR t).1, (getR t).2.1, (getR t).2.2.1, (getR t).2.2.2.1) i with
      | none => simp only [List.length_cons]; omega
      | some S' =>
        have h' : S'.used ≤ i + 1 := by
          revert hk
          unfold takeS
          intro hk
          repeat' split at hk
          all_goals first | (cases hk; done) | (cases hk; simp [commitS, putS]; try omega)
        have := scanGo_used (seq := seq) ts S' (i + 1) h'
        show (scanGo seq S' (i + 1) ts).used ≤ _
        simp only [List.length_cons]; omega
    · simp only [List.length_cons]; omega
/-- pagers -/
structure Pg where
  hn : Int
  hs : Int
  next : Int
  used : Int
  text : List ByteArray
def pgO : Pg := ⟨0, 0, 0, 0, []⟩
def pgV (p : Pg) (t : Value) : Value := .agg #[.int .i64 p.hn, .int .i64 p.hs, .int .i64 p.next, .int .i64 p.used, t]
def applyI (ts : List ByteArray) (is : List Img) : List ByteArray := is.foldl (fun t x => t.set x.1.toNat x.2) ts
def applyT (ts : List ByteArray) (tx : List (List Img)) : List ByteArray := tx.foldl applyI ts
theorem applyI_len (is : List Img) : ∀ ts, (applyI ts is).length = ts.length := by
  induction is with
  | nil => intro ts; rfl
  | cons x is ih => intro ts; rw [applyI, List.foldl_cons]; exact (ih _).trans (by simp)
theorem applyT_len (tx : List (List Img)) : ∀ ts, (applyT ts tx).length = ts.length := by
  induction tx with
  | nil => intro ts; rfl
  | cons x is ih => intro ts; rw [applyT, List.foldl_cons]; exact (ih _).trans (applyI_len _ _)
theorem applyI_take (ts : List ByteArray) (is : List Img) {i : Nat} (h : i < is.length) : applyI ts (is.take (i + 1)) = (applyI ts (is.take i)).set is[i].1.toNat is[i].2 := by
  rw [applyI, List.take_succ_eq_append_getElem h, List.foldl_append]; rfl
theorem applyT_take (ts : List ByteArray) (tx : List (List Img)) {i : Nat} (h : i < tx.length) : applyT ts (tx.take (i + 1)) = applyI (applyT ts (tx.take i)) tx[i] := by
  rw [applyT, List.take_succ_eq_append_getElem h, List.foldl_append]; rfl
noncomputable def homes (V : Nat → ByteArray) : List ByteArray := (List.range 48).map (homeT V)
def logL (V : Nat → ByteArray) : List ByteArray := (List.range 200).map fun i => getP (V (2 + i))
/-- what a disk's view is opened as, with a head -/
noncomputable def openH (V : Nat → ByteArray) (n s : Int) : Pg := ⟨n, s, scNext (logL V) s, scUsed (logL V) s, applyT (homes V) (scTxns (logL V) s)⟩
noncomputable def openV (V : Nat → ByteArray) : Pg × Int := if (bestH (V 0) (V 1)).2.2 = 0 then (openH V (bestH (V 0) (V 1)).1 (bestH (V 0) (V 1)).2.1, 0) else (pgO, (bestH (V 0) (V 1)).2.2)
noncomputable def openP (d : Dk) : Pg × Int := if dOk d then openV (vw d) else (pgO, 700)
theorem homes_len (V : Nat → ByteArray) : (homes V).length = 48 := by simp [homes]
theorem logL_len (V : Nat → ByteArray) : (logL V).length = 200 := by simp [logL]
theorem OwnT.frame {n0 : Nat} {H H' : Heap} {v : Value} {xss : List (List Img)} (h : OwnT n0 H v xss) (hn : H.next ≤ H'.next) (hb : ∀ b, n0 ≤ b → b < H.next → H'.blk b = H.blk b) : OwnT n0 H' v xss := by
  obtain ⟨vs, D, h1, h2, h3⟩ := h
  exact ⟨vs, D, h1, h2.frame hn fun b hb1 hb2 _ => hb b (by omega) hb2, h3.mono fun v xs hx => ⟨hx.1.frame hn fun b hb1 hb2 _ => hb b hb1 hb2, hx.2⟩⟩
/-- a slice of slices of images, its values named -/
structure OwnTv (n0 D : Nat) (H : Heap) (v : Value) (vs : List Value) (xss : List (List Img)) : Prop where
  own : Own encV 1 D H v vs
  all : All2 (fun v xs => Own encI 2 n0 H v xs ∧ BelowB v D) vs xss
theorem OwnTv.frame {n0 D : Nat} {H H' : Heap} {v : Value} {vs : List Value} {xss : List (List Img)} (h : OwnTv n0 D H v vs xss) (hD : n0 ≤ D) (hn : H.next ≤ H'.next) (hb : ∀ b, n0 ≤ b → b < H.next → H'.blk b = H.blk b) : OwnTv n0 D H' v vs xss :=
  ⟨h.own.frame hn fun b hb1 hb2 _ => hb b (by omega) hb2, h.all.mono fun v xs hx => ⟨hx.1.frame hn fun b hb1 hb2 _ => hb b hb1 hb2, hx.2⟩⟩
theorem OwnTv.at_ {n0 D : Nat} {H : Heap} {p : Option Addr} {n c : Nat} {vs : List Value} {xss : List (List Img)} (h : OwnTv n0 D H (.slice p n c) vs xss) {g : Nat} (hg : g < xss.length) : n = xss.length ∧ ∃ b o q m, p = some ⟨b, o, none⟩ ∧ b < H.next ∧ H.cell b (o + g) = some (.slice q xss[g].length m) ∧ vs[g]? = some (.slice q xss[g].length m) := by
  have hl := h.all.length
  have hR := h.own.rows encV_len
  obtain ⟨e1, b, o, rfl, h2, h3⟩ := hR.at_ (i := g) (by omega)
  have hx := h.all.at_ (i := g) (by omega) hg
  obtain ⟨q, m, e, _⟩ := hx.1.slc
  refine ⟨by omega, b, o, q, m, rfl, h2, ?_, ?_⟩
  · have := h3 0 (by omega)
    rw [Nat.mul_one, Nat.add_zero] at this
    rw [this, e]; rfl
  · rw [List.getElem?_eq_getElem (by omega), e]
theorem OwnTv.img {n0 D : Nat} {H : Heap} {v u : Value} {vs : List Value} {xss : List (List Img)} (h : OwnTv n0 D H v vs xss) {g : Nat} (hg : g < xss.length) (hu : vs[g]? = some u) : Imgs H u xss[g] := by
  have hl := h.all.length
  have hx := h.all.at_ (i := g) (by omega) hg
  rw [List.getElem?_eq_getElem (by omega)] at hu
  cases hu
  exact hx.1.rows encI_len
theorem Ext.setBoth {H H' : Heap} (h : Ext H H') (b : Nat) (f : Option Blk) : Ext (H.set b f) (H'.set b f) := ⟨by simpa using h.next, fun k hk => by
    rw [blk_set, blk_set]; split
    · rfl
    · exact h.blk k hk⟩
theorem Own.setS {n0 : Nat} {H : Heap} {v : Value} {ts : List ByteArray} (h : Own encS 1 n0 H v ts) {k : Nat} (hk : k < ts.length) (x : ByteArray) : ∃ b B, v = .slice (some ⟨b, 0, none⟩) ts.length (2 * ts.length) ∧ n0 ≤ b ∧ b < H.next ∧ H.blk b = some B ∧ B.ro = false ∧ B.at_ k = some (.string ts[k]) ∧ ∀ H', Ext H H' → Own encS 1 n0 (H'.set b (some (B.put k (.string x)))) v (ts.set k x) := by
  obtain ⟨b, B, h1, h2, h3, h4, h5, h6, h7⟩ := h.blkOf encS_len (by intro e; subst e; simp at hk)
  refine ⟨b, B, h1, h2, h3, h4, h5, ?_, fun H' hE => Own.ext ?_ (hE.setBoth b _)⟩
  · have := h6 k hk 0 (by omega); simpa using this
  · have := h7 k 0 hk (by omega) x (.string x) (fun r hr => by
      have e : r = 0 := by omega
      subst e; simp)
    simpa using this
end Go.AM
end TextR6Ob
section TextR6Oc
/- Contract: open.Open. -/
namespace Go.AM
open Go.Proofs
set_option linter.unusedVariables false
set_option linter.unusedSimpArgs false
set_option maxRecDepth 100000
attribute [-simp] ByteArray.size_eq_zero_iff
abbrev z5 : Blk := rowBlk 5 [.int .i64 0, .int .i64 0, .int .i64 0, .int .i64 0, .slice none 0 0]
/-- the boxes of Open: the disk, the result, the head, the pager (hb, pb: where the last two lie) -/
structure OpB (H G : Heap) (hb pb : Nat) (x1 x2 : Int) (v : Value) (HB PB : Blk) : Prop where
  ext : Ext H G
  hlo : H.next + 1 < hb
  plo : H.next + 1 < pb
  hp : hb ≠ pb
  nx : hb < G.next ∧ pb < G.next
  rb : G.blk (H.next + 1) = some z5
  hb1 : G.blk hb = some HB
  hb2 : HB.at_ 1 = some (.int .i64 x2)
  pb1 : G.blk pb = some PB
  ro : PB.ro = false
  p0 : PB.at_ 0 = some (.int .i64 x1)
  p1 : PB.at_ 1 = some (.int .i64 x2)
  p2 : PB.at_ 2 = some (.int .i64 0)
  p3 : PB.at_ 3 = some (.int .i64 0)
  p4 : PB.at_ 4 = some v
theorem OpB.other {H G G' : Heap} {hb pb : Nat} {x1 x2 : Int} {v : Value} {HB PB : Blk} (h : OpB H G hb pb x1 x2 v HB PB) (hn : G.next ≤ G'.next) (hlow : ∀ b, b < H.next + 2 ∨ b = hb ∨ b = pb → G'.blk b = G.blk b) : OpB H G' hb pb x1 x2 v HB PB :=
  { h with ext := ⟨by have := h.ext.next; omega, fun b hb2 => by rw [hlow b (by omega), h.ext.blk b hb2]⟩, nx := by have := h.nx; omega, rb := by rw [hlow _ (by omega), h.rb], hb1 := by rw [hlow _ (by omega), h.hb1], pb1 := by rw [hlow _ (by omega), h.pb1] }
theorem OpB.up {H G G' : Heap} {hb pb : Nat} {x1 x2 : Int} {v : Value} {HB PB : Blk} (h : OpB H G hb pb x1 x2 v HB PB) (hE : Ext G G') : OpB H G' hb pb x1 x2 v HB PB := by
  have h1 := h.nx; have h2 := h.hlo; have h3 := h.plo
  exact h.other hE.next fun b hb => hE.blk b (by omega)
theorem OpB.setT {H G : Heap} {hb pb : Nat} {x1 x2 : Int} {v : Value} {HB PB : Blk} (h : OpB H G hb pb x1 x2 v HB PB) (v' : Value) : OpB H (G.set pb (some (PB.put 4 v'))) hb pb x1 x2 v' HB (PB.put 4 v') := by
  have h1 := h.nx; have h2 := h.hlo; have h3 := h.plo; have h4 := h.hp; have h5 := h.ext.next
  refine { h with ext := h.ext.set (by omega) _, nx := by simpa using h.nx, rb := ?_, hb1 := ?_, pb1 := blk_set_self _ _ _, ro := h.ro, p0 := ?_, p1 := ?_, p2 := ?_, p3 := ?_, p4 := ?_ }
  · rw [blk_set_ne (by omega), h.rb]
  · rw [blk_set_ne h4, h.hb1]
  · simp [h.p0]
  · simp [h.p1]
  · simp [h.p2]
  · simp [h.p3]
  · simp
theorem oopen_ok (v : Value) (d : Dk) (H : Heap) (h : DkR H v d) : wpf (call K f_open_Open [v] H) fun r H' => Ext H H' ∧ ∃ t, r = .tuple #[pgV (openP d).1 t, .int .i64 (openP d).2] ∧ Own encS 1 H.next H' t (openP d).1.text := by
  obtain ⟨s, c, rfl, hs, hc⟩ := h
  obtain ⟨p, k, rfl⟩ := hs.slice
  obtain ⟨q, m, rfl⟩ := hc.slice
  refine open_plain rfl fc_open_Open rfl (Nat.le_of_ble_eq_true rfl) ?_
  obtain ⟨DB, hDB⟩ : ∃ DB, DB = rowBlk 2 [.slice p d.1.length k, .slice q d.2.length m] := ⟨_, rfl⟩
  obtain ⟨G0, hG0⟩ : ∃ G0, G0 = (H.add DB).add z5 := ⟨_, rfl⟩
  have E0 : Ext H G0 := by subst hG0; exact ((Ext.refl _).add _).add _
  have n0 : G0.next = H.next + 2 := by subst hG0; simp
  have b0 : G0.blk H.next = some DB := by subst hG0; simp
  have c0 : G0.cell H.next = DB.at_ := by funext o; simp only [Heap.cell, b0]
  have b1 : G0.blk (H.next + 1) = some z5 := by subst hG0; simp
  have cz : G0.cell (H.next + 1) = z5.at_ := by funext o; simp only [Heap.cell, b1]
  have d0 : DB.at_ 0 = some (.slice p d.1.length k) := by subst hDB; rfl
  have d1 : DB.at_ 1 = some (.slice q d.2.length m) := by subst hDB; rfl
  have my := dskMay_ok _ _ d G0 (hs.ext E0) (hc.ext E0)
  have nE : ∀ f, Ext H (G0.set (H.next + 1) f) := fun f => E0.set (by omega) f
  by_cases hd : dOk d = true
  · have r0 : call K f_disk_Read [.agg #[.slice p d.1.length k, .slice q d.2.length m], .int .i64 0] G0 = some (.tuple #[.string (vw d 0), .int .i64 (rdE d 0)], G0) := by
      have := read_ok _ _ d ((0 : Nat) : Int) G0 (hs.ext E0) (hc.ext E0)
      rw [(rd_look hd (by omega)).1] at this; exact this
    have r1 : call K f_disk_Read [.agg #[.slice p d.1.length k, .slice q d.2.length m], .int .i64 1] G0 = some (.tuple #[.string (vw d 1), .int .i64 (rdE d 1)], G0) := by
      have := read_ok _ _ d ((1 : Nat) : Int) G0 (hs.ext E0) (hc.ext E0)
      rw [(rd_look hd (by omega)).1] at this; exact this
    have hP : openP d = openV (vw d) := if_pos hd
    have hbst : ∀ H, call K f_head_Best [.string (vw d 0), .string (vw d 1)] H = some (.tuple #[.agg #[.int .i64 (bestH (vw d 0) (vw d 1)).1, .int .i64 (bestH (vw d 0) (vw d 1)).2.1], .int .i64 (bestH (vw d 0) (vw d 1)).2.2], H) := fun H => hbest_ok _ _ _
    rw [openV] at hP
    generalize bestH (vw d 0) (vw d 1) = x at hbst hP
    obtain ⟨x1, x2, x3⟩ := x
    simp only at hbst hP
    by_cases hx : x3 = 0
    · rw [if_pos hx] at hP
      rw [hP]
      simp [← hDB, ← hG0, my, hd, c0, d0, d1, r0, r1, hbst, hx]
      obtain ⟨hbn, hhb⟩ : ∃ hbn, hbn = G0.next := ⟨_, rfl⟩
      have xx : ¬ H.next + 1 = G0.next := by omega
      have xx2 : ¬ H.next + 1 = G0.next + 1 := by omega
      have xx3 : ¬ H.next = G0.next := by omega
      have xx4 : ¬ H.next = G0.next + 1 := by omega
      refine wp_nxt (wp_for (fun dd e G => ∃ (i : Nat) (v : Value) (HB PB : Blk), dd = 48 - i ∧ i ≤ 48 ∧ OpB H G G0.next (G0.next + 1) x1 x2 v HB PB ∧ G.blk H.next = some DB ∧ G0.next + 2 ≤ G.next ∧ Own encS 1 (G0.next + 2) G v ((homes (vw d)).take i) ∧
        e 1 = .pointer (some ⟨H.next, 0, none⟩) ∧ e 2 = .pointer (some ⟨H.next + 1, 0, none⟩) ∧ e 8 = .pointer (some ⟨G0.next, 0, none⟩) ∧ e 10 = .pointer (some ⟨G0.next + 1, 0, none⟩) ∧ e 48 = .int .i64 (i : Int)) 48
        ⟨0, .slice none 0 0, ((rowBlk 2 [.int .i64 0, .int .i64 0]).put 0 (.int .i64 x1)).put 1 (.int .i64 x2), ((((z5.put 0 (.int .i64 x1)).put 1 (.int .i64 x2)).put 2 (.int .i64 0)).put 3 (.int .i64 0)).put 4 (.slice none 0 0), by simp, by simp,
          { ext := (((E0.add _).set (by omega) _).add _).set (by omega) _, hlo := by omega, plo := by omega, hp := by omega, nx := ⟨by simp; omega, by simp⟩, rb := by simp [xx, xx3, b1], hb1 := by simp, hb2 := by simp, pb1 := by simp, ro := rfl, p0 := by simp, p1 := by simp, p2 := by simp, p3 := by simp, p4 := by simp },
          by simp only [blk_set, blk_add, next_add, next_set, if_neg xx3, if_neg xx4, b0], by simp, by simp [Own.nil], by simp, by simp, by simp [ptr], by simp [ptr], by simp⟩ ?_)
      rintro dd e G ⟨i, v, HB, PB, rfl, hi, hB, bD, hnx, ho, h1, h2, h8, h10, h48⟩
      have cD : G.cell H.next = DB.at_ := by funext o; simp only [Heap.cell, bD]
      have cP : G.cell (G0.next + 1) = PB.at_ := by funext o; simp only [Heap.cell, hB.pb1]
      by_cases hlt : i < 48
      · have w1 : (i : Int) < 48 := by omega
        have c1 : call K f_open_home [.agg #[.slice p d.1.length k, .slice q d.2.length m], .int .i64 (i : Int)] G = some (.string (homeT (vw d) i), G) := ohomeT_ok _ _ d i G (hs.ext hB.ext) (hc.ext hB.ext) hd hlt
        have hl : ((homes (vw d)).take i).length = i := by rw [List.length_take, homes_len]; omega
        have a1 : ∀ X, appV (G.add X) 1 16 1 v [.string (homeT (vw d) i)] = some (.slice (some ⟨G.next + 1, 0, none⟩) (i + 1) (2 * (i + 1)), (killB v (G.add X)).add (rowBlk 1 (((homes (vw d)).take (i + 1)).flatMap encS))) := fun X => by
          have := (ho.ext ((Ext.refl _).add X)).app encS_len (bytes := 16) (k := 1) [.string (homeT (vw d) i)] (by omega) rfl (by omega) (by omega)
          rw [hl] at this
          rw [this, List.take_succ_eq_append_getElem (by rw [homes_len]; omega), List.flatMap_append]
          simp [homes]
        have px1 : ¬ G0.next + 1 = G.next := by omega
        have px2 : ¬ G0.next = G.next := by omega
        have kk : ∀ X, (killB v (G.add X)).blk (G0.next + 1) = some PB := fun X => by
          rw [blk_killB (ho.notIn (by omega)), blk_add_old (by omega), hB.pb1]
        have ck : ∀ X, (killB v (G.add X)).cell (G0.next + 1) = PB.at_ := fun X => by funext o; simp only [Heap.cell, kk]
        have hro := hB.ro
        have hp4 := hB.p4
        simp [c_open_Open_l14, h1, h2, h8, h10, h48, w1, run_regd_tr, finD_some, Chk, wanted, cD, cP, d0, d1, hp4, c1, mkrowV, fillL, a1, px1, px2, kk, ck, hro]
        have hBo : OpB H ((killB v (G.add (rowBlk 1 [.string (homeT (vw d) i)]))).add (rowBlk 1 (((homes (vw d)).take (i + 1)).flatMap encS))) G0.next (G0.next + 1) x1 x2 v HB PB := hB.other (by simp; omega) fun b hb => by
          have : b < G0.next + 2 := by omega
          rw [blk_add_old (by simp; omega), blk_killB (ho.notIn (by omega)), blk_add_old (by omega)]
        have on := Own.new' (enc := encS) (sz := 1) (n0 := G0.next + 2) (b := G.next + 1) (H := killB v (G.add (rowBlk 1 [.string (homeT (vw d) i)]))) (xs := (homes (vw d)).take (i + 1)) (by simp) (by omega) (by rw [List.length_take, homes_len]; omega) rfl
        have hl2 : ((homes (vw d)).take (i + 1)).length = i + 1 := by rw [List.length_take, homes_len]; omega
        rw [hl2] at on
        refine ⟨48 - (i + 1), by omega, i + 1, rfl, by omega, _, ⟨_, _, hBo.setT _⟩, ?_, by omega, on.set (by omega) _, wrap_succ (by omega)⟩
        rw [if_neg (by omega), if_neg (by omega), blk_killB (ho.notIn (by omega)), blk_add_old (by omega), bD]
      · obtain rfl : i = 48 := by omega
        rw [List.take_of_length_le (by rw [homes_len]; omega)] at ho
        have hvb := ho.below
        simp [c_open_Open_l14, h48]
        refine wp_nxt (wp_for (fun dd e2 G2 => ∃ i : Nat, dd = 200 - i ∧ i ≤ 200 ∧ Ext G G2 ∧ Own encS 1 G.next G2 (e2 12) ((logL (vw d)).take i) ∧
          e2 1 = .pointer (some ⟨H.next, 0, none⟩) ∧ e2 2 = .pointer (some ⟨H.next + 1, 0, none⟩) ∧ e2 8 = .pointer (some ⟨G0.next, 0, none⟩) ∧ e2 10 = .pointer (some ⟨G0.next + 1, 0, none⟩) ∧ e2 60 = .int .i64 (i : Int)) 200
          ⟨0, by simp, by simp, Ext.refl _, by simp [Own.nil], by simp [h1], by simp [h2], by simp [h8], by simp [h10], by simp⟩ ?_)
        rintro dd e2 G2 ⟨i, rfl, hi, hE2, ho2, g1, g2, g8, g10, g60⟩
        have bD2 : G2.blk H.next = some DB := by rw [hE2.blk _ (by omega), bD]
        have cD2 : G2.cell H.next = DB.at_ := by funext o; simp only [Heap.cell, bD2]
        have hen := hE2.next
        by_cases hlt : i < 200
        · have w1 : (i : Int) < 200 := by omega
          have w2 : IntKind.i64.wrap (2 + (i : Int)) = ((2 + i : Nat) : Int) := by rw [wrap_i64 (by omega) (by omega)]; omega
          obtain ⟨a, ha⟩ : ∃ a, a = 2 + i := ⟨_, rfl⟩
          rw [← ha] at w2
          have c1 : call K f_open_whole [.agg #[.slice p d.1.length k, .slice q d.2.length m], .int .i64 (a : Int)] G2 = some (.string (getP (vw d a)), G2) := whole_ok _ _ d a G2 ((hs.ext hB.ext).ext hE2) ((hc.ext hB.ext).ext hE2) hd (by omega)
          have hl : ((logL (vw d)).take i).length = i := by rw [List.length_take, logL_len]; omega
          have a1 : ∀ X, appV (G2.add X) 1 16 1 (e2 12) [.string (getP (vw d a))] = some (.slice (some ⟨G2.next + 1, 0, none⟩) (i + 1) (2 * (i + 1)), (killB (e2 12) (G2.add X)).add (rowBlk 1 (((logL (vw d)).take (i + 1)).flatMap encS))) := fun X => by
            have := (ho2.ext ((Ext.refl _).add X)).app encS_len (bytes := 16) (k := 1) [.string (getP (vw d a))] (by omega) rfl (by omega) (by omega)
            rw [hl] at this
            rw [this, List.take_succ_eq_append_getElem (by rw [logL_len]; omega), List.flatMap_append]
            simp [logL, ha]
          simp [c_open_Open_l21, g1, g2, g8, g10, g60, w1, w2, cD2, d0, d1, c1, mkrowV, fillL, a1]
          have on := Own.new' (enc := encS) (sz := 1) (n0 := G.next) (b := G2.next + 1) (H := killB (e2 12) (G2.add (rowBlk 1 [.string (getP (vw d a))]))) (xs := (logL (vw d)).take (i + 1)) (by simp) (by omega) (by rw [List.length_take, logL_len]; omega) rfl
          have hl2 : ((logL (vw d)).take (i + 1)).length = i + 1 := by rw [List.length_take, logL_len]; omega
          rw [hl2] at on
          exact ⟨200 - (i + 1), by omega, i + 1, rfl, by omega, (ho2.ext_kill (Nat.le_refl _) (hE2.add _)).add _, on, wrap_succ (by omega)⟩
        · obtain rfl : i = 200 := by omega
          rw [List.take_of_length_le (by rw [logL_len]; omega)] at ho2
          obtain ⟨HB1, HB2⟩ : G2.blk G0.next = some HB ∧ HB.at_ 1 = some (.int .i64 x2) := ⟨by rw [hE2.blk _ (by omega), hB.hb1], hB.hb2⟩
          have cH2 : G2.cell G0.next = HB.at_ := by funext o; simp only [Heap.cell, HB1]
          obtain ⟨_, G3, c3, E3, v', rfl, oT⟩ := scan_ok (e2 12) (logL (vw d)) x2 G2 (ho2.rows encS_len)
          have e3 := E3.next
          have hB3 := (hB.up hE2).up E3
          have ho3 := (ho.ext hE2).ext E3
          obtain ⟨p2, m2, hv2, _⟩ : ∃ p2 m2, v' = .slice p2 (scTxns (logL (vw d)) x2).length m2 ∧ True := by
            obtain ⟨vs, D, _, k1, k2⟩ := oT
            obtain ⟨p2, m2, e, _⟩ := k1.slc
            exact ⟨p2, m2, by rw [e, k2.length], trivial⟩
          subst hv2
          obtain ⟨vs, D, hD, oV1, oV2⟩ := oT
          have oT : OwnTv G2.next D G3 _ vs _ := ⟨oV1, oV2⟩
          clear oV1 oV2
          have hpg := scTxns_ok (logL (vw d)) x2
          have hnx2 : (openH (vw d) x1 x2).next = scNext (logL (vw d)) x2 := rfl
          have hus2 : (openH (vw d) x1 x2).used = scUsed (logL (vw d)) x2 := rfl
          have htx2 : (openH (vw d) x1 x2).text = applyT (homes (vw d)) (scTxns (logL (vw d)) x2) := rfl
          obtain ⟨rn, hrn⟩ : ∃ rn, rn = scNext (logL (vw d)) x2 := ⟨_, rfl⟩
          obtain ⟨ru, hru⟩ : ∃ ru, ru = scUsed (logL (vw d)) x2 := ⟨_, rfl⟩
          have hfin : pgV (openH (vw d) x1 x2) = fun t => .agg #[.int .i64 x1, .int .i64 x2, .int .i64 rn, .int .i64 (ru : Int), t] := by subst hrn; subst hru; rfl
          rw [← hrn, ← hru] at c3
          rw [hfin, htx2]
          generalize scTxns (logL (vw d)) x2 = tss at oT c3 hpg
          simp [c_open_Open_l21, g60, cH2, g8, HB2, c3]
          refine wp_nxt (wp_for (fun dd e4 G4 => ∃ g : Nat, dd = tss.length - g ∧ g ≤ tss.length ∧ OpB H G4 G0.next (G0.next + 1) x1 x2 v HB PB ∧ G3.next ≤ G4.next ∧ Own encS 1 (G0.next + 2) G4 v (applyT (homes (vw d)) (tss.take g)) ∧ OwnTv G2.next D G4 (.slice p2 tss.length m2) vs tss ∧
            e4 2 = .pointer (some ⟨H.next + 1, 0, none⟩) ∧ e4 10 = .pointer (some ⟨G0.next + 1, 0, none⟩) ∧ e4 15 = .int .i64 rn ∧ e4 16 = .int .i64 (ru : Int) ∧ e4 80 = .slice p2 tss.length m2 ∧ e4 81 = .int .i64 (tss.length : Int) ∧ e4 82 = .int .i64 (g : Int)) tss.length
            ⟨0, by simp, by simp, hB3, Nat.le_refl _, by simpa [applyT] using ho3, oT, by simp [g2], by simp [g10], by simp, by simp, by simp, by simp, by simp⟩ ?_)
          rintro dd e4 G4 ⟨g, rfl, hg, hB4, hn4, ho4, oT4, f2, f10, f15, f16, f80, f81, f82⟩
          by_cases hlt2 : g < tss.length
          · obtain ⟨_, bt, ot, qg, mg, rfl, hbt, hct, hvg⟩ := oT4.at_ hlt2
            have hisl : ∀ x ∈ tss[g], iOk x := hpg _ (List.getElem_mem hlt2)
            have hTl : (applyT (homes (vw d)) (tss.take g)).length = 48 := by rw [applyT_len, homes_len]
            have hTn := applyT_take (homes (vw d)) tss hlt2
            have hil := (oT4.img hlt2 hvg).lim
            simp [c_open_Open_l33, f80, f81, f82, hlt2, hct]
            refine wp_nxt (wp_unblock (wp_for (fun dd e5 G5 => ∃ a : Nat, dd = tss[g].length - a ∧ a ≤ tss[g].length ∧ OpB H G5 G0.next (G0.next + 1) x1 x2 v HB PB ∧ G3.next ≤ G5.next ∧ Own encS 1 (G0.next + 2) G5 v (applyI (applyT (homes (vw d)) (tss.take g)) (tss[g].take a)) ∧ OwnTv G2.next D G5 (.slice (some ⟨bt, ot, none⟩) tss.length m2) vs tss ∧
              e5 2 = .pointer (some ⟨H.next + 1, 0, none⟩) ∧ e5 10 = .pointer (some ⟨G0.next + 1, 0, none⟩) ∧ e5 15 = .int .i64 rn ∧ e5 16 = .int .i64 (ru : Int) ∧ e5 80 = .slice (some ⟨bt, ot, none⟩) tss.length m2 ∧ e5 81 = .int .i64 (tss.length : Int) ∧ e5 82 = .int .i64 (g : Int) ∧
              e5 86 = .slice qg tss[g].length mg ∧ e5 87 = .int .i64 (tss[g].length : Int) ∧ e5 88 = .int .i64 (a : Int)) tss[g].length
              ⟨0, by simp, by simp, hB4, hn4, by simpa [applyI] using ho4, oT4, by simp [f2], by simp [f10], by simp [f15], by simp [f16], by simp [f80], by simp [f81], by simp [f82], by simp, by simp, by simp⟩ ?_))
            rintro dd e5 G5 ⟨a, rfl, ha, hB5, hn5, ho5, oT5, k2, k10, k15, k16, k80, k81, k82, k86, k87, k88⟩
            by_cases hlt3 : a < tss[g].length
            · have hI := oT5.img hlt2 hvg
              have hok := hisl _ (List.getElem_mem hlt3)
              have hnext := applyI_take (applyT (homes (vw d)) (tss.take g)) tss[g] hlt3
              obtain ⟨bi, oi, rfl, hbi, k0, k1⟩ := hI.at2 hlt3
              generalize tss[g][a] = y at hok hnext k0 k1
              obtain ⟨⟨y0, y48⟩, _⟩ := hok
              obtain ⟨pg, tx⟩ := y
              simp only at y0 y48 hnext
              obtain ⟨n, rfl⟩ := Int.eq_ofNat_of_zero_le y0
              have hn48 : n < (applyI (applyT (homes (vw d)) (tss.take g)) (tss[g].take a)).length := by rw [applyI_len, hTl]; omega
              rw [Int.toNat_natCast] at hnext
              have hBX := fun X Y => (hB5.up (G' := ((G5.add X).set G5.next Y)) (((Ext.refl G5).add X).set (Nat.le_refl _) _))
              obtain ⟨tb, TB, hv, t1, t2, t3, t4, t5, hset⟩ := ho5.setS hn48 tx
              have tb3 : tb < G.next := hvb ⟨tb, 0, none⟩ _ _ hv
              have hp4 := hB5.p4
              have cP := hB5.pb1
              have hnx5 := hB5.nx
              have cPc : G5.cell (G0.next + 1) = PB.at_ := by funext o; simp only [Heap.cell, cP]
              have hlen5 : (applyI (applyT (homes (vw d)) (tss.take g)) (tss[g].take a)).length = 48 := by rw [applyI_len, hTl]
              have n48 : n < 48 := by omega
              have ct : G5.cell tb = TB.at_ := by funext o; simp only [Heap.cell, t3]
              have z1 : ¬ bi = G5.next := by omega
              have z2 : ¬ G0.next + 1 = G5.next := by omega
              have z3 : ¬ tb = G5.next := by omega
              rw [hlen5] at hv
              rw [hv] at hp4
              simp at k0 k1
              simp [c_open_Open_l31, k86, k87, k88, hlt3, k0, k1, z1, k10, z2, cPc, hp4, n48, z3, t3, t4, t5, ct]
              refine ⟨tss[g].length - (a + 1), by omega, a + 1, rfl, by omega, (hBX _ _).other (by simp) (fun b hb => blk_set_ne (by omega)), by omega, ?_, oT5.frame hD (by simp) fun b hb hb2 => ?_, k2, k15, k16, k80, k81, k82, wrap_succ (by omega)⟩
              · rw [hnext]; exact hset _ (((Ext.refl G5).add _).set (Nat.le_refl _) _)
              · rw [blk_set_ne (by omega), blk_set_ne (by omega), blk_add_old hb2]
            · obtain rfl : a = tss[g].length := by omega
              rw [List.take_length] at ho5
              rw [← hTn] at ho5
              have w9 : IntKind.i64.wrap ((g : Int) + 1) = ((g + 1 : Nat) : Int) := wrap_succ (by have := oT5.own.lim; have := oT5.all.length; omega)
              simp [c_open_Open_l31, k87, k88, k82]
              exact ⟨tss.length - (g + 1), by omega, g + 1, rfl, by omega, hB5, hn5, ho5, oT5, k2, k10, k15, k16, k80, k81, w9⟩
          · obtain rfl : g = tss.length := by omega
            have gb := hB4.nx
            have rb := hB4.rb
            have pb := hB4.pb1
            have cR : G4.cell (H.next + 1) = z5.at_ := by funext o; simp only [Heap.cell, rb]
            have cP : G4.cell (G0.next + 1) = PB.at_ := by funext o; simp only [Heap.cell, pb]
            have hro := hB4.ro
            have q0 := hB4.p0; have q1 := hB4.p1; have q2 := hB4.p2; have q3 := hB4.p3; have q4 := hB4.p4
            rw [List.take_length] at ho4
            have h1c : v.oneCell' = true := by obtain ⟨p', c', e', _⟩ := ho4.slc; rw [e']; rfl
            simp [h1c, c_open_Open_l33, f82, f81, f2, f10, f15, f16, pb, rb, cP, cR, hro, q0, q1, q2, q3, q4, xx, xx3]
            exact ⟨(hB4.ext.set (by omega) _).set (by omega) _, ((ho4.set (by omega) _).set (by omega) _).low (by omega)⟩
    · rw [if_neg hx] at hP
      rw [hP]
      have xx : ¬ H.next + 1 = G0.next := by omega
      have xE : ∀ X Y f, Ext H (((G0.add X).set G0.next Y).set (H.next + 1) f) := fun X Y f => ((E0.add _).set (by omega) _).set (by omega) _
      simp [← hDB, ← hG0, my, hd, c0, d0, d1, r0, r1, hbst, hx, b1, cz, xx, pgV, pgO, Own.nil, xE]
  · have hP : openP d = (pgO, 700) := if_neg hd
    rw [hP]
    simp [← hDB, ← hG0, my, hd, c0, d0, d1, b1, cz, nE, pgV, pgO, Own.nil]
end Go.AM
end TextR6Oc
section TextR6Od
/- Contract: the document's Open. -/
namespace Go.AM
open Go.Proofs
set_option linter.unusedVariables false
set_option linter.unusedSimpArgs false
set_option maxRecDepth 100000
attribute [-simp] ByteArray.size_eq_zero_iff
theorem Own.esz {α : Type} {enc : α → List Value} {sz n0 : Nat} {H : Heap} {v : Value} {xs : List α} (h : Own enc sz n0 H v xs) : EszOk H sz v := by
  intro b o n c e
  rcases h.is with ⟨rfl, rfl⟩ | ⟨b', B, rfl, h2, h3, h4, h5, h6, h7⟩
  · cases e
  · cases e; exact .inr (by simp [Heap.eszIs, h4, h6])
theorem ropen_ok (v : Value) (d : Dk) (H : Heap) (h : DkR H v d) : wpf (call K f_ref1_Open [v] H) fun r H' => Ext H H' ∧ ∃ t, r = .tuple #[pgV (openP d).1 t, .int .i64 (openP d).2] ∧ Own encS 1 H.next H' t (openP d).1.text := by
  obtain ⟨s, c, rfl, hs, hc⟩ := h
  obtain ⟨p, k, rfl⟩ := hs.slice
  obtain ⟨q, m, rfl⟩ := hc.slice
  refine open_plain rfl fc_ref1_Open rfl (Nat.le_of_ble_eq_true rfl) ?_
  obtain ⟨DB, hDB⟩ : ∃ DB, DB = rowBlk 2 [.slice p d.1.length k, .slice q d.2.length m] := ⟨_, rfl⟩
  obtain ⟨G0, hG0⟩ : ∃ G0, G0 = (H.add DB).add z5 := ⟨_, rfl⟩
  have E0 : Ext H G0 := by subst hG0; exact ((Ext.refl _).add _).add _
  have n0 : G0.next = H.next + 2 := by subst hG0; simp
  have b0 : G0.blk H.next = some DB := by subst hG0; simp
  have c0 : G0.cell H.next = DB.at_ := by funext o; simp only [Heap.cell, b0]
  have b1 : G0.blk (H.next + 1) = some z5 := by subst hG0; simp
  have cz : G0.cell (H.next + 1) = z5.at_ := by funext o; simp only [Heap.cell, b1]
  have d0 : DB.at_ 0 = some (.slice p d.1.length k) := by subst hDB; rfl
  have d1 : DB.at_ 1 = some (.slice q d.2.length m) := by subst hDB; rfl
  have my := rdskMay_ok _ _ d G0 (hs.ext E0) (hc.ext E0)
  have nE : ∀ f, Ext H (G0.set (H.next + 1) f) := fun f => E0.set (by omega) f
  by_cases hd : dOk d = true
  · have hdl : d.1.length = 394 := (dOk_len hd).1
    have yy : ¬ H.next = G0.next := by omega
    have r0 : call K f_ref1_read [.agg #[.slice p d.1.length k, .slice q d.2.length m], .int .i64 0] (G0.add (rowBlk 2 [.int .i64 0, .int .i64 0])) = some (.string (vw d 0), G0.add (rowBlk 2 [.int .i64 0, .int .i64 0])) := rlook_ok _ _ d 0 _ (hs.ext (E0.add _)) (hc.ext (E0.add _)) ⟨by omega, by omega⟩
    have r1 : call K f_ref1_read [.agg #[.slice p d.1.length k, .slice q d.2.length m], .int .i64 1] (G0.add (rowBlk 2 [.int .i64 0, .int .i64 0])) = some (.string (vw d 1), G0.add (rowBlk 2 [.int .i64 0, .int .i64 0])) := rlook_ok _ _ d 1 _ (hs.ext (E0.add _)) (hc.ext (E0.add _)) ⟨by omega, by omega⟩
    have hP : openP d = openV (vw d) := if_pos hd
    have hbst : ∀ H, call K f_ref1_Best [.string (vw d 0), .string (vw d 1)] H = some (.tuple #[.agg #[.int .i64 (bestH (vw d 0) (vw d 1)).1, .int .i64 (bestH (vw d 0) (vw d 1)).2.1], .int .i64 (bestH (vw d 0) (vw d 1)).2.2], H) := fun H => rhbest_ok _ _ _
    rw [openV] at hP
    generalize bestH (vw d 0) (vw d 1) = x at hbst hP
    obtain ⟨x1, x2, x3⟩ := x
    simp only at hbst hP
    by_cases hx : x3 = 0
    · rw [if_pos hx] at hP
      rw [hP]
      simp [← hDB, ← hG0, my, hd, c0, d0, d1, r0, r1, hbst, hx, run_regd_tr, finD_some, Chk, wanted, yy]
      obtain ⟨hbn, hhb⟩ : ∃ hbn, hbn = G0.next := ⟨_, rfl⟩
      have xx : ¬ H.next + 1 = G0.next := by omega
      have xx2 : ¬ H.next + 1 = G0.next + 1 := by omega
      have xx3 : ¬ H.next = G0.next := by omega
      have xx4 : ¬ H.next = G0.next + 1 := by omega
      refine wp_nxt (wp_for (fun dd e G => ∃ (i : Nat) (v : Value) (HB PB : Blk), dd = 48 - i ∧ i ≤ 48 ∧ OpB H G G0.next (G0.next + 1) x1 x2 v HB PB ∧ G.blk H.next = some DB ∧ G0.next + 2 ≤ G.next ∧ Own encS 1 (G0.next + 2) G v ((homes (vw d)).take i) ∧
        e 1 = .pointer (some ⟨H.next, 0, none⟩) ∧ e 2 = .pointer (some ⟨H.next + 1, 0, none⟩) ∧ e 4 = .pointer (some ⟨G0.next, 0, none⟩) ∧ e 6 = .pointer (some ⟨G0.next + 1, 0, none⟩) ∧ e 7 = .int .i64 (i : Int)) 48
        ⟨0, .slice none 0 0, ((rowBlk 2 [.int .i64 0, .int .i64 0]).put 0 (.int .i64 x1)).put 1 (.int .i64 x2), ((((z5.put 0 (.int .i64 x1)).put 1 (.int .i64 x2)).put 2 (.int .i64 0)).put 3 (.int .i64 0)).put 4 (.slice none 0 0), by simp, by simp,
          { ext := (((E0.add _).set (by omega) _).add _).set (by omega) _, hlo := by omega, plo := by omega, hp := by omega, nx := ⟨by simp; omega, by simp⟩, rb := by simp [xx, xx3, b1], hb1 := by simp, hb2 := by simp, pb1 := by simp, ro := rfl, p0 := by simp, p1 := by simp, p2 := by simp, p3 := by simp, p4 := by simp },
          by simp only [blk_set, blk_add, next_add, next_set, if_neg xx3, if_neg xx4, b0], by simp, by simp [Own.nil], by simp, by simp, by simp [ptr], by simp [ptr], by simp⟩ ?_)
      rintro dd e G ⟨i, v, HB, PB, rfl, hi, hB, bD, hnx, ho, h1, h2, h8, h10, h48⟩
      have cD : G.cell H.next = DB.at_ := by funext o; simp only [Heap.cell, bD]
      have cP : G.cell (G0.next + 1) = PB.at_ := by funext o; simp only [Heap.cell, hB.pb1]
      by_cases hlt : i < 48
      · have w1 : (i : Int) < 48 := by omega
        have c1 : call K f_ref1_homeText [.agg #[.slice p d.1.length k, .slice q d.2.length m], .int .i64 (i : Int)] G = some (.string (homeT (vw d) i), G) := rhomeT_ok _ _ d i G (hs.ext hB.ext) (hc.ext hB.ext) hd hlt
        have hl : ((homes (vw d)).take i).length = i := by rw [List.length_take, homes_len]; omega
        have a1 : ∀ X, appV (G.add X) 1 16 1 v [.string (homeT (vw d) i)] = some (.slice (some ⟨G.next + 1, 0, none⟩) (i + 1) (2 * (i + 1)), (killB v (G.add X)).add (rowBlk 1 (((homes (vw d)).take (i + 1)).flatMap encS))) := fun X => by
          have := (ho.ext ((Ext.refl _).add X)).app encS_len (bytes := 16) (k := 1) [.string (homeT (vw d) i)] (by omega) rfl (by omega) (by omega)
          rw [hl] at this
          rw [this, List.take_succ_eq_append_getElem (by rw [homes_len]; omega), List.flatMap_append]
          simp [homes]
        have px1 : ¬ G0.next + 1 = G.next := by omega
        have px2 : ¬ G0.next = G.next := by omega
        have kk : ∀ X, (killB v (G.add X)).blk (G0.next + 1) = some PB := fun X => by
          rw [blk_killB (ho.notIn (by omega)), blk_add_old (by omega), hB.pb1]
        have ck : ∀ X, (killB v (G.add X)).cell (G0.next + 1) = PB.at_ := fun X => by funext o; simp only [Heap.cell, kk]
        have hro := hB.ro
        have hp4 := hB.p4
        simp [c_ref1_Open_l11, h1, h2, h8, h10, h48, w1, run_regd_tr, finD_some, Chk, wanted, cD, cP, d0, d1, hp4, c1, mkrowV, fillL, a1, px1, px2, kk, ck, hro]
        have hBo : OpB H ((killB v (G.add (rowBlk 1 [.string (homeT (vw d) i)]))).add (rowBlk 1 (((homes (vw d)).take (i + 1)).flatMap encS))) G0.next (G0.next + 1) x1 x2 v HB PB := hB.other (by simp; omega) fun b hb => by
          have : b < G0.next + 2 := by omega
          rw [blk_add_old (by simp; omega), blk_killB (ho.notIn (by omega)), blk_add_old (by omega)]
        have on := Own.new' (enc := encS) (sz := 1) (n0 := G0.next + 2) (b := G.next + 1) (H := killB v (G.add (rowBlk 1 [.string (homeT (vw d) i)]))) (xs := (homes (vw d)).take (i + 1)) (by simp) (by omega) (by rw [List.length_take, homes_len]; omega) rfl
        have hl2 : ((homes (vw d)).take (i + 1)).length = i + 1 := by rw [List.length_take, homes_len]; omega
        rw [hl2] at on
        refine ⟨48 - (i + 1), by omega, i + 1, rfl, by omega, _, ⟨_, _, hBo.setT _⟩, ?_, by omega, on.set (by omega) _, wrap_succ (by omega)⟩
        rw [if_neg (by omega), if_neg (by omega), blk_killB (ho.notIn (by omega)), blk_add_old (by omega), bD]
      · obtain rfl : i = 48 := by omega
        rw [List.take_of_length_le (by rw [homes_len]; omega)] at ho
        have hvb := ho.below
        simp [c_ref1_Open_l11, h48]
        refine wp_nxt (wp_for (fun dd e2 G2 => ∃ i : Nat, dd = 200 - i ∧ i ≤ 200 ∧ Ext G G2 ∧ Own encS 1 G.next G2 (e2 8) ((logL (vw d)).take i) ∧
          e2 1 = .pointer (some ⟨H.next, 0, none⟩) ∧ e2 2 = .pointer (some ⟨H.next + 1, 0, none⟩) ∧ e2 4 = .pointer (some ⟨G0.next, 0, none⟩) ∧ e2 6 = .pointer (some ⟨G0.next + 1, 0, none⟩) ∧ e2 9 = .int .i64 (i : Int)) 200
          ⟨0, by simp, by simp, Ext.refl _, by simp [Own.nil], by simp [h1], by simp [h2], by simp [h8], by simp [h10], by simp⟩ ?_)
        rintro dd e2 G2 ⟨i, rfl, hi, hE2, ho2, g1, g2, g8, g10, g60⟩
        have bD2 : G2.blk H.next = some DB := by rw [hE2.blk _ (by omega), bD]
        have cD2 : G2.cell H.next = DB.at_ := by funext o; simp only [Heap.cell, bD2]
        have hen := hE2.next
        by_cases hlt : i < 200
        · have w1 : (i : Int) < 200 := by omega
          have w2 : IntKind.i64.wrap (2 + (i : Int)) = ((2 + i : Nat) : Int) := by rw [wrap_i64 (by omega) (by omega)]; omega
          obtain ⟨a, ha⟩ : ∃ a, a = 2 + i := ⟨_, rfl⟩
          rw [← ha] at w2
          have c1 : call K f_ref1_read [.agg #[.slice p d.1.length k, .slice q d.2.length m], .int .i64 (a : Int)] G2 = some (.string (vw d a), G2) := rlook_ok _ _ d a G2 ((hs.ext hB.ext).ext hE2) ((hc.ext hB.ext).ext hE2) ⟨by omega, by omega⟩
          have hl : ((logL (vw d)).take i).length = i := by rw [List.length_take, logL_len]; omega
          have a1 : ∀ X, appV (G2.add X) 1 16 1 (e2 8) [.string (getP (vw d a))] = some (.slice (some ⟨G2.next + 1, 0, none⟩) (i + 1) (2 * (i + 1)), (killB (e2 8) (G2.add X)).add (rowBlk 1 (((logL (vw d)).take (i + 1)).flatMap encS))) := fun X => by
            have := (ho2.ext ((Ext.refl _).add X)).app encS_len (bytes := 16) (k := 1) [.string (getP (vw d a))] (by omega) rfl (by omega) (by omega)
            rw [hl] at this
            rw [this, List.take_succ_eq_append_getElem (by rw [logL_len]; omega), List.flatMap_append]
            simp [logL, ha]
          simp [c_ref1_Open_l18, g1, g2, g8, g10, g60, w1, w2, cD2, d0, d1, c1, mkrowV, fillL, a1]
          have on := Own.new' (enc := encS) (sz := 1) (n0 := G.next) (b := G2.next + 1) (H := killB (e2 8) (G2.add (rowBlk 1 [.string (getP (vw d a))]))) (xs := (logL (vw d)).take (i + 1)) (by simp) (by omega) (by rw [List.length_take, logL_len]; omega) rfl
          have hl2 : ((logL (vw d)).take (i + 1)).length = i + 1 := by rw [List.length_take, logL_len]; omega
          rw [hl2] at on
          exact ⟨200 - (i + 1), by omega, i + 1, rfl, by omega, (ho2.ext_kill (Nat.le_refl _) (hE2.add _)).add _, on, wrap_succ (by omega)⟩
        · obtain rfl : i = 200 := by omega
          rw [List.take_of_length_le (by rw [logL_len]; omega)] at ho2
          obtain ⟨HB1, HB2⟩ : G2.blk G0.next = some HB ∧ HB.at_ 1 = some (.int .i64 x2) := ⟨by rw [hE2.blk _ (by omega), hB.hb1], hB.hb2⟩
          have cH2 : G2.cell G0.next = HB.at_ := by funext o; simp only [Heap.cell, HB1]
          obtain ⟨_, G3, c3, E3, v', rfl, oT⟩ := rscan_ok (e2 8) (logL (vw d)) x2 G2 (ho2.rows encS_len) ho2.esz
          have e3 := E3.next
          have hB3 := (hB.up hE2).up E3
          have ho3 := (ho.ext hE2).ext E3
          obtain ⟨p2, m2, hv2, _⟩ : ∃ p2 m2, v' = .slice p2 (scTxns (logL (vw d)) x2).length m2 ∧ True := by
            obtain ⟨vs, D, _, k1, k2⟩ := oT
            obtain ⟨p2, m2, e, _⟩ := k1.slc
            exact ⟨p2, m2, by rw [e, k2.length], trivial⟩
          subst hv2
          obtain ⟨vs, D, hD, oV1, oV2⟩ := oT
          have oT : OwnTv G2.next D G3 _ vs _ := ⟨oV1, oV2⟩
          clear oV1 oV2
          have hpg := scTxns_ok (logL (vw d)) x2
          have hnx2 : (openH (vw d) x1 x2).next = scNext (logL (vw d)) x2 := rfl
          have hus2 : (openH (vw d) x1 x2).used = scUsed (logL (vw d)) x2 := rfl
          have htx2 : (openH (vw d) x1 x2).text = applyT (homes (vw d)) (scTxns (logL (vw d)) x2) := rfl
          obtain ⟨rn, hrn⟩ : ∃ rn, rn = scNext (logL (vw d)) x2 := ⟨_, rfl⟩
          obtain ⟨ru, hru⟩ : ∃ ru, ru = scUsed (logL (vw d)) x2 := ⟨_, rfl⟩
          have hfin : pgV (openH (vw d) x1 x2) = fun t => .agg #[.int .i64 x1, .int .i64 x2, .int .i64 rn, .int .i64 (ru : Int), t] := by subst hrn; subst hru; rfl
          rw [← hrn, ← hru] at c3
          rw [hfin, htx2]
          generalize scTxns (logL (vw d)) x2 = tss at oT c3 hpg
          simp [c_ref1_Open_l18, g60, cH2, g8, HB2, c3]
          refine wp_nxt (wp_for (fun dd e4 G4 => ∃ g : Nat, dd = tss.length - g ∧ g ≤ tss.length ∧ OpB H G4 G0.next (G0.next + 1) x1 x2 v HB PB ∧ G3.next ≤ G4.next ∧ Own encS 1 (G0.next + 2) G4 v (applyT (homes (vw d)) (tss.take g)) ∧ OwnTv G2.next D G4 (.slice p2 tss.length m2) vs tss ∧
            e4 2 = .pointer (some ⟨H.next + 1, 0, none⟩) ∧ e4 6 = .pointer (some ⟨G0.next + 1, 0, none⟩) ∧ e4 13 = .int .i64 rn ∧ e4 14 = .int .i64 (ru : Int) ∧ e4 12 = .slice p2 tss.length m2 ∧ e4 16 = .int .i64 (g : Int)) tss.length
            ⟨0, by simp, by simp, hB3, Nat.le_refl _, by simpa [applyT] using ho3, oT, by simp [g2], by simp [g10], by simp, by simp, by simp, by simp⟩ ?_)
          rintro dd e4 G4 ⟨g, rfl, hg, hB4, hn4, ho4, oT4, f2, f10, f15, f16, f80, f82⟩
          by_cases hlt2 : g < tss.length
          · obtain ⟨_, bt, ot, qg, mg, rfl, hbt, hct, hvg⟩ := oT4.at_ hlt2
            have hisl : ∀ x ∈ tss[g], iOk x := hpg _ (List.getElem_mem hlt2)
            have hTl : (applyT (homes (vw d)) (tss.take g)).length = 48 := by rw [applyT_len, homes_len]
            have hTn := applyT_take (homes (vw d)) tss hlt2
            have hil := (oT4.img hlt2 hvg).lim
            simp [c_ref1_Open_l28, f80, f82, hlt2, hct]
            refine wp_nxt (wp_unblock (wp_for (fun dd e5 G5 => ∃ a : Nat, dd = tss[g].length - a ∧ a ≤ tss[g].length ∧ OpB H G5 G0.next (G0.next + 1) x1 x2 v HB PB ∧ G3.next ≤ G5.next ∧ Own encS 1 (G0.next + 2) G5 v (applyI (applyT (homes (vw d)) (tss.take g)) (tss[g].take a)) ∧ OwnTv G2.next D G5 (.slice (some ⟨bt, ot, none⟩) tss.length m2) vs tss ∧
              e5 2 = .pointer (some ⟨H.next + 1, 0, none⟩) ∧ e5 6 = .pointer (some ⟨G0.next + 1, 0, none⟩) ∧ e5 13 = .int .i64 rn ∧ e5 14 = .int .i64 (ru : Int) ∧ e5 12 = .slice (some ⟨bt, ot, none⟩) tss.length m2 ∧ e5 16 = .int .i64 (g : Int) ∧ e5 17 = .int .i64 (a : Int)) tss[g].length
              ⟨0, by simp, by simp, hB4, hn4, by simpa [applyI] using ho4, oT4, by simp [f2], by simp [f10], by simp [f15], by simp [f16], by simp [f80], by simp [f82], by simp⟩ ?_))
            rintro dd e5 G5 ⟨a, rfl, ha, hB5, hn5, ho5, oT5, k2, k10, k15, k16, k80, k82, k88⟩
            obtain ⟨_, bt', ot', qg', mg', ebt, hbt5, hct5, hvg5⟩ := oT5.at_ hlt2
            obtain ⟨rfl, rfl⟩ : bt' = bt ∧ ot' = ot := by simpa [eq_comm] using ebt
            obtain ⟨rfl, rfl⟩ : qg' = qg ∧ mg' = mg := by rw [hvg] at hvg5; simpa [eq_comm] using hvg5
            by_cases hlt3 : a < tss[g].length
            · have hI := oT5.img hlt2 hvg
              have hok := hisl _ (List.getElem_mem hlt3)
              have hnext := applyI_take (applyT (homes (vw d)) (tss.take g)) tss[g] hlt3
              obtain ⟨bi, oi, rfl, hbi, k0, k1⟩ := hI.at2 hlt3
              generalize tss[g][a] = y at hok hnext k0 k1
              obtain ⟨⟨y0, y48⟩, _⟩ := hok
              obtain ⟨pg, tx⟩ := y
              simp only at y0 y48 hnext
              obtain ⟨n, rfl⟩ := Int.eq_ofNat_of_zero_le y0
              have hn48 : n < (applyI (applyT (homes (vw d)) (tss.take g)) (tss[g].take a)).length := by rw [applyI_len, hTl]; omega
              rw [Int.toNat_natCast] at hnext
              have hBX := fun X Y => (hB5.up (G' := ((G5.add X).set G5.next Y)) (((Ext.refl G5).add X).set (Nat.le_refl _) _))
              obtain ⟨tb, TB, hv, t1, t2, t3, t4, t5, hset⟩ := ho5.setS hn48 tx
              have tb3 : tb < G.next := hvb ⟨tb, 0, none⟩ _ _ hv
              have hp4 := hB5.p4
              have cP := hB5.pb1
              have hnx5 := hB5.nx
              have cPc : G5.cell (G0.next + 1) = PB.at_ := by funext o; simp only [Heap.cell, cP]
              have hlen5 : (applyI (applyT (homes (vw d)) (tss.take g)) (tss[g].take a)).length = 48 := by rw [applyI_len, hTl]
              have n48 : n < 48 := by omega
              have ct : G5.cell tb = TB.at_ := by funext o; simp only [Heap.cell, t3]
              have z1 : ¬ bi = G5.next := by omega
              have z2 : ¬ G0.next + 1 = G5.next := by omega
              have z3 : ¬ tb = G5.next := by omega
              rw [hlen5] at hv
              rw [hv] at hp4
              simp at k0 k1
              simp [c_ref1_Open_l26, k80, k82, k88, hlt2, hct5, hlt3, k0, k1, k10, z2, cPc, hp4, n48, z3, t3, t4, t5, ct]
              refine ⟨tss[g].length - (a + 1), by omega, a + 1, rfl, by omega, hB5.other (by simp) (fun b hb => blk_set_ne (by omega)), by omega, ?_, oT5.frame hD (by simp) fun b hb hb2 => ?_, k2, k15, k16, wrap_succ (by omega)⟩
              · rw [hnext]; exact hset _ (Ext.refl G5)
              · rw [blk_set_ne (by omega)]
            · obtain rfl : a = tss[g].length := by omega
              rw [List.take_length] at ho5
              rw [← hTn] at ho5
              have w9 : IntKind.i64.wrap ((g : Int) + 1) = ((g + 1 : Nat) : Int) := wrap_succ (by have := oT5.own.lim; have := oT5.all.length; omega)
              simp [c_ref1_Open_l26, k88, k80, k82, hlt2, hct5]
              exact ⟨tss.length - (g + 1), by omega, g + 1, rfl, by omega, hB5, hn5, ho5, oT5, k2, k10, k15, k16, w9⟩
          · obtain rfl : g = tss.length := by omega
            have gb := hB4.nx
            have rb := hB4.rb
            have pb := hB4.pb1
            have cR : G4.cell (H.next + 1) = z5.at_ := by funext o; simp only [Heap.cell, rb]
            have cP : G4.cell (G0.next + 1) = PB.at_ := by funext o; simp only [Heap.cell, pb]
            have hro := hB4.ro
            have q0 := hB4.p0; have q1 := hB4.p1; have q2 := hB4.p2; have q3 := hB4.p3; have q4 := hB4.p4
            rw [List.take_length] at ho4
            have h1c : v.oneCell' = true := by obtain ⟨p', c', e', _⟩ := ho4.slc; rw [e']; rfl
            simp [h1c, c_ref1_Open_l28, f82, f80, f2, f10, f15, f16, pb, rb, cP, cR, hro, q0, q1, q2, q3, q4, xx, xx3]
            exact ⟨(hB4.ext.set (by omega) _).set (by omega) _, ((ho4.set (by omega) _).set (by omega) _).low (by omega)⟩
    · rw [if_neg hx] at hP
      rw [hP]
      have xx : ¬ H.next + 1 = G0.next := by omega
      have xE : ∀ X Y f, Ext H (((G0.add X).set G0.next Y).set (H.next + 1) f) := fun X Y f => ((E0.add _).set (by omega) _).set (by omega) _
      simp [← hDB, ← hG0, my, hd, c0, d0, d1, r0, r1, hbst, hx, run_regd_tr, finD_some, Chk, wanted, yy, b1, cz, xx, pgV, pgO, Own.nil, xE]
  · have hP : openP d = (pgO, 700) := if_neg hd
    rw [hP]
    simp [← hDB, ← hG0, my, hd, c0, d0, d1, b1, cz, nE, pgV, pgO, Own.nil]
end Go.AM
end TextR6Od
