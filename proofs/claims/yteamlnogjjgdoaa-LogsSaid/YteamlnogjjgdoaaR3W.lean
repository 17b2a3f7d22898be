/- Contracts: what every program answers. -/
import Derived.Test.YteamlnogjjgdoaaR3P
namespace Go.AM
open Go.Proofs
set_option linter.unusedVariables false
set_option linter.unusedSimpArgs false
set_option maxRecDepth 100000
attribute [-simp] ByteArray.size_eq_zero_iff
theorem scan_made {xs : List Img} {s : Int} (hk : MkOk xs s) : ∃ fl, scRes ((mkRecs xs s).map txtR) s = ⟨[xs], 4 * xs.length + 1, [], 0, fl⟩ := by
  obtain ⟨fl, e⟩ := scanGo_txn (seq := s) (S := sc0) (i := 0) (ts := []) rfl rfl (by simp) hk
  refine ⟨fl, ?_⟩
  unfold scRes
  rw [List.append_nil] at e
  rw [e]; simp [scanGo, sc0]
theorem mkOk_len {xs : List Img} {s : Int} (hk : MkOk xs s) : xs.length ≤ 48 := imOk_48 hk.1
theorem scOk_made {xs : List Img} {s q : Int} (hk : MkOk xs s) (hq : 1 ≤ q ∧ q ≤ 2147483647) : scOk ((mkRecs xs s).map txtR) q := ⟨hq, by have := mkOk_len hk; rw [List.length_map, mkRecs_len hk]; omega⟩
theorem mk_first {xs : List Img} {s : Int} (hk : MkOk xs s) : ∃ r rs, mkRecs xs s = r :: rs ∧ r.1 = s ∧ RMay r.1 r.2.1 r.2.2.1 r.2.2.2 := by
  rw [mkRecs, if_pos hk]
  cases xs with
  | nil => exact ⟨_, _, rfl, by simp, ⟨by have := hk.2.1; simp; omega, .inl ⟨rfl, rfl, rfl⟩⟩⟩
  | cons x xs =>
    refine ⟨recAtI x s 0, _, rfl, by simp [recAtI], ?_⟩
    have h1 := imOk_drop (x :: xs) 0 (-1) (by simp) hk.1
    have h2 := hk.2.1
    simp at h1
    exact ⟨by simp [recAtI]; omega, .inr ⟨by simp [recAtI], by simp [recAtI], by simpa [recAtI] using h1.1.1, by simpa [recAtI] using h1.1.2, partD_le _ _⟩⟩
theorem scan_off {xs : List Img} {s q : Int} (hk : MkOk xs s) (hq : q ≠ s) : scRes ((mkRecs xs s).map txtR) q = sc0 := by
  obtain ⟨r, rs, e, h1, h2⟩ := mk_first hk
  rw [e, List.map_cons, scRes, scanGo, getR_txt h2, if_neg]
  rintro ⟨_, h⟩
  simp [h1] at h
  exact hq h.symm
theorem txns1 {G : Heap} {u : Value} {xs : List Img} (h : Imgs G u xs) : Txns (G.add (rowBlk 1 [u])) (.slice (some ⟨G.next, 0, none⟩) 1 3) [xs] := by
  refine ⟨[u], ⟨by simp, some ⟨G.next, 0, none⟩, 3, rfl, .inr ⟨G.next, 0, rfl, by simp, by simp, fun i hi j hj => ?_⟩⟩, h.ext ((Ext.refl _).add _), trivial⟩
  simp at hi; subst hi
  obtain rfl : j = 0 := by omega
  simp
theorem txns2 {G : Heap} {u v : Value} {xs ys : List Img} (h : Imgs G u xs) (h' : Imgs G v ys) : Txns (G.add (rowBlk 1 [u, v])) (.slice (some ⟨G.next, 0, none⟩) 2 5) [xs, ys] := by
  refine ⟨[u, v], ⟨by simp, some ⟨G.next, 0, none⟩, 5, rfl, .inr ⟨G.next, 0, rfl, by simp, by simp, fun i hi j hj => ?_⟩⟩, h.ext ((Ext.refl _).add _), h'.ext ((Ext.refl _).add _), trivial⟩
  obtain rfl : j = 0 := by omega
  simp at hi
  match i, hi with
  | 0, _ => simp
  | 1, _ => simp
def aw0 : ByteArray := ⟨#[48, 49, 50, 51, 52, 53, 54, 55, 56, 57, 48, 49, 50, 51, 52, 53, 54, 55, 56, 57, 48, 49, 50, 51, 52, 53, 54, 55]⟩
def awI : List Img := [(2, aw0), (5, ⟨#[]⟩)]
theorem awOk : MkOk awI 7 := by decide
theorem awNo : ¬ MkOk awI 0 := by decide
theorem awake_ok (H : Heap) : call K f_law4_awake [] H = some (.bool true, H) := by
  refine of_wpf (open_pure rfl fc_law4_awake rfl (Nat.le_of_ble_eq_true rfl) ?_)
  obtain ⟨G0, hG0⟩ : ∃ G0, G0 = H.roAll.add (rowBlk 2 [.int .i64 2, .string aw0, .int .i64 5, .string ⟨#[]⟩]) := ⟨_, rfl⟩
  have hI0 : Imgs G0 (.slice (some ⟨H.next, 0, none⟩) 2 5) awI := by
    subst hG0
    refine ⟨by simp [awI], _, _, rfl, .inr ⟨H.next, 0, rfl, by simp, by simp [awI], fun i hi j hj => ?_⟩⟩
    simp [awI] at hi
    match i, hi, j, hj with
    | 0, _, 0, _ => simp [awI]
    | 0, _, 1, _ => simp [awI]
    | 1, _, 0, _ => simp [awI]
    | 1, _, 1, _ => simp [awI]
  obtain ⟨_, G1, c1, E1, v1, rfl, o1⟩ := make_ok _ awI 7 G0 hI0
  obtain ⟨t2, G2, c2, E2, o2⟩ := texts_ok v1 _ G1 (o1.rows encR_len) (by rw [mkRecs_len awOk]; decide)
  obtain ⟨_, G3, c3, E3, v3, rfl, o3⟩ := scan_ok t2 _ 7 G2 (o2.rows encS_len)
  obtain ⟨t4, G4, c4, E4, o4⟩ := texts_ok v1 _ G3 ((o1.rows encR_len).ext (E2.trans E3)) (by rw [mkRecs_len awOk]; decide)
  obtain ⟨_, G5, c5, E5, v5, rfl, o5⟩ := scan_ok t4 _ 8 G4 (o4.rows encS_len)
  have E05 := E1.trans (E2.trans (E3.trans (E4.trans E5)))
  obtain ⟨_, G6, c6, E6, v6, rfl, o6⟩ := make_ok _ awI 0 G5 (hI0.ext E05)
  obtain ⟨_, G7, c7, E7, v7, rfl, o7⟩ := scan_ok (.slice none 0 0) [] 0 G6 Rows.nil
  obtain ⟨fl, hs7⟩ := scan_made awOk
  have hs8 := scan_off (q := 8) awOk (by decide)
  have k7 := scOk_made (q := 7) awOk (by decide)
  have k8 := scOk_made (q := 8) awOk (by decide)
  have l1 := o1.len
  rw [mkRecs_len awOk] at l1
  have hT : ∀ B, Txns (G7.add B) v3 [awI] := fun B => by
    have := o3.txns
    rw [scTxns, if_pos k7, hs7] at this
    exact this.ext ((E4.trans (E5.trans (E6.trans E7))).trans ((Ext.refl _).add B))
  have hSame : call K f_law4_sameTxns [v3, .slice (some ⟨G7.next, 0, none⟩) 1 3] (G7.add (rowBlk 1 [.slice (some ⟨H.next, 0, none⟩) 2 5])) = some (.bool true, G7.add (rowBlk 1 [.slice (some ⟨H.next, 0, none⟩) 2 5])) := by
    rw [sameTxns_ok v3 _ [awI] [awI] _ (hT _) (txns1 (hI0.ext (E05.trans (E6.trans E7))))]
    simp
  have n7 : scNext ((mkRecs awI 7).map txtR) 7 = 16 := by rw [scNext, if_pos k7, hs7]; rfl
  have u7 : scUsed ((mkRecs awI 7).map txtR) 7 = 9 := by rw [scUsed, if_pos k7, hs7]; rfl
  have e7 : scErr ((mkRecs awI 7).map txtR) 7 = 0 := by rw [scErr, if_pos k7]
  have u8 : scUsed ((mkRecs awI 7).map txtR) 8 = 0 := by rw [scUsed, if_pos k8, hs8]; rfl
  have e8 : scErr ((mkRecs awI 7).map txtR) 8 = 0 := by rw [scErr, if_pos k8]
  have m7 : mkErr awI 7 = 0 := by rw [mkErr, if_pos awOk]
  have m0 : mkErr awI 0 = 400 := by rw [mkErr, if_neg awNo]
  have e0 : scErr [] 0 = 400 := by decide
  have ha : (⟨#[48, 49, 50, 51, 52, 53, 54, 55, 56, 57, 48, 49, 50, 51, 52, 53, 54, 55, 56, 57, 48, 49, 50, 51, 52, 53, 54, 55]⟩ : ByteArray) = aw0 := rfl
  have l2 : awI.length = 2 := rfl
  rw [l2] at l1
  simp [ha, ← hG0, c1, c2, c3, c4, c5, c6, c7, l1, m7, hSame, n7, u7, e7, u8, e8, m0, e0]
end Go.AM
