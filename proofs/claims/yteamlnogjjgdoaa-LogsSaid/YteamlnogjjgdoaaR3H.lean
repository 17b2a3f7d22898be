/- Contracts: log.Scan. -/
import Derived.Test.YteamlnogjjgdoaaR3G
namespace Go.AM
open Go.Proofs
set_option linter.unusedVariables false
set_option linter.unusedSimpArgs false
set_option maxRecDepth 100000
attribute [-simp] ByteArray.size_eq_zero_iff
theorem SR.ext {n0 sb H S B D E vd vo vs} (h : SR n0 sb H S B D E vd vo vs) {H' : Heap} (hE : Ext H H') : SR n0 sb H' S B D E vd vo vs := by
  have := h.lo; have := h.nD; have := h.DE; have := h.EH; have := hE.next
  exact ⟨by rw [hE.blk sb (by omega)]; exact h.hb, h.ro, h.c0, h.c1, h.c2, h.c3, h.c4, h.lo, h.nD, h.DE, by omega, h.od.ext hE, h.bd, h.oe.mono fun v xs hx => ⟨hx.1.ext hE, hx.2⟩, h.oo.ext hE⟩
theorem SRel.ext {n0 sb H S} (h : SRel n0 sb H S) {H' : Heap} (hE : Ext H H') : SRel n0 sb H' S := by
  obtain ⟨B, D, E, vd, vo, vs, h⟩ := h
  exact ⟨B, D, E, vd, vo, vs, h.ext hE⟩
def scanGo (seq : Int) : Sc → Nat → List ByteArray → Sc
  | S, _, [] => S
  | S, i, t :: ts =>
    if (getR t).2.2.2.2 = 0 ∧ (getR t).1 = seq + i then
      match takeS S ((getR t).1, (getR t).2.1, (getR t).2.2.1, (getR t).2.2.2.1) i with
      | some S' => scanGo seq S' (i + 1) ts
      | none => S
    else S
def sc0 : Sc := ⟨[], 0, [], 0, false⟩
structure ScInv (S : Sc) (i : Nat) : Prop where
  part : S.part < 4
  some_ : S.part ≠ 0 → S.opn ≠ []
  opn : S.opn.length ≤ i
  done : S.done.length ≤ i
  used : S.used ≤ i
  size : ∀ x ∈ S.opn, x.2.size ≤ 24 * i
theorem ScInv.ok {S i} (h : ScInv S i) (hi : i ≤ 1000) : ScOk S := ⟨h.part, h.some_, by have := h.opn; omega, by have := h.done; omega, fun x hx => by have := h.size x hx; omega⟩
theorem ScInv.take {S S' : Sc} {i : Nat} {r : Rec} (h : ScInv S i) (hr : 0 ≤ r.2.2.1 ∧ r.2.2.1 ≤ 4) (hd : r.2.2.2.size ≤ 24) (ht : takeS S r i = some S') : ScInv S' (i + 1) := by
  obtain ⟨q, pg, t, d⟩ := r
  simp only at hr hd
  have h1 := h.opn; have h2 := h.done; have h3 := h.used; have h4 := h.part
  unfold takeS at ht
  split at ht
  · split at ht
    · cases ht
      exact ⟨h.part, fun hp => absurd (by assumption) hp, by simp [commitS], by simp [commitS]; omega, by simp [commitS], by simp [commitS]⟩
    · cases ht
  · split at ht
    · cases ht
    · rename_i hn4 hpt
      have ep : t = (S.part : Int) := Classical.not_not.1 hpt
      have put : ∀ (ini : List Img) (x : Img), ini.length ≤ i → (∀ y ∈ ini, y.2.size ≤ 24 * i) → x.2.size ≤ 24 * i → ScInv (putS S ini x (q, pg, t, d)) (i + 1) := fun ini x ha hb hc => by
        refine ⟨by simp only [putS]; omega, fun _ => by simp [putS], by simp [putS]; omega, by simp only [putS]; omega, by simp only [putS]; omega, fun y hy => ?_⟩
        simp only [putS, List.mem_append, List.mem_singleton] at hy
        rcases hy with hy | rfl
        · have := hb y hy; omega
        · simp; omega
      split at ht
      · split at ht
        · cases ht; exact put _ _ h1 h.size (Nat.zero_le _)
        · cases ht
      · rename_i x hx
        have hmem : x ∈ S.opn := List.mem_of_getLast? hx
        split at ht
        · split at ht
          · cases ht
          · cases ht; exact put _ _ h1 h.size (Nat.zero_le _)
        · split at ht
          · cases ht
          · cases ht
            exact put _ _ (by rw [List.length_dropLast]; omega) (fun y hy => h.size y (List.dropLast_subset _ hy)) (h.size x hmem)
theorem getR_may {s : ByteArray} (h : (getR s).2.2.2.2 = 0) : RMay (getR s).1 (getR s).2.1 (getR s).2.2.1 (getR s).2.2.2.1 := by
  unfold getR at h ⊢
  split at h
  · rename_i hc
    rw [if_pos hc]
    have := hc.2.2
    by_cases hm : RMay (recAt s).1 (recAt s).2.1 (recAt s).2.2.1 (recAt s).2.2.2
    · exact hm
    · rw [putR_no hm] at this
      have := congrArg Prod.snd this
      simp at this
  · simp at h
/-- A slice of slices of images that nobody else holds. -/
def OwnT (n0 : Nat) (H : Heap) (v : Value) (xss : List (List Img)) : Prop := ∃ vs D, n0 ≤ D ∧ Own encV 1 D H v vs ∧ All2 (fun v xs => Own encI 2 n0 H v xs ∧ BelowB v D) vs xss
theorem OwnT.txns {n0 H v xss} (h : OwnT n0 H v xss) : Txns H v xss := by
  obtain ⟨vs, D, _, h1, h2⟩ := h
  exact ⟨vs, h1.rows encV_len, h2.mono fun v xs hx => hx.1.rows encI_len⟩
def scOk (rs : List ByteArray) (seq : Int) : Prop := (1 ≤ seq ∧ seq ≤ 2147483647) ∧ rs.length ≤ 200
instance (rs : List ByteArray) (seq : Int) : Decidable (scOk rs seq) := by unfold scOk; infer_instance
def scRes (rs : List ByteArray) (seq : Int) : Sc := scanGo seq sc0 0 rs
def scTxns (rs : List ByteArray) (seq : Int) : List (List Img) := if scOk rs seq then (scRes rs seq).done else []
def scUsed (rs : List ByteArray) (seq : Int) : Nat := if scOk rs seq then (scRes rs seq).used else 0
def scNext (rs : List ByteArray) (seq : Int) : Int := if scOk rs seq then seq + (scRes rs seq).used else 0
def scErr (rs : List ByteArray) (seq : Int) : Int := if scOk rs seq then 0 else 400
theorem wpf_choose2 {C : Heap → Option (Value × Heap)} {Pre : Heap → Prop} {Q : Heap → Value → Heap → Prop} {v : Value} (h : ∀ G, Pre G → wpf (C G) fun u G' => u = v ∧ Q G u G') : ∃ fG : Heap → Heap, (∀ G, Pre G → C G = some (v, fG G)) ∧ ∀ G, Pre G → Q G v (fG G) := by
  obtain ⟨fv, fG, h1, h2⟩ := wpf_choose' h
  exact ⟨fG, fun G hG => by rw [h1 G hG, (h2 G hG).1], fun G hG => by have := (h2 G hG).2; rwa [(h2 G hG).1] at this⟩
def scanTail : IC := .seq (.regd c_log_Scan_r11 []) .ret
def scanCode : IFn := ⟨(.seq (.reg c_log_Scan_r0) (.seq (.seq (.reg c_log_Scan_r1) (.cond (.t 20) (.seq (.reg c_log_Scan_r2) .ret) .skip)) (.seq (.reg c_log_Scan_r3) (.seq (.seq (.reg c_log_Scan_r4) (.block 0 (.loop c_log_Scan_l10))) scanTail)))), 58, [.tmp 4, .tmp 5, .tmp 6, .tmp 7]⟩
theorem fc_scan : fnAt Try.prog f_log_Scan = some scanCode := fc_log_Scan
attribute [simp] scanCode
theorem scan_ok (v : Value) (rs : List ByteArray) (seq : Int) (H : Heap) (h : Strs H v rs) :
    wpf (call K f_log_Scan [v, .int .i64 seq] H) fun r H' => Ext H H' ∧ ∃ v', r = .tuple #[v', .int .i64 (scNext rs seq), .int .i64 (scUsed rs seq : Int), .int .i64 (scErr rs seq)] ∧ OwnT H.next H' v' (scTxns rs seq) := by
  obtain ⟨p, c, rfl⟩ := h.slice
  have hl := h.lim
  refine open_plain rfl fc_scan rfl (Nat.le_of_ble_eq_true rfl) ?_
  have nilT : OwnT H.next H (.slice none 0 0) [] := ⟨[], H.next, Nat.le_refl _, Own.nil, trivial⟩
  by_cases k2 : 1 ≤ seq ∧ seq ≤ 2147483647
  · by_cases k3 : rs.length ≤ 200
    · have hok : scOk rs seq := ⟨k2, k3⟩
      have k4 : ¬ (200 : Int) < (rs.length : Int) := by omega
      simp [k2, k4]
      have hS0 : SRel (H.next + 1) H.next (H.add (rowBlk 5 [.slice none 0 0, .int .i64 0, .slice none 0 0, .int .i64 0, .bool false])) sc0 :=
        ⟨rowBlk 5 [.slice none 0 0, .int .i64 0, .slice none 0 0, .int .i64 0, .bool false], H.next + 1, H.next + 1, .slice none 0 0, .slice none 0 0, [], { hb := by simp, ro := rfl, c0 := rfl, c1 := rfl, c2 := rfl, c3 := rfl, c4 := rfl, lo := by omega, nD := by omega, DE := by omega, EH := by simp, od := Own.nil, bd := BelowB.nil, oe := trivial, oo := Own.nil }⟩
      refine wp_nxt (wp_for (fun k e G => ∃ (i : Nat) (S : Sc), k = rs.length - i ∧ i ≤ rs.length ∧ Beside (H.next + 1) H.next H G ∧ e 21 = .slice p rs.length c ∧ e 22 = .int .i64 (rs.length : Int) ∧ e 23 = .int .i64 (i : Int) ∧ e 8 = .pointer (some ⟨H.next, 0, none⟩) ∧ e 1 = .int .i64 seq ∧ SRel (H.next + 1) H.next G S ∧ ScInv S i ∧ scanGo seq S i (rs.drop i) = scRes rs seq) rs.length ⟨0, sc0, by simp, by simp, ⟨by simp, fun b hb hb2 => by rw [blk_add, if_neg hb2]⟩, by simp, by simp, by simp, by simp, by simp, hS0, ⟨by simp [sc0], by simp [sc0], by simp [sc0], by simp [sc0], by simp [sc0], by simp [sc0]⟩, rfl⟩ ?_)
      rintro k e G ⟨i, S, rfl, hi, hB, h21, h22, h23, h8, h1, hS, hI, hres⟩
      have stop : ∀ (e : Env) (G' : Heap) (S' : Sc), Beside (H.next + 1) H.next H G' → SRel (H.next + 1) H.next G' S' → S'.used ≤ 1000 → S' = scRes rs seq → e 8 = .pointer (some ⟨H.next, 0, none⟩) → e 1 = .int .i64 seq →
          wp (run K scanTail e G') fun x e H' => isEnd x = true ∧ ∃ v, resAll H' e [.tmp 4, .tmp 5, .tmp 6, .tmp 7] = some v ∧ Ext H H' ∧ ∃ v', v = .tuple #[v', .int .i64 (scNext rs seq), .int .i64 (scUsed rs seq : Int), .int .i64 (scErr rs seq)] ∧ OwnT H.next H' v' (scTxns rs seq) := fun e G' S' hB' hS' hu hr he8 he1 => by
        subst hr
        obtain ⟨B, D, E, vd, vo, vs, hS'⟩ := hS'
        obtain ⟨q, d, rfl, _⟩ := hS'.od.slc
        have w : IntKind.i64.wrap (seq + ((scRes rs seq).used : Int)) = seq + ((scRes rs seq).used : Int) := wrap_i64 (by omega) (by omega)
        have g2 := hS'.nD
        simp [scanTail, he8, he1, hS'.cell, hS'.c0, hS'.c1, w, scNext, scUsed, scErr, scTxns, hok]
        have hn := hB'.next
        exact ⟨⟨by omega, fun b hb => hB'.blk b (by omega) (by omega)⟩, vs, D, by omega, hS'.od, hS'.oe.mono fun v xs hx => ⟨hx.1.low (by omega), hx.2⟩⟩
      by_cases hlt : i < rs.length
      · obtain ⟨b, o, rfl, hb, e0⟩ := h.at1 hlt
        rw [List.drop_eq_getElem_cons hlt] at hres
        simp only [scanGo] at hres
        have hm := @getR_may rs[i]
        generalize rs[i] = tx at *
        have hn := hB.next
        have n1 : b ≠ G.next := by omega
        have n2 : H.next ≠ G.next := fun e => by
          obtain ⟨B, D, E, vd, vo, vs, hS'⟩ := hS
          have := hS'.lo; have := hS'.nD; have := hS'.DE; have := hS'.EH; omega
        have hgb : ∀ o, G.cell b o = H.cell b o := fun o => by simp only [Heap.cell, hB.blk b (by omega) (by omega)]
        have w1 := wrap_succ (i := i) (by omega)
        have w2 : IntKind.i64.wrap (seq + (i : Int)) = seq + (i : Int) := wrap_i64 (by omega) (by omega)
        have hE2 : ∀ B f, Ext G ((G.add B).set G.next f) := fun B f => ((Ext.refl G).add B).set (Nat.le_refl _) f
        have hB2 : ∀ B f, Beside (H.next + 1) H.next H ((G.add B).set G.next f) := fun B f => ⟨by simp; omega, fun b hb hb2 => by rw [(hE2 B f).blk b (by omega)]; exact hB.blk b hb hb2⟩
        have hiu := hI.used
        generalize hg : getR tx = x at *
        obtain ⟨q, pg, t, d, er⟩ := x
        simp only at hres hm
        simp at e0
        by_cases c1 : er = 0
        · subst c1
          have hmay := hm rfl
          by_cases c2 : q = seq + i
          · rw [if_pos ⟨rfl, c2⟩] at hres
            subst c2
            have hdz : d.size ≤ 24 := RMay_size hmay
            have htt : 0 ≤ t ∧ t ≤ 4 := by rcases hmay.2 with hh | hh <;> omega
            obtain ⟨fG, hc, hQ⟩ := wpf_choose2 (C := call K f_log_scanner_take [.pointer (some ⟨H.next, 0, none⟩), .agg #[.int .i64 (seq + (i : Int)), .int .i64 pg, .int .i64 t, .string d], .int .i64 (i : Int)]) (Pre := Ext G) fun G0 hG0 => take_ok (hS.ext hG0) (hI.ok (by omega)) (seq + (i : Int)) pg t d htt hdz i (by omega)
            cases htk : takeS S (seq + (i : Int), pg, t, d) i with
            | none =>
              rw [htk] at hres hc hQ
              simp [c_log_Scan_l10, h21, h22, h23, h8, h1, hlt, hgb, e0, hg, valR, n1, n2, w2, hc, hE2]
              refine (stop _ _ S ((hB2 _ _).trans (hQ _ (hE2 _ _)).1) (hQ _ (hE2 _ _)).2 (by omega) hres (by simp [h8]) (by simp [h1])).mono fun x e H' hq => ?_
              simpa using hq
            | some S' =>
              rw [htk] at hres hc hQ
              simp [c_log_Scan_l10, h21, h22, h23, h8, h1, hlt, hgb, e0, hg, valR, n1, n2, w1, w2, hc, hE2]
              exact ⟨rs.length - (i + 1), by omega, i + 1, rfl, hlt, (hB2 _ _).trans (hQ _ (hE2 _ _)).1, by simp, S', (hQ _ (hE2 _ _)).2, hI.take (r := (seq + (i : Int), pg, t, d)) htt hdz htk, hres⟩
          · simp [c_log_Scan_l10, h21, h22, h23, h8, h1, hlt, hgb, e0, hg, valR, n1, n2, w2, c2]
            rw [if_neg (fun hh => c2 hh.2)] at hres
            refine (stop _ _ S (hB2 _ _) (hS.ext (hE2 _ _)) (by omega) hres (by simp [h8]) (by simp [h1])).mono fun x e H' hq => ?_
            simpa using hq
        · simp [c_log_Scan_l10, h21, h22, h23, h8, h1, hlt, hgb, e0, hg, valR, n1, n2, c1]
          rw [if_neg (fun hh => c1 hh.1)] at hres
          refine (stop _ _ S (hB2 _ _) (hS.ext (hE2 _ _)) (by omega) hres (by simp [h8]) (by simp [h1])).mono fun x e H' hq => ?_
          simpa using hq
      · obtain rfl : i = rs.length := by omega
        simp [c_log_Scan_l10, h21, h22, h23]
        have hiu := hI.used
        refine (stop _ _ S hB hS (by omega) ?_ (by simp [h8]) (by simp [h1])).mono fun x e H' hq => ?_
        · rw [← hres, List.drop_length]; rfl
        · simpa using hq
    · have hok : ¬ scOk rs seq := fun hk => k3 hk.2
      have k4 : (200 : Int) < (rs.length : Int) := by omega
      simp [k2, k4, scNext, scUsed, scErr, scTxns, hok, Ext.refl, nilT]
  · have hok : ¬ scOk rs seq := fun hk => k2 hk.1
    simp [k2, scNext, scUsed, scErr, scTxns, hok, Ext.refl, nilT]
end Go.AM
