import Derived.Test.YtiiliffoclejlaaR6J5
section TextR6Ta
/- Contracts: pagers, steps. -/
namespace Go.AM
open Go.Proofs
set_option linter.unusedVariables false
set_option linter.unusedSimpArgs false
set_option maxRecDepth 100000
attribute [-simp] ByteArray.size_eq_zero_iff
abbrev encSt (s : Stp) : List Value := [.bool s.1, .int .i64 s.2.1, .string s.2.2]
theorem encSt_len (s : Stp) : (encSt s).length = 3 := rfl
theorem encSt_one (s : Stp) : (encSt s).all Value.oneCell' = true := rfl
def wrSt (a : Int) (half : ByteArray) : Stp := (false, a, putP half)
def flSt : Stp := (true, 0, ⟨#[]⟩)
def hdSt (n s : Int) : Stp := wrSt (n % 2) (putH n s)
theorem rwrite_ok (a : Int) (half : ByteArray) (H : Heap) : call K f_ref1_write [.int .i64 a, .string half] H = some (.agg #[.bool false, .int .i64 a, .string (putP half)], H) := by
  refine of_wpf (open_pure rfl fc_ref1_write rfl (Nat.le_of_ble_eq_true rfl) ?_)
  simp
theorem rheadStep_ok (n s : Int) (H : Heap) : call K f_ref1_headStep [.agg #[.int .i64 n, .int .i64 s]] H = some (.agg #[.bool false, .int .i64 (n % 2), .string (putP (putH n s))], H) := by
  refine of_wpf (open_pure rfl fc_ref1_headStep rfl (Nat.le_of_ble_eq_true rfl) ?_)
  have e : bits .and .i64 n 1 = n % 2 := and_mask n 1 (by decide)
  simp [e, rwrite_ok]
/-- may a pager be -/
def pgMay (p : Pg) : Bool := decide (hdMay p.hn p.hs) && decide (1 ≤ p.next ∧ p.next ≤ 2147483647) && decide (0 ≤ p.used) && decide (p.used ≤ 200) && decide (p.text.length = 48) && p.text.all (fun s => decide (s.size ≤ 96))
def pgRoom (p : Pg) : Bool := pgMay p && decide (p.hn ≤ 2147482647) && decide (p.next ≤ 2147482647)
theorem long_ok (s : ByteArray) (H : Heap) : call K f_plan_May_1 [.string s] H = some (.bool (!decide (s.size ≤ 96)), H) := by
  refine of_wpf (open_pure rfl fc_plan_May_1 rfl (Nat.le_of_ble_eq_true rfl) ?_)
  by_cases h : s.size ≤ 96
  · have h' : ¬ (96 : Int) < s.size := by omega
    simp [h, h']
  · have h' : (96 : Int) < s.size := by omega
    have h2 : 96 < s.size := by omega
    simp [h2, h']
theorem pmay_ok (p : Pg) (t : Value) (H : Heap) (h : Strs H t p.text) : call K f_plan_May [pgV p t] H = some (.bool (pgMay p), H) := by
  refine of_wpf (open_pure rfl fc_plan_May rfl (Nat.le_of_ble_eq_true rfl) ?_)
  obtain ⟨n, s, nx, us, ts⟩ := p
  have E : ∀ X, Ext H.roAll (H.roAll.add X) := fun X => (Ext.refl _).add _
  have c1 := fun X => contS_ok f_plan_May_1 (fun s => decide (s.size ≤ 96)) long_ok t ts _ (h.roAll.ext (E X))
  obtain ⟨q, k, rfl⟩ := h.slice
  simp only at c1 ⊢
  by_cases h1 : hdMay n s
  · by_cases h2 : 1 ≤ nx ∧ nx ≤ 2147483647
    · by_cases h3 : 0 ≤ us
      · by_cases h4 : us ≤ 200
        · by_cases h5 : ts.length = 48
          · have h5' : (ts.length : Int) = 48 := by omega
            have hp : pgMay ⟨n, s, nx, us, ts⟩ = ts.all (fun s => decide (s.size ≤ 96)) := by simp [pgMay, h1, h2, h3, h4, h5]
            rw [hp]
            simp [pgV, h1, h2, h3, h4, h5', c1]
          · have h5' : ¬ (ts.length : Int) = 48 := by omega
            simp [pgMay, pgV, h1, h2, h3, h4, h5, h5', c1]
        · simp [pgMay, pgV, h1, h2, h3, h4, c1]
      · simp [pgMay, pgV, h1, h2, h3, c1]
    · simp [pgMay, pgV, h1, h2, c1]
  · simp [pgMay, pgV, h1, c1]
theorem pmay2_ok (p : Pg) (t : Value) (H : Heap) (h : Strs H t p.text) : call K f_plan_may [pgV p t] H = some (.bool (pgRoom p), H) := by
  refine of_wpf (open_pure rfl fc_plan_may rfl (Nat.le_of_ble_eq_true rfl) ?_)
  have E : ∀ X, Ext H.roAll (H.roAll.add X) := fun X => (Ext.refl _).add _
  have c1 := fun X => pmay_ok p t _ (h.roAll.ext (E X))
  obtain ⟨q, k, rfl⟩ := h.slice
  simp only [pgV] at c1
  by_cases h1 : pgMay p = true
  · by_cases h2 : p.hn ≤ 2147482647 <;> by_cases h3 : p.next ≤ 2147482647 <;> simp [pgRoom, pgV, c1, h1, h2, h3]
  · have h1' : pgMay p = false := by simpa using h1
    simp [pgRoom, pgV, c1, h1']
theorem rpmay_ok (p : Pg) (t : Value) (H : Heap) (h : Strs H t p.text) : call K f_ref1_PagerMay [pgV p t] H = some (.bool (pgMay p), H) := by
  refine of_wpf (open_pure rfl fc_ref1_PagerMay rfl (Nat.le_of_ble_eq_true rfl) ?_)
  obtain ⟨n, s, nx, us, ts⟩ := p
  obtain ⟨G0, hG0⟩ : ∃ G0, G0 = H.roAll.add (rowBlk 5 [.int .i64 n, .int .i64 s, .int .i64 nx, .int .i64 us, t]) := ⟨_, rfl⟩
  have E0 : Ext H.roAll G0 := by subst hG0; exact (Ext.refl _).add _
  have b0 : G0.blk H.next = some (rowBlk 5 [.int .i64 n, .int .i64 s, .int .i64 nx, .int .i64 us, t]) := by subst hG0; simp
  have c0 : G0.cell H.next = (rowBlk 5 [.int .i64 n, .int .i64 s, .int .i64 nx, .int .i64 us, t]).at_ := by funext o; simp only [Heap.cell, b0]
  have hT := h.roAll.ext E0
  have hlim := h.lim
  obtain ⟨q, k, rfl⟩ := h.slice
  simp only at hT hlim ⊢
  simp [pgV, ← hG0]
  refine wp_nxt (wp_for (fun dd e G => ∃ i : Nat, dd = ts.length - i ∧ i ≤ ts.length ∧ G = G0 ∧ e 1 = .pointer (some ⟨H.next, 0, none⟩) ∧ e 3 = .int .i64 (i : Int) ∧ ∀ x ∈ ts.take i, x.size ≤ 96) ts.length ⟨0, by simp⟩ ?_)
  rintro dd e G ⟨i, rfl, hi, hG, h1, h3, hall⟩
  subst G
  by_cases hlt : i < ts.length
  · obtain ⟨b, o, rfl, hb, k0⟩ := hT.at1 hlt
    simp at k0
    have hst : ts.take (i + 1) = ts.take i ++ [ts[i]] := List.take_succ_eq_append_getElem hlt
    have hno := all_no (fun s : ByteArray => decide (s.size ≤ 96)) hlt
    generalize ts[i] = x at k0 hst hno
    by_cases hx : x.size ≤ 96
    · simp [c_ref1_PagerMay_l6, h1, h3, c0, hlt, k0, hx]
      exact ⟨ts.length - (i + 1), by omega, i + 1, rfl, hlt, wrap_succ (by omega), fun y hy => by
        rw [hst, List.mem_append, List.mem_singleton] at hy
        rcases hy with hy | rfl
        · exact hall y hy
        · exact hx⟩
    · have hf := hno (by simp [hx])
      simp [c_ref1_PagerMay_l6, h1, h3, c0, hlt, k0, hx, pgMay, hf]
  · obtain rfl : i = ts.length := by omega
    rw [List.take_length] at hall
    have hall : ts.all (fun s => decide (s.size ≤ 96)) = true := List.all_eq_true.2 fun x hx => by simpa using hall x hx
    by_cases g1 : hdMay n s
    · by_cases g2 : 1 ≤ nx ∧ nx ≤ 2147483647
      · by_cases g3 : 0 ≤ us
        · by_cases g4 : us ≤ 200
          · by_cases g5 : ts.length = 48
            · have g5' : (ts.length : Int) = 48 := by omega
              have hp : pgMay ⟨n, s, nx, us, ts⟩ = true := by simp only [pgMay, hall]; simp [g1, g2, g3, g4, g5]
              rw [hp]
              simp [c_ref1_PagerMay_l6, h1, h3, c0, g1, g2, g3, g4, g5']
            · have g5' : ¬ (ts.length : Int) = 48 := by omega
              simp [c_ref1_PagerMay_l6, h1, h3, c0, pgMay, g1, g2, g3, g4, g5, g5', hall]
          · simp [c_ref1_PagerMay_l6, h1, h3, c0, pgMay, g1, g2, g3, g4, hall]
        · simp [c_ref1_PagerMay_l6, h1, h3, c0, pgMay, g1, g2, g3, hall]
      · simp [c_ref1_PagerMay_l6, h1, h3, c0, pgMay, g1, g2, hall]
    · simp [c_ref1_PagerMay_l6, h1, h3, c0, pgMay, g1, hall]
theorem rroomy_ok (p : Pg) (t : Value) (H : Heap) (h : Strs H t p.text) : call K f_ref1_roomy [pgV p t] H = some (.bool (pgRoom p), H) := by
  refine of_wpf (open_pure rfl fc_ref1_roomy rfl (Nat.le_of_ble_eq_true rfl) ?_)
  have E : ∀ X, Ext H.roAll (H.roAll.add X) := fun X => (Ext.refl _).add _
  have c1 := fun X => rpmay_ok p t _ (h.roAll.ext (E X))
  obtain ⟨q, k, rfl⟩ := h.slice
  simp only [pgV] at c1
  by_cases h1 : pgMay p = true
  · by_cases h2 : p.hn ≤ 2147482647 <;> by_cases h3 : p.next ≤ 2147482647 <;> simp [pgRoom, pgV, c1, h1, h2, h3]
  · have h1' : pgMay p = false := by simpa using h1
    simp [pgRoom, pgV, c1, h1']
theorem Pg.ext' {a b : Pg} (h1 : a.hn = b.hn) (h2 : a.hs = b.hs) (h3 : a.next = b.next) (h4 : a.used = b.used) (h5 : a.text = b.text) : a = b := by
  cases a; cases b; simp only at *; subst h1 h2 h3 h4 h5; rfl
instance : DecidableEq Pg := fun a b => if h : a.hn = b.hn ∧ a.hs = b.hs ∧ a.next = b.next ∧ a.used = b.used ∧ a.text = b.text then .isTrue (Pg.ext' h.1 h.2.1 h.2.2.1 h.2.2.2.1 h.2.2.2.2) else .isFalse fun e => h (by subst e; exact ⟨rfl, rfl, rfl, rfl, rfl⟩)
theorem samePg_ok (a b : Pg) (t u : Value) (H : Heap) (ha : Strs H t a.text) (hb : Strs H u b.text) : call K f_law0_SamePager [pgV a t, pgV b u] H = some (.bool (decide (a = b)), H) := by
  refine of_wpf (open_pure rfl fc_law0_SamePager rfl (Nat.le_of_ble_eq_true rfl) ?_)
  have E : ∀ X Y, Ext H.roAll ((H.roAll.add X).add Y) := fun X Y => ((Ext.refl _).add _).add _
  have c1 := fun X Y => sameTexts_ok t u a.text b.text _ (ha.roAll.ext (E X Y)) (hb.roAll.ext (E X Y))
  obtain ⟨q, k, rfl⟩ := ha.slice
  obtain ⟨q, k, rfl⟩ := hb.slice
  have x1 : ¬ H.next = H.next + 1 := by omega
  have hiff : a = b ↔ a.hn = b.hn ∧ a.hs = b.hs ∧ a.next = b.next ∧ a.used = b.used ∧ a.text = b.text := ⟨fun e => by subst e; exact ⟨rfl, rfl, rfl, rfl, rfl⟩, fun h => Pg.ext' h.1 h.2.1 h.2.2.1 h.2.2.2.1 h.2.2.2.2⟩
  obtain ⟨n, s, nx, us, ts⟩ := a
  obtain ⟨n', s', nx', us', ts'⟩ := b
  simp only at hiff c1
  by_cases h1 : n = n' ∧ s = s'
  · obtain ⟨rfl, rfl⟩ := h1
    by_cases h3 : nx = nx'
    · by_cases h4 : us = us'
      · by_cases h5 : ts = ts'
        · subst h3 h4 h5; simp [pgV, c1, x1, cellsEq, hiff]
        · subst h3 h4; simp [pgV, c1, x1, cellsEq, hiff, h5]
      · subst h3; simp [pgV, c1, x1, cellsEq, hiff, h4]
    · simp [pgV, c1, x1, cellsEq, hiff, h3]
  · have hne : ¬ (n = n' ∧ s = s' ∧ nx = nx' ∧ us = us' ∧ ts = ts') := fun h => h1 ⟨h.1, h.2.1⟩
    have h1' : (decide (n = n') && decide (s = s')) = false := by simpa using h1
    simp [pgV, c1, x1, cellsEq, hiff, hne, h1']
end Go.AM
end TextR6Ta
section TextR6Tb
/- Contracts: what writes steps down; copies of pagers. -/
namespace Go.AM
open Go.Proofs
set_option linter.unusedVariables false
set_option linter.unusedSimpArgs false
set_option maxRecDepth 100000
attribute [-simp] ByteArray.size_eq_zero_iff
/-- block sb holds a slice of steps, which is its own; its memory begins at block n1 or behind -/
structure SB (sb n1 : Nat) (G : Heap) (v : Value) (xs : List Stp) : Prop where
  blk : ∃ B, G.blk sb = some B ∧ B.ro = false ∧ B.at_ 0 = some v
  lo : sb < n1
  hi : n1 ≤ G.next
  own : Own encSt 3 n1 G v xs
/-- what does not change beside the steps -/
structure Fr (sb : Nat) (v : Value) (G G' : Heap) : Prop where
  next : G.next ≤ G'.next
  blk : ∀ b, b < G.next → b ≠ sb → NotIn v b → G'.blk b = G.blk b
theorem SB.low {sb n1 m : Nat} {G : Heap} {v : Value} {xs : List Stp} (h : SB sb n1 G v xs) (hm : sb < m) (hm2 : m ≤ n1) : SB sb m G v xs := ⟨h.blk, hm, Nat.le_trans hm2 h.hi, h.own.low hm2⟩
theorem SB.up {sb n1 : Nat} {G G' : Heap} {v : Value} {xs : List Stp} (h : SB sb n1 G v xs) (hE : Ext G G') : SB sb n1 G' v xs := by
  obtain ⟨B, h1, h2⟩ := h.blk
  have := h.lo; have := h.hi
  exact ⟨⟨B, by rw [hE.blk _ (by omega), h1], h2⟩, h.lo, Nat.le_trans h.hi hE.next, h.own.ext hE⟩
theorem Fr.up {sb : Nat} {v : Value} {G G1 G' : Heap} (h : Fr sb v G1 G') (hE : Ext G G1) : Fr sb v G G' := ⟨Nat.le_trans hE.next h.next, fun b hb h1 h2 => by rw [h.blk b (Nat.lt_of_lt_of_le hb hE.next) h1 h2, hE.blk b hb]⟩
theorem stw_ok (sb n1 : Nat) (G : Heap) (v : Value) (xs : List Stp) (a : Int) (half : ByteArray) (h : SB sb n1 G v xs) (hl : xs.length ≤ 1000) :
    wpf (call K f_plan_steps_write [.pointer (some ⟨sb, 0, none⟩), .int .i64 a, .string half] G) fun r G' => r = .tuple #[] ∧ Fr sb v G G' ∧ ∃ v', SB sb G.next G' v' (xs ++ [wrSt a half]) := by
  obtain ⟨⟨B, hB, hro, h0⟩, hlo, hhi, ho⟩ := h
  refine open_plain rfl fc_plan_steps_write rfl (Nat.le_of_ble_eq_true rfl) ?_
  have c0 : G.cell sb = B.at_ := by funext o; simp only [Heap.cell, hB]
  have a1 : ∀ X, appV (G.add X) 3 32 1 v [.bool false, .int .i64 a, .string (putP half)] = some (.slice (some ⟨G.next + 1, 0, none⟩) (xs.length + 1) (2 * (xs.length + 1)), (killB v (G.add X)).add (rowBlk 3 ((xs ++ [wrSt a half]).flatMap encSt))) := fun X => by
    have := (ho.ext ((Ext.refl _).add X)).app encSt_len (bytes := 32) (k := 1) [.bool false, .int .i64 a, .string (putP half)] (by omega) rfl (by omega) (by omega)
    rw [this, List.flatMap_append]
    simp [wrSt]
  have x1 : ¬ sb = G.next := by omega
  have x2 : ¬ sb = G.next + 1 := by omega
  have kk : ∀ X, (killB v (G.add X)).blk sb = some B := fun X => by rw [blk_killB (ho.notIn (by omega)), blk_add_old (by omega), hB]
  have ck : ∀ X, (killB v (G.add X)).cell sb = B.at_ := fun X => by funext o; simp only [Heap.cell, kk]
  simp [c0, h0, mkrowV, fillL, a1, x1, x2, kk, ck, hro]
  have on := Own.new' (enc := encSt) (sz := 3) (n0 := G.next) (b := G.next + 1) (H := killB v (G.add (rowBlk 3 [.bool false, .int .i64 a, .string (putP half)]))) (xs := xs ++ [wrSt a half]) (cs := xs.flatMap encSt ++ encSt (wrSt a half)) (by simp) (by omega) (by simp; omega) (by simp)
  rw [List.length_append, List.length_singleton] at on
  refine ⟨⟨by simp; omega, fun b hb hb2 hb3 => ?_⟩, .slice (some ⟨G.next + 1, 0, none⟩) (xs.length + 1) (2 * (xs.length + 1)), ⟨⟨_, blk_set_self _ _ _, hro, by simp⟩, by omega, by simp; omega, on.set (by omega) _⟩⟩
  rw [blk_set_ne hb2, blk_add_old (by simp; omega), blk_killB hb3, blk_add_old hb]
theorem stf_ok (sb n1 : Nat) (G : Heap) (v : Value) (xs : List Stp) (h : SB sb n1 G v xs) (hl : xs.length ≤ 1000) :
    wpf (call K f_plan_steps_flush [.pointer (some ⟨sb, 0, none⟩)] G) fun r G' => r = .tuple #[] ∧ Fr sb v G G' ∧ ∃ v', SB sb G.next G' v' (xs ++ [flSt]) := by
  obtain ⟨⟨B, hB, hro, h0⟩, hlo, hhi, ho⟩ := h
  refine open_plain rfl fc_plan_steps_flush rfl (Nat.le_of_ble_eq_true rfl) ?_
  have c0 : G.cell sb = B.at_ := by funext o; simp only [Heap.cell, hB]
  have a1 : ∀ X, appV (G.add X) 3 32 1 v [.bool true, .int .i64 0, .string ⟨#[]⟩] = some (.slice (some ⟨G.next + 1, 0, none⟩) (xs.length + 1) (2 * (xs.length + 1)), (killB v (G.add X)).add (rowBlk 3 ((xs ++ [flSt]).flatMap encSt))) := fun X => by
    have := (ho.ext ((Ext.refl _).add X)).app encSt_len (bytes := 32) (k := 1) [.bool true, .int .i64 0, .string ⟨#[]⟩] (by omega) rfl (by omega) (by omega)
    rw [this, List.flatMap_append]
    simp [flSt]
  have x1 : ¬ sb = G.next := by omega
  have x2 : ¬ sb = G.next + 1 := by omega
  have kk : ∀ X, (killB v (G.add X)).blk sb = some B := fun X => by rw [blk_killB (ho.notIn (by omega)), blk_add_old (by omega), hB]
  have ck : ∀ X, (killB v (G.add X)).cell sb = B.at_ := fun X => by funext o; simp only [Heap.cell, kk]
  simp [c0, h0, mkrowV, fillL, a1, x1, x2, kk, ck, hro]
  have on := Own.new' (enc := encSt) (sz := 3) (n0 := G.next) (b := G.next + 1) (H := killB v (G.add (rowBlk 3 [.bool true, .int .i64 0, .string ⟨#[]⟩]))) (xs := xs ++ [flSt]) (cs := xs.flatMap encSt ++ encSt flSt) (by simp) (by omega) (by simp; omega) (by simp)
  rw [List.length_append, List.length_singleton] at on
  refine ⟨⟨by simp; omega, fun b hb hb2 hb3 => ?_⟩, .slice (some ⟨G.next + 1, 0, none⟩) (xs.length + 1) (2 * (xs.length + 1)), ⟨⟨_, blk_set_self _ _ _, hro, by simp⟩, by omega, by simp; omega, on.set (by omega) _⟩⟩
  rw [blk_set_ne hb2, blk_add_old (by simp; omega), blk_killB hb3, blk_add_old hb]
theorem str_ok (sb n1 : Nat) (G : Heap) (v : Value) (xs : List Stp) (a q pg t : Int) (d : ByteArray) (h : SB sb n1 G v xs) (hl : xs.length ≤ 1000) :
    wpf (call K f_plan_steps_record [.pointer (some ⟨sb, 0, none⟩), .int .i64 a, .agg #[.int .i64 q, .int .i64 pg, .int .i64 t, .string d]] G) fun r G' => r = .tuple #[] ∧ Fr sb v G G' ∧ ∃ v', SB sb G.next G' v' (xs ++ [wrSt a (putR q pg t d).1]) := by
  refine open_plain rfl fc_plan_steps_record rfl (Nat.le_of_ble_eq_true rfl) ?_
  obtain ⟨_, G1, c1, rfl, F1, v1, S1⟩ := stw_ok sb n1 (G.add (rowBlk 4 [.int .i64 q, .int .i64 pg, .int .i64 t, .string d])) v xs a (putR q pg t d).1 (h.up ((Ext.refl _).add _)) hl
  simp [c1]
  have := h.lo; have := h.hi
  exact ⟨F1.up ((Ext.refl _).add _), v1, S1.low (by omega) (by simp)⟩
theorem sth_ok (sb n1 : Nat) (G : Heap) (v : Value) (xs : List Stp) (n s : Int) (h : SB sb n1 G v xs) (hl : xs.length ≤ 999) (hn : 0 ≤ n) :
    wpf (call K f_plan_steps_head [.pointer (some ⟨sb, 0, none⟩), .agg #[.int .i64 n, .int .i64 s]] G) fun r G' => r = .tuple #[] ∧ Fr sb v G G' ∧ ∃ v', SB sb G.next G' v' (xs ++ [hdSt n s, flSt]) := by
  refine open_plain rfl fc_plan_steps_head rfl (Nat.le_of_ble_eq_true rfl) ?_
  have lo := h.lo; have hi := h.hi
  obtain ⟨_, G1, c1, rfl, F1, v1, S1⟩ := stw_ok sb n1 (G.add (rowBlk 2 [.int .i64 n, .int .i64 s])) v xs (n % 2) (putH n s) (h.up ((Ext.refl _).add _)) (by omega)
  obtain ⟨_, G2, c2, rfl, F2, v2, S2⟩ := stf_ok sb _ G1 v1 _ S1 (by simp; omega)
  have hr : binV K.P .rem tyInt (.int .i64 n) (.int .i64 2) = some (.int .i64 (n % 2)) := by
    rw [binV_rem _ _ _ _ _ (by decide), Int.tmod_eq_emod_of_nonneg hn]
  simp [c1, c2, hr]
  have f1 := F1.next; have f2 := F2.next
  simp at f1
  refine ⟨⟨by omega, fun b hb h1 h2 => ?_⟩, v2, ?_⟩
  · rw [F2.blk b (by omega) h1 (S1.own.notIn (by simp; omega)), F1.blk b (by simp; omega) h1 h2, blk_add_old hb]
  · rw [List.append_assoc] at S2
    exact S2.low (by omega) (by omega)
theorem sameSteps_ok (va vb : Value) (xs ys : List Stp) (H : Heap) (ha : Rows encSt 3 H va xs) (hb : Rows encSt 3 H vb ys) : call K f_law0_SameSteps [va, vb] H = some (.bool (decide (xs = ys)), H) := by
  have hl := ha.lim
  obtain ⟨p, c, rfl⟩ := ha.slice
  obtain ⟨q, d, rfl⟩ := hb.slice
  refine of_wpf (open_pure rfl fc_law0_SameSteps rfl (Nat.le_of_ble_eq_true rfl) ?_)
  by_cases hlen : xs.length = ys.length
  · simp [hlen]
    refine wp_nxt (wp_for (fun k e H' => ∃ i, k = ys.length - i ∧ i ≤ ys.length ∧ H' = H.roAll ∧ e 5 = .int .i64 (i : Int) ∧ e 0 = .slice p ys.length c ∧ e 1 = .slice q ys.length d ∧ xs.take i = ys.take i) ys.length ⟨0, by simp⟩ ?_)
    rintro k e H' ⟨i, rfl, hi, rfl, h5, h0, h1, heq⟩
    by_cases hlt2 : i < ys.length
    · have hlt : i < xs.length := by omega
      obtain ⟨_, b, o, rfl, hb1, k0⟩ := ha.at_ hlt
      obtain ⟨_, b2, o2, rfl, hb2, j0⟩ := hb.at_ hlt2
      have hst := take_succ_eq hlt hlt2
      have hne : xs[i] ≠ ys[i] → xs ≠ ys := fun hn he => hn (by subst he; rfl)
      have k1 := k0 0 (by omega); have k2 := k0 1 (by omega); have k3 := k0 2 (by omega)
      have j1 := j0 0 (by omega); have j2 := j0 1 (by omega); have j3 := j0 2 (by omega)
      generalize xs[i] = x at *
      generalize ys[i] = y at *
      obtain ⟨x1, x2, x3⟩ := x
      obtain ⟨y1, y2, y3⟩ := y
      simp at k1 k2 k3 j1 j2 j3
      by_cases he : x1 = y1 ∧ x2 = y2 ∧ x3 = y3
      · obtain ⟨rfl, rfl, rfl⟩ := he
        simp [c_law0_SameSteps_l8, h5, h0, h1, hlt, hlt2, k1, k2, k3, j1, j2, j3]
        exact ⟨ys.length - (i + 1), by omega, i + 1, rfl, hlt2, wrap_succ (by omega), hst.2 ⟨heq, rfl⟩⟩
      · have hd : (decide (x1 = y1) && (decide (x2 = y2) && decide (x3 = y3))) = false := by
          rw [Bool.eq_false_iff]; intro h; simp only [Bool.and_eq_true, decide_eq_true_eq] at h; exact he h
        have hf := hne fun e => he (by cases e; exact ⟨rfl, rfl, rfl⟩)
        simp [c_law0_SameSteps_l8, h5, h0, h1, hlt, hlt2, k1, k2, k3, j1, j2, j3, cellsEq, hf, hd]
        
    · have : i = ys.length := by omega
      subst this
      simp [c_law0_SameSteps_l8, h5, h0]
      rw [List.take_length, ← hlen, List.take_length] at heq
      exact heq
  · simp [hlen]
    intro h
    subst h
    exact hlen rfl
end Go.AM
end TextR6Tb
section TextR6Tc
/- Contracts: Fresh, Format. -/
namespace Go.AM
open Go.Proofs
set_option linter.unusedVariables false
set_option linter.unusedSimpArgs false
set_option maxRecDepth 100000
attribute [-simp] ByteArray.size_eq_zero_iff
def rec0 (pg : Int) (tx : ByteArray) (k : Nat) : Rec := (1, pg, k, partD tx k)
def recs0 (pg : Int) (tx : ByteArray) : List Rec := (List.range 4).map (rec0 pg tx)
theorem parts0_ok (pg : Int) (tx : ByteArray) (H : Heap) (hb : tx.size ≤ 96) :
    wpf (call K f_log_Parts [.agg #[.int .i64 pg, .string tx], .int .i64 1, .int .i64 0] H) fun v H' => Ext H H' ∧ Own encR 4 H.next H' v (recs0 pg tx) := by
  refine open_plain rfl fc_log_Parts rfl (Nat.le_of_ble_eq_true rfl) ?_
  simp
  refine wp_nxt (wp_for (fun d e G => ∃ (i : Nat), d = 4 - i ∧ i ≤ 4 ∧ Ext H G ∧ H.next + 1 ≤ G.next ∧ e 3 = .pointer (some ⟨H.next, 0, none⟩) ∧ e 1 = .int .i64 1 ∧ e 2 = .int .i64 0 ∧ e 11 = .int .i64 (i : Int) ∧ G.cell H.next 0 = some (.int .i64 pg) ∧ G.cell H.next 1 = some (.string tx) ∧ Own encR 4 (H.next + 1) G (e 7) ((List.range i).map (rec0 pg tx))) 4 ⟨0, by simp [(Ext.refl H).add, Own.nil]⟩ ?_)
  rintro d e G ⟨i, rfl, hi, hE, hn, h3, h1, h2, h11, c0, c1, ho⟩
  by_cases hlt : i < 4
  · have w0 : (i : Int) < 4 := by omega
    obtain ⟨m, hm⟩ : ∃ m : Nat, m = i * 24 := ⟨_, rfl⟩
    have w1 : IntKind.i64.wrap ((i : Int) * 24) = (m : Int) := by rw [wrap_i64 (by omega) (by omega)]; omega
    obtain ⟨f, hf⟩ : ∃ f : Nat, f = min (i * 24) tx.size := ⟨_, rfl⟩
    have w2 : (if tx.size < m then (tx.size : Int) else (m : Int)) = (f : Int) := by split <;> omega
    obtain ⟨g, hg⟩ : ∃ g : Nat, g = f + 24 := ⟨_, rfl⟩
    have w3 : IntKind.i64.wrap ((f : Int) + 24) = (g : Int) := by rw [wrap_i64 (by omega) (by omega)]; omega
    obtain ⟨t, ht⟩ : ∃ t : Nat, t = min (i * 24 + 24) tx.size := ⟨_, rfl⟩
    have w4 : (if tx.size < g then (tx.size : Int) else (g : Int)) = (t : Int) := by split <;> omega
    have w5 : slsV tx (some (.int .i64 (f : Int))) (some (.int .i64 (t : Int))) = some (.string (partD tx i)) := by
      have a1 : f ≤ t := by omega
      have a2 : t ≤ tx.size := by omega
      simp [slsV, bound, a1, a2]; subst hf ht; rfl
    have w6 : IntKind.i64.wrap 0 = 0 := by decide
    have w7 : IntKind.i64.wrap 1 = 1 := by decide
    have hne : H.next ≠ G.next := by omega
    have hA : ∀ B, appV (G.add B) 4 40 1 (e 7) [.int .i64 1, .int .i64 pg, .int .i64 (i : Int), .string (partD tx i)] = some (.slice (some ⟨G.next + 1, 0, none⟩) (i + 1) (2 * (i + 1)), (killB (e 7) (G.add B)).add (rowBlk 4 (((List.range (i + 1)).map (rec0 pg tx)).flatMap encR))) := fun B => by
      have hx := (ho.ext ((Ext.refl G).add B)).app encR_len (bytes := 40) (k := 1) [.int .i64 1, .int .i64 pg, .int .i64 (i : Int), .string (partD tx i)] (by omega) rfl (by simp; omega) (by simp; omega)
      rw [hx]
      simp [List.range_succ, rec0]
    have hk : ∀ B o, (killB (e 7) (G.add B)).cell H.next o = (G.add B).cell H.next o := fun B o => cell_killB (ho.notIn (by omega))
    have hne2 : H.next ≠ G.next + 1 := by omega
    simp [c_log_Parts_l9, h3, h1, h2, h11, c0, c1, w0, w1, w2, w3, w4, w5, w6, w7, hne, hne2, hk, hA]
    refine ⟨4 - (i + 1), by omega, i + 1, rfl, hlt, (ho.ext_kill (by omega) (hE.add _)).add _, by omega, wrap_succ (by omega), ?_⟩
    have hz := Own.new (enc := encR) (sz := 4) (n0 := H.next + 1) (H := killB (e 7) (G.add (rowBlk 4 [.int .i64 1, .int .i64 pg, .int .i64 (i : Int), .string (partD tx i)]))) (xs := (List.range (i + 1)).map (rec0 pg tx)) (by simp; omega) (by simp; omega) _ rfl
    simpa using hz
  · obtain rfl : i = 4 := by omega
    simp [c_log_Parts_l9, h11, h3]
    exact ⟨hE, ho.low (by omega)⟩
theorem notIn_slice {b b2 o n c : Nat} {sp} (h : b ≠ b2) : NotIn (.slice (some ⟨b2, o, sp⟩) n c) b := fun a n c e => by cases e; exact h
def pgB : Pg := ⟨0, 1, 1, 0, List.replicate 48 ⟨#[]⟩⟩
theorem oblank_ok (H : Heap) : wpf (call K f_open_Blank [] H) fun r H' => Ext H H' ∧ ∃ t, r = pgV pgB t ∧ Strs H' t pgB.text ∧ ∀ b, b < H.next → NotIn t b := by
  refine open_plain rfl fc_open_Blank rfl (Nat.le_of_ble_eq_true rfl) ?_
  obtain ⟨G0, hG0⟩ : ∃ G0, G0 = H.add z5 := ⟨_, rfl⟩
  have b1 : G0.blk H.next = some z5 := by subst hG0; simp
  have cz : G0.cell H.next = z5.at_ := by funext o; simp only [Heap.cell, b1]
  have n0 : G0.next = H.next + 1 := by subst hG0; simp
  have x1 : ¬ H.next = G0.next := by omega
  simp [← hG0, natOf_int, b1, cz, x1]
  refine ⟨(((by subst hG0; exact (Ext.refl _).add _ : Ext H G0).add _).set (Nat.le_refl _) _), .slice (some ⟨G0.next, 0, none⟩) 48 97, rfl, ?_, fun b hb => notIn_slice (by omega)⟩
  refine ⟨by simp [pgB], some ⟨G0.next, 0, none⟩, 97, by simp [pgB], .inr ⟨G0.next, 0, rfl, by simp, by simp [pgB], fun i hi j hj => ?_⟩⟩
  have hi' : i < 48 := by simpa [pgB] using hi
  obtain rfl : j = 0 := by omega
  have x2 : ¬ G0.next = H.next := by omega
  have e : pgB.text[i]'hi = ⟨#[]⟩ := List.getElem_replicate _
  rw [e]
  simp [x2, hi', Nat.mod_one]
theorem rblank_ok (H : Heap) : wpf (call K f_ref1_Blank [] H) fun r H' => Ext H H' ∧ ∃ t, r = pgV pgB t ∧ Strs H' t pgB.text ∧ ∀ b, b < H.next → NotIn t b := by
  refine open_plain rfl fc_ref1_Blank rfl (Nat.le_of_ble_eq_true rfl) ?_
  obtain ⟨G0, hG0⟩ : ∃ G0, G0 = H.add z5 := ⟨_, rfl⟩
  have b1 : G0.blk H.next = some z5 := by subst hG0; simp
  have cz : G0.cell H.next = z5.at_ := by funext o; simp only [Heap.cell, b1]
  have n0 : G0.next = H.next + 1 := by subst hG0; simp
  have x1 : ¬ H.next = G0.next := by omega
  simp [← hG0, natOf_int, b1, cz, x1]
  refine ⟨(((by subst hG0; exact (Ext.refl _).add _ : Ext H G0).add _).set (Nat.le_refl _) _), .slice (some ⟨G0.next, 0, none⟩) 48 97, rfl, ?_, fun b hb => notIn_slice (by omega)⟩
  refine ⟨by simp [pgB], some ⟨G0.next, 0, none⟩, 97, by simp [pgB], .inr ⟨G0.next, 0, rfl, by simp, by simp [pgB], fun i hi j hj => ?_⟩⟩
  have hi' : i < 48 := by simpa [pgB] using hi
  obtain rfl : j = 0 := by omega
  have x2 : ¬ G0.next = H.next := by omega
  have e : pgB.text[i]'hi = ⟨#[]⟩ := List.getElem_replicate _
  rw [e]
  simp [x2, hi', Nat.mod_one]
/-- the writes of a page's home -/
def txt (p : Pg) (pg : Nat) : ByteArray := p.text[pg]?.getD ⟨#[]⟩
def freshW (p : Pg) (pg : Nat) : List Stp := (List.range 4).map fun j => wrSt ((202 + 4 * pg + j : Nat) : Int) (putR 1 pg j (partD (txt p pg) j)).1
def freshHome (p : Pg) (n : Nat) : List Stp := (List.range n).flatMap (freshW p)
def freshS (p : Pg) : List Stp := freshHome p 48 ++ [flSt, hdSt (p.hn + 1) (p.next + 200), flSt]
def freshQ (p : Pg) : Pg := ⟨p.hn + 1, p.next + 200, p.next + 200, 0, p.text⟩
def freshR (p : Pg) : List Stp × Pg × Int := if pgRoom p then (freshS p, freshQ p, 0) else ([], pgO, 800)
theorem freshW_len (p : Pg) (pg : Nat) : (freshW p pg).length = 4 := rfl
theorem freshHome_len (p : Pg) : ∀ n, (freshHome p n).length = 4 * n
  | 0 => rfl
  | n + 1 => by
    have := freshHome_len p n
    unfold freshHome at this ⊢
    rw [List.range_succ, List.flatMap_append, List.length_append, this]
    simp [freshW_len]; omega
theorem freshHome_succ (p : Pg) (n : Nat) : freshHome p (n + 1) = freshHome p n ++ freshW p n := by
  unfold freshHome
  rw [List.range_succ, List.flatMap_append]; simp
theorem pgRoom_of {p : Pg} (h : pgRoom p = true) : hdMay p.hn p.hs ∧ (1 ≤ p.next ∧ p.next ≤ 2147482647) ∧ (0 ≤ p.used ∧ p.used ≤ 200) ∧ p.text.length = 48 ∧ (∀ s ∈ p.text, s.size ≤ 96) ∧ p.hn ≤ 2147482647 := by
  simp only [pgRoom, pgMay, Bool.and_eq_true, decide_eq_true_eq, List.all_eq_true] at h
  obtain ⟨⟨⟨⟨⟨⟨⟨h1, h2⟩, h3⟩, h4⟩, h5⟩, h6⟩, h7⟩, h8⟩ := h
  exact ⟨h1, ⟨h2.1, h8⟩, ⟨h3, h4⟩, h5, h6, h7⟩
theorem fresh_ok (p : Pg) (t : Value) (H : Heap) (h : Strs H t p.text) : wpf (call K f_plan_Fresh [pgV p t] H) fun r H' => Ext H H' ∧ ∃ sv t', r = .tuple #[sv, pgV (freshR p).2.1 t', .int .i64 (freshR p).2.2] ∧ Own encSt 3 H.next H' sv (freshR p).1 ∧ OwnZ encS 1 H.next H' t' (freshR p).2.1.text ∧ ∀ b, ¬ NotIn sv b → NotIn t' b := by
  refine open_plain rfl fc_plan_Fresh rfl (Nat.le_of_ble_eq_true rfl) ?_
  obtain ⟨q, k, rfl⟩ := h.slice
  obtain ⟨PB, hPB⟩ : ∃ PB, PB = rowBlk 5 [.int .i64 p.hn, .int .i64 p.hs, .int .i64 p.next, .int .i64 p.used, .slice q p.text.length k] := ⟨_, rfl⟩
  have q0 : PB.at_ 0 = some (.int .i64 p.hn) := by subst hPB; rfl
  have q1 : PB.at_ 1 = some (.int .i64 p.hs) := by subst hPB; rfl
  have q2 : PB.at_ 2 = some (.int .i64 p.next) := by subst hPB; rfl
  have q3 : PB.at_ 3 = some (.int .i64 p.used) := by subst hPB; rfl
  have q4 : PB.at_ 4 = some (.slice q p.text.length k) := by subst hPB; rfl
  obtain ⟨G0, hG0⟩ : ∃ G0, G0 = (H.add PB).add z5 := ⟨_, rfl⟩
  have E0 : Ext H G0 := by subst hG0; exact ((Ext.refl _).add _).add _
  have n0 : G0.next = H.next + 2 := by subst hG0; simp
  have b0 : G0.blk H.next = some PB := by subst hG0; simp
  have c0 : G0.cell H.next = PB.at_ := by funext o; simp only [Heap.cell, b0]
  have b1 : G0.blk (H.next + 1) = some z5 := by subst hG0; simp
  have cz : G0.cell (H.next + 1) = z5.at_ := by funext o; simp only [Heap.cell, b1]
  have my : call K f_plan_may [.agg #[.int .i64 p.hn, .int .i64 p.hs, .int .i64 p.next, .int .i64 p.used, .slice q p.text.length k]] G0 = some (.bool (pgRoom p), G0) := pmay2_ok p _ G0 (h.ext E0)
  by_cases hR : pgRoom p = true
  · obtain ⟨m1, m2, m3, m4, m5, m6⟩ := pgRoom_of hR
    have m4' : (p.text.length : Int) = 48 := by omega
    have hF : freshR p = (freshS p, freshQ p, 0) := if_pos hR
    rw [hF]
    have xx : ¬ H.next = G0.next := by omega
    simp [pgV, ← hPB, ← hG0, my, hR, c0, q0, q1, q2, q3, q4, m4', xx]
    refine wp_nxt (wp_for (fun dd e G => ∃ (i : Nat) (v : Value), dd = 48 - i ∧ i ≤ 48 ∧ Ext H G ∧ G.blk H.next = some PB ∧ G.blk (H.next + 1) = some z5 ∧ SB G0.next (G0.next + 1) G v (freshHome p i) ∧
      e 1 = .pointer (some ⟨H.next, 0, none⟩) ∧ e 3 = .pointer (some ⟨H.next + 1, 0, none⟩) ∧ e 5 = .pointer (some ⟨G0.next, 0, none⟩) ∧ e 16 = .slice q p.text.length k ∧ e 17 = .int .i64 48 ∧ e 18 = .int .i64 (i : Int)) 48
      ⟨0, .slice none 0 0, by simp, by simp, E0.add _, ?_, ?_, ⟨⟨_, blk_add_new _ _, rfl, rfl⟩, by omega, by simp, Own.nil⟩, by simp, by simp, by simp [ptr], by simp, by simp, by simp⟩ ?_)
    · rw [blk_add_old (by omega), b0]
    · rw [blk_add_old (by omega), b1]
    rintro dd e G ⟨i, v, rfl, hi, hE, hb0, hb1, hS, h1, h3, h5, h16, h17, h18⟩
    have hlo := hS.lo; have hhi := hS.hi
    by_cases hlt : i < 48
    · have w1 : (i : Int) < 48 := by omega
      obtain ⟨b, o, rfl, hb, k0⟩ := (h.ext hE).at1 (i := i) (by omega)
      have hx : (p.text[i]'(by omega)).size ≤ 96 := m5 _ (List.getElem_mem _)
      have htx : txt p i = p.text[i]'(by omega) := by simp [txt, List.getElem?_eq_getElem (show i < p.text.length by omega)]
      rw [← htx] at k0 hx
      obtain ⟨tx, htx2⟩ : ∃ tx, tx = txt p i := ⟨_, rfl⟩
      rw [← htx2] at k0 hx
      obtain ⟨v2, G1, c1, E1, o1⟩ := parts0_ok (i : Int) tx G hx
      have e1 := E1.next
      obtain ⟨b2, B2, rfl, hb2, hb3, _⟩ := o1.blkOf encR_len (by simp [recs0])
      have hl2 : (recs0 (i : Int) tx).length = 4 := rfl
      rw [hl2] at c1 o1
      simp at k0
      have ilt : i < p.text.length := by omega
      simp [c_plan_Fresh_l14, h16, h17, h18, w1, ilt, k0, c1]
      refine wp_nxt (wp_unblock (wp_for (fun dd e2 G2 => ∃ (j : Nat) (v' : Value), dd = 4 - j ∧ j ≤ 4 ∧ Ext H G2 ∧ G1.next ≤ G2.next ∧ G2.blk H.next = some PB ∧ G2.blk (H.next + 1) = some z5 ∧ SB G0.next (G0.next + 1) G2 v' (freshHome p i ++ (freshW p i).take j) ∧ NotIn v' b2 ∧ Own encR 4 G.next G2 (.slice (some ⟨b2, 0, none⟩) 4 (2 * 4)) (recs0 (i : Int) tx) ∧
        e2 1 = .pointer (some ⟨H.next, 0, none⟩) ∧ e2 3 = .pointer (some ⟨H.next + 1, 0, none⟩) ∧ e2 5 = .pointer (some ⟨G0.next, 0, none⟩) ∧ e2 16 = .slice (some ⟨b, o, none⟩) p.text.length k ∧ e2 17 = .int .i64 48 ∧ e2 18 = .int .i64 (i : Int) ∧
        e2 6 = .int .i64 (i : Int) ∧ e2 26 = .slice (some ⟨b2, 0, none⟩) 4 (2 * 4) ∧ e2 27 = .int .i64 4 ∧ e2 28 = .int .i64 (j : Int)) 4
        ⟨0, v, by simp, by simp, hE.trans E1, Nat.le_refl _, ?_, ?_, by simpa using hS.up E1, hS.own.below.notIn hb2, o1, by simp [h1], by simp [h3], by simp [h5], by simp [h16], by simp [h17], by simp [h18], by simp, by simp, by simp, by simp⟩ ?_))
      · rw [E1.blk _ (by omega), hb0]
      · rw [E1.blk _ (by omega), hb1]
      rintro dd e2 G2 ⟨j, v', rfl, hj, hE2, hn2, gb0, gb1, hS2, hnv, o2, k1, k3, k5, k16, k17, k18, k6, k26, k27, k28⟩
      have hlo2 := hS2.lo; have hhi2 := hS2.hi
      by_cases hlt2 : j < 4
      · have w2 : (j : Int) < 4 := by omega
        obtain ⟨_, bb, oo, ebb, hbb, kc⟩ := (o2.rows encR_len).at_ (i := j) (by rw [hl2]; exact hlt2)
        cases ebb
        have kc0 := kc 0 (by omega); have kc1 := kc 1 (by omega); have kc2 := kc 2 (by omega); have kc3 := kc 3 (by omega)
        have er : (recs0 (i : Int) tx)[j]'(by rw [hl2]; exact hlt2) = (1, (i : Int), (j : Int), partD tx j) := by simp [recs0, rec0]
        rw [er] at kc0 kc1 kc2 kc3
        simp at kc0 kc1 kc2 kc3
        have cH := ohome_ok i j hlt hlt2
        obtain ⟨a, ha⟩ : ∃ a, a = 202 + 4 * i + j := ⟨_, rfl⟩
        rw [← ha] at cH
        obtain ⟨G3, hG3⟩ : ∃ G3, G3 = (G2.add (rowBlk 4 [.int .i64 0, .int .i64 0, .int .i64 0, .string ⟨#[]⟩])).set G2.next (some (((((rowBlk 4 [.int .i64 0, .int .i64 0, .int .i64 0, .string ⟨#[]⟩]).put 0 (.int .i64 1)).put 1 (.int .i64 (i : Int))).put 2 (.int .i64 (j : Int))).put 3 (.string (partD tx j)))) := ⟨_, rfl⟩
        have E3 : Ext G2 G3 := by subst hG3; exact ((Ext.refl _).add _).set (Nat.le_refl _) _
        have n3 : G3.next = G2.next + 1 := by subst hG3; simp
        have b3 : G3.blk G2.next = some (((((rowBlk 4 [.int .i64 0, .int .i64 0, .int .i64 0, .string ⟨#[]⟩]).put 0 (.int .i64 1)).put 1 (.int .i64 (i : Int))).put 2 (.int .i64 (j : Int))).put 3 (.string (partD tx j))) := by subst hG3; simp
        have cc3 : G3.cell G2.next = (((((rowBlk 4 [.int .i64 0, .int .i64 0, .int .i64 0, .string ⟨#[]⟩]).put 0 (.int .i64 1)).put 1 (.int .i64 (i : Int))).put 2 (.int .i64 (j : Int))).put 3 (.string (partD tx j))).at_ := by funext o; simp only [Heap.cell, b3]
        have hlen : (freshHome p i ++ (freshW p i).take j).length = 4 * i + j := by rw [List.length_append, freshHome_len, List.length_take, freshW_len]; omega
        obtain ⟨_, G4, c4, rfl, F4, v4, S4⟩ := str_ok G0.next _ G3 v' _ (a : Int) 1 (i : Int) (j : Int) (partD tx j) (hS2.up E3) (by rw [hlen]; omega)
        have f4 := F4.next
        have zb : ¬ b2 = G2.next := by omega
        simp [c_plan_Fresh_l12, k26, k27, k28, w2, hlt2, kc0, kc1, kc2, kc3, zb, ← hG3, run_regd_tr, finD_some, Chk, wanted, k6, k5, cc3, cH, c4]
        have hE4 : Ext H G4 := ⟨by have := hE2.next; omega, fun b' hb' => by rw [F4.blk b' (by have := hE2.next; omega) (by omega) (hS2.own.notIn (by omega)), E3.blk b' (by have := hE2.next; omega), hE2.blk b' hb']⟩
        have ew : freshHome p i ++ (freshW p i).take j ++ [wrSt (a : Int) (putR 1 (i : Int) (j : Int) (partD tx j)).1] = freshHome p i ++ (freshW p i).take (j + 1) := by
          rw [List.append_assoc, List.take_succ_eq_append_getElem (by rw [freshW_len]; exact hlt2)]
          simp [freshW, htx2, ha]
        rw [ew] at S4
        refine ⟨4 - (j + 1), by omega, j + 1, rfl, by omega, hE4, by omega, ?_, ?_, v4, S4.low (by omega) (by omega), S4.own.notIn (by omega), (o2.ext E3).frame f4 fun b' _ hb' hnn => ?_, k1, k3, k16, k17, k18, wrap_succ (by omega)⟩
        · rw [F4.blk _ (by omega) (by omega) (hS2.own.notIn (by omega)), E3.blk _ (by omega), gb0]
        · rw [F4.blk _ (by omega) (by omega) (hS2.own.notIn (by omega)), E3.blk _ (by omega), gb1]
        · have : b' = b2 := Classical.byContradiction fun hne => hnn (notIn_slice hne)
          subst this
          exact F4.blk _ hb' (by omega) hnv
      · obtain rfl : j = 4 := by omega
        rw [List.take_of_length_le (by rw [freshW_len]; omega), ← freshHome_succ] at hS2
        have w3 : IntKind.i64.wrap ((i : Int) + 1) = ((i + 1 : Nat) : Int) := wrap_succ (by omega)
        simp [c_plan_Fresh_l12, k27, k28, k18]
        exact ⟨48 - (i + 1), by omega, i + 1, rfl, by omega, hE2, gb0, gb1, ⟨v', hS2⟩, k1, k3, k5, k16, k17, w3⟩
    · obtain rfl : i = 48 := by omega
      obtain ⟨_, G1, c1, rfl, F1, v1, S1⟩ := stf_ok G0.next _ G v _ hS (by rw [freshHome_len]; omega)
      have f1 := F1.next
      have low : ∀ b, b < G0.next → G1.blk b = G.blk b := fun b hb => F1.blk b (by omega) (by omega) (hS.own.notIn (by omega))
      have g0 : G1.blk H.next = some PB := by rw [low _ (by omega), hb0]
      have g1 : G1.blk (H.next + 1) = some z5 := by rw [low _ (by omega), hb1]
      have cg0 : G1.cell H.next = PB.at_ := by funext o; simp only [Heap.cell, g0]
      have w1 : IntKind.i64.wrap (p.hn + 1) = p.hn + 1 := wrap_i64 (by have := m1.1; omega) (by omega)
      have w2 : IntKind.i64.wrap (p.next + 200) = p.next + 200 := wrap_i64 (by omega) (by omega)
      obtain ⟨G2, hG2⟩ : ∃ G2, G2 = (G1.add (rowBlk 2 [.int .i64 0, .int .i64 0])).set G1.next (some (((rowBlk 2 [.int .i64 0, .int .i64 0]).put 0 (.int .i64 (p.hn + 1))).put 1 (.int .i64 (p.next + 200)))) := ⟨_, rfl⟩
      have E2 : Ext G1 G2 := by subst hG2; exact ((Ext.refl _).add _).set (Nat.le_refl _) _
      have n2 : G2.next = G1.next + 1 := by subst hG2; simp
      have hb2 : G2.blk G1.next = some (((rowBlk 2 [.int .i64 0, .int .i64 0]).put 0 (.int .i64 (p.hn + 1))).put 1 (.int .i64 (p.next + 200))) := by subst hG2; simp
      have hc2 : G2.cell G1.next = (((rowBlk 2 [.int .i64 0, .int .i64 0]).put 0 (.int .i64 (p.hn + 1))).put 1 (.int .i64 (p.next + 200))).at_ := by funext o; simp only [Heap.cell, hb2]
      obtain ⟨_, G3, c3, rfl, F3, v3, S3⟩ := sth_ok G0.next _ G2 v1 _ (p.hn + 1) (p.next + 200) (S1.up E2) (by rw [List.length_append, freshHome_len]; simp) (by have := m1.1; omega)
      have f3 := F3.next
      have low3 : ∀ b, b < G0.next → G3.blk b = G.blk b := fun b hb => by rw [F3.blk b (by omega) (by omega) (S1.own.notIn (by omega)), E2.blk b (by omega), low b hb]
      have hE3 : Ext H G3 := ⟨by have := hE.next; omega, fun b hb => by rw [low3 b (by omega), hE.blk b hb]⟩
      have g30 : G3.blk H.next = some PB := by rw [low3 _ (by omega), hb0]
      have g31 : G3.blk (H.next + 1) = some z5 := by rw [low3 _ (by omega), hb1]
      have g32 : G3.blk G1.next = some (((rowBlk 2 [.int .i64 0, .int .i64 0]).put 0 (.int .i64 (p.hn + 1))).put 1 (.int .i64 (p.next + 200))) := by rw [F3.blk _ (by omega) (by omega) (S1.own.below.notIn (Nat.le_refl _)), hb2]
      obtain ⟨SBk, s0, s1, s2⟩ := S3.blk
      obtain ⟨u, G4, c4, E4, oZ⟩ := cloneS_ok (.slice q p.text.length k) p.text G3 (h.ext hE3) (by omega)
      have e4 := E4.next
      obtain ⟨pu, ku, rfl⟩ := (oZ.rows encS_len).slice
      have cs3 : G3.cell G0.next = SBk.at_ := by funext o; simp only [Heap.cell, s0]
      have ch3 : G3.cell G1.next = (((rowBlk 2 [.int .i64 0, .int .i64 0]).put 0 (.int .i64 (p.hn + 1))).put 1 (.int .i64 (p.next + 200))).at_ := by funext o; simp only [Heap.cell, g32]
      have cp3 : G3.cell H.next = PB.at_ := by funext o; simp only [Heap.cell, g30]
      have cs4 : G4.cell G0.next = SBk.at_ := by funext o; rw [E4.cell (by omega), cs3]
      have ch4 : G4.cell G1.next = (((rowBlk 2 [.int .i64 0, .int .i64 0]).put 0 (.int .i64 (p.hn + 1))).put 1 (.int .i64 (p.next + 200))).at_ := by funext o; rw [E4.cell (by omega), ch3]
      have cp4 : G4.cell H.next = PB.at_ := by funext o; rw [E4.cell (by omega), cp3]
      have g41 : G4.blk (H.next + 1) = some z5 := by rw [E4.blk _ (by omega), g31]
      have cz4 : G4.cell (H.next + 1) = z5.at_ := by funext o; simp only [Heap.cell, g41]
      have ov3 := S3.own
      obtain ⟨ps, ks, rfl, _⟩ := ov3.slc
      have hes : freshHome p 48 ++ [flSt] ++ [hdSt (p.hn + 1) (p.next + 200), flSt] = freshS p := by rw [List.append_assoc]; rfl
      rw [hes] at ov3 s2
      simp [c_plan_Fresh_l14, h1, h3, h5, h17, h18, c1, cg0, q0, q1, q2, q3, q4, w1, w2, ← hG2, hc2, c3, cs3, s2, ch3, cp3, run_regd_tr, finD_some, Chk, wanted, c4, cs4, ch4, cp4, g41, cz4]
      refine ⟨(hE3.trans E4).set (by omega) _, _, _, ⟨rfl, rfl, rfl, rfl, rfl, rfl⟩, ((ov3.ext E4).set (by have := hE.next; omega) _).low (by have := hE.next; omega), (oZ.frame (by simp) fun b hb _ _ => blk_set_ne (by omega)).low (by have := hE3.next; omega), fun b hb => oZ.notIn (Nat.lt_of_not_le fun hh => hb (ov3.below.notIn hh))⟩
  · have hR' : pgRoom p = false := by simpa using hR
    have hF : freshR p = ([], pgO, 800) := by rw [freshR, hR']; rfl
    rw [hF]
    have nE : ∀ f, Ext H (G0.set (H.next + 1) f) := fun f => E0.set (by omega) f
    simp [pgV, ← hPB, ← hG0, my, hR', c0, q0, q1, q2, q3, q4, b1, cz, nE, pgO]
    exact ⟨_, _, ⟨rfl, rfl⟩, Own.nil, OwnZ.nil, fun b _ => notIn_nil⟩
end Go.AM
end TextR6Tc
section TextR6Td
/- Contract: the document's Fresh. -/
namespace Go.AM
open Go.Proofs
set_option linter.unusedVariables false
set_option linter.unusedSimpArgs false
set_option maxRecDepth 100000
attribute [-simp] ByteArray.size_eq_zero_iff
theorem rfresh_ok (p : Pg) (t : Value) (H : Heap) (h : Strs H t p.text) : wpf (call K f_ref1_Fresh [pgV p t] H) fun r H' => Ext H H' ∧ ∃ sv t', r = .tuple #[sv, pgV (freshR p).2.1 t', .int .i64 (freshR p).2.2] ∧ Own encSt 3 H.next H' sv (freshR p).1 ∧ OwnZ encS 1 H.next H' t' (freshR p).2.1.text ∧ ∀ b, ¬ NotIn sv b → NotIn t' b := by
  refine open_plain rfl fc_ref1_Fresh rfl (Nat.le_of_ble_eq_true rfl) ?_
  obtain ⟨q, k, rfl⟩ := h.slice
  obtain ⟨PB, hPB⟩ : ∃ PB, PB = rowBlk 5 [.int .i64 p.hn, .int .i64 p.hs, .int .i64 p.next, .int .i64 p.used, .slice q p.text.length k] := ⟨_, rfl⟩
  have q0 : PB.at_ 0 = some (.int .i64 p.hn) := by subst hPB; rfl
  have q1 : PB.at_ 1 = some (.int .i64 p.hs) := by subst hPB; rfl
  have q2 : PB.at_ 2 = some (.int .i64 p.next) := by subst hPB; rfl
  have q3 : PB.at_ 3 = some (.int .i64 p.used) := by subst hPB; rfl
  have q4 : PB.at_ 4 = some (.slice q p.text.length k) := by subst hPB; rfl
  obtain ⟨G0, hG0⟩ : ∃ G0, G0 = (H.add PB).add z5 := ⟨_, rfl⟩
  have E0 : Ext H G0 := by subst hG0; exact ((Ext.refl _).add _).add _
  have n0 : G0.next = H.next + 2 := by subst hG0; simp
  have b0 : G0.blk H.next = some PB := by subst hG0; simp
  have c0 : G0.cell H.next = PB.at_ := by funext o; simp only [Heap.cell, b0]
  have b1 : G0.blk (H.next + 1) = some z5 := by subst hG0; simp
  have cz : G0.cell (H.next + 1) = z5.at_ := by funext o; simp only [Heap.cell, b1]
  have my : call K f_ref1_roomy [.agg #[.int .i64 p.hn, .int .i64 p.hs, .int .i64 p.next, .int .i64 p.used, .slice q p.text.length k]] G0 = some (.bool (pgRoom p), G0) := rroomy_ok p _ G0 (h.ext E0)
  by_cases hR : pgRoom p = true
  · obtain ⟨m1, m2, m3, m4, m5, m6⟩ := pgRoom_of hR
    have m4' : (p.text.length : Int) = 48 := by omega
    have hF : freshR p = (freshS p, freshQ p, 0) := if_pos hR
    rw [hF]
    have xx : ¬ H.next = G0.next := by omega
    simp [pgV, ← hPB, ← hG0, my, hR, c0, q0, q1, q2, q3, q4, m4', xx]
    refine wp_nxt (wp_for (fun dd e G => ∃ i : Nat, dd = 48 - i ∧ i ≤ 48 ∧ Ext G0 G ∧ Own encSt 3 G0.next G (e 5) (freshHome p i) ∧
      e 1 = .pointer (some ⟨H.next, 0, none⟩) ∧ e 3 = .pointer (some ⟨H.next + 1, 0, none⟩) ∧ e 6 = .int .i64 (i : Int)) 48
      ⟨0, by simp, by simp, Ext.refl _, by simpa [freshHome] using Own.nil, by simp, by simp, by simp⟩ ?_)
    rintro dd e G ⟨i, rfl, hi, hE, ho, h1, h3, h6⟩
    by_cases hlt : i < 48
    · have w1 : (i : Int) < 48 := by omega
      simp [c_ref1_Fresh_l13, h6, w1]
      refine wp_nxt (wp_unblock (wp_for (fun dd e2 G2 => ∃ j : Nat, dd = 4 - j ∧ j ≤ 4 ∧ Ext G0 G2 ∧ Own encSt 3 G0.next G2 (e2 5) (freshHome p i ++ (freshW p i).take j) ∧
        e2 1 = .pointer (some ⟨H.next, 0, none⟩) ∧ e2 3 = .pointer (some ⟨H.next + 1, 0, none⟩) ∧ e2 6 = .int .i64 (i : Int) ∧ e2 7 = .int .i64 (j : Int)) 4
        ⟨0, by simp, by simp, hE, by simpa using ho, by simp [h1], by simp [h3], by simp [h6], by simp⟩ ?_))
      rintro dd e2 G2 ⟨j, rfl, hj, hE2, ho2, k1, k3, k6, k7⟩
      by_cases hlt2 : j < 4
      · have w2 : (j : Int) < 4 := by omega
        obtain ⟨b, o, rfl, hb, k0⟩ := ((h.ext E0).ext hE2).at1 (i := i) (by omega)
        have hx : (p.text[i]'(by omega)).size ≤ 96 := m5 _ (List.getElem_mem _)
        have htx : txt p i = p.text[i]'(by omega) := by simp [txt, List.getElem?_eq_getElem (show i < p.text.length by omega)]
        rw [← htx] at k0 hx
        obtain ⟨tx, htx2⟩ : ∃ tx, tx = txt p i := ⟨_, rfl⟩
        rw [← htx2] at k0 hx
        simp at k0
        have ilt : i < p.text.length := by omega
        have e2n := hE2.next
        have bp : G2.blk H.next = some PB := by rw [hE2.blk _ (by omega), b0]
        have cp : G2.cell H.next = PB.at_ := by funext o; simp only [Heap.cell, bp]
        have cH := rhome_ok i j hlt hlt2
        obtain ⟨a, ha⟩ : ∃ a, a = 202 + 4 * i + j := ⟨_, rfl⟩
        rw [← ha] at cH
        have cP := fun H => rpart_ok tx j H hx hlt2
        have hlen : (freshHome p i ++ (freshW p i).take j).length = 4 * i + j := by rw [List.length_append, freshHome_len, List.length_take, freshW_len]; omega
        have ew : freshHome p i ++ (freshW p i).take (j + 1) = freshHome p i ++ (freshW p i).take j ++ [wrSt (a : Int) (putR 1 (i : Int) (j : Int) (partD tx j)).1] := by
          rw [List.append_assoc, List.take_succ_eq_append_getElem (by rw [freshW_len]; exact hlt2)]
          simp [freshW, htx2, ha]
        have a1 : ∀ X, appV (G2.add X) 3 32 1 (e2 5) [.bool false, .int .i64 (a : Int), .string (putP (putR 1 (i : Int) (j : Int) (partD tx j)).1)] = some (.slice (some ⟨G2.next + 1, 0, none⟩) (4 * i + j + 1) (2 * (4 * i + j + 1)), (killB (e2 5) (G2.add X)).add (rowBlk 3 ((freshHome p i ++ (freshW p i).take (j + 1)).flatMap encSt))) := fun X => by
          have := (ho2.ext ((Ext.refl _).add X)).app encSt_len (bytes := 32) (k := 1) [.bool false, .int .i64 (a : Int), .string (putP (putR 1 (i : Int) (j : Int) (partD tx j)).1)] (by omega) rfl (by omega) (by omega)
          rw [hlen] at this
          rw [this, ew, List.flatMap_append (xs := freshHome p i ++ (freshW p i).take j)]
          simp [wrSt]
        simp [c_ref1_Fresh_l11, k1, k3, k6, k7, w2, cp, q4, ilt, k0, cP, cH, rwrite_ok, mkrowV, fillL, a1]
        have on := Own.new' (enc := encSt) (sz := 3) (n0 := G0.next) (b := G2.next + 1) (H := killB (e2 5) (G2.add (rowBlk 3 [.bool false, .int .i64 (a : Int), .string (putP (putR 1 (i : Int) (j : Int) (partD tx j)).1)]))) (xs := freshHome p i ++ (freshW p i).take (j + 1)) (cs := (freshHome p i).flatMap encSt ++ ((freshW p i).take (j + 1)).flatMap encSt) (by simp) (by omega) (by rw [ew, List.length_append, hlen]; simp; omega) (by rw [List.flatMap_append])
        rw [show (freshHome p i ++ (freshW p i).take (j + 1)).length = 4 * i + j + 1 by rw [ew, List.length_append, hlen]; rfl] at on
        exact ⟨4 - (j + 1), by omega, j + 1, rfl, by omega, (ho2.ext_kill (Nat.le_refl _) (hE2.add _)).add _, on, wrap_succ (by omega)⟩
      · obtain rfl : j = 4 := by omega
        rw [List.take_of_length_le (by rw [freshW_len]; omega), ← freshHome_succ] at ho2
        have w3 : IntKind.i64.wrap ((i : Int) + 1) = ((i + 1 : Nat) : Int) := wrap_succ (by omega)
        simp [c_ref1_Fresh_l11, k7, k6]
        exact ⟨48 - (i + 1), by omega, i + 1, rfl, by omega, hE2, ho2, k1, k3, w3⟩
    · obtain rfl : i = 48 := by omega
      have en := hE.next
      have bp : G.blk H.next = some PB := by rw [hE.blk _ (by omega), b0]
      have cp : G.cell H.next = PB.at_ := by funext o; simp only [Heap.cell, bp]
      have bz : G.blk (H.next + 1) = some z5 := by rw [hE.blk _ (by omega), b1]
      have w1 : IntKind.i64.wrap (p.hn + 1) = p.hn + 1 := wrap_i64 (by have := m1.1; omega) (by omega)
      have w2 : IntKind.i64.wrap (p.next + 200) = p.next + 200 := wrap_i64 (by omega) (by omega)
      have cS := rheadStep_ok (p.hn + 1) (p.next + 200)
      have hlen := freshHome_len p 48
      obtain ⟨HB, hHB⟩ : ∃ HB, HB = ((rowBlk 2 [.int .i64 0, .int .i64 0]).put 0 (.int .i64 (p.hn + 1))).put 1 (.int .i64 (p.next + 200)) := ⟨_, rfl⟩
      have hh0 : HB.at_ 0 = some (.int .i64 (p.hn + 1)) := by subst hHB; rfl
      have hh1 : HB.at_ 1 = some (.int .i64 (p.next + 200)) := by subst hHB; rfl
      obtain ⟨G2, hG2⟩ : ∃ G2, G2 = (G.add (rowBlk 2 [.int .i64 0, .int .i64 0])).set G.next (some HB) := ⟨_, rfl⟩
      have E2 : Ext G G2 := by subst hG2; exact ((Ext.refl _).add _).set (Nat.le_refl _) _
      have n2 : G2.next = G.next + 1 := by subst hG2; simp
      have hb2 : G2.blk G.next = some HB := by subst hG2; simp
      have hc2 : G2.cell G.next = HB.at_ := by funext o; simp only [Heap.cell, hb2]
      have ew : freshS p = freshHome p 48 ++ [flSt, hdSt (p.hn + 1) (p.next + 200), flSt] := rfl
      obtain ⟨RB, hRB⟩ : ∃ RB, RB = rowBlk 3 [.bool true, .int .i64 0, .string ⟨#[]⟩, .bool false, .int .i64 ((p.hn + 1) % 2), .string (putP (putH (p.hn + 1) (p.next + 200))), .bool true, .int .i64 0, .string ⟨#[]⟩] := ⟨_, rfl⟩
      obtain ⟨r0, r1, r2, r3, r4, r5, r6, r7, r8⟩ : RB.at_ 0 = some (.bool true) ∧ RB.at_ 1 = some (.int .i64 0) ∧ RB.at_ 2 = some (.string ⟨#[]⟩) ∧ RB.at_ 3 = some (.bool false) ∧ RB.at_ 4 = some (.int .i64 ((p.hn + 1) % 2)) ∧ RB.at_ 5 = some (.string (putP (putH (p.hn + 1) (p.next + 200)))) ∧ RB.at_ 6 = some (.bool true) ∧ RB.at_ 7 = some (.int .i64 0) ∧ RB.at_ 8 = some (.string ⟨#[]⟩) := by subst hRB; exact ⟨rfl, rfl, rfl, rfl, rfl, rfl, rfl, rfl, rfl⟩
      have a1 : appV (G2.add RB) 3 32 3 (e 5) [.bool true, .int .i64 0, .string ⟨#[]⟩, .bool false, .int .i64 ((p.hn + 1) % 2), .string (putP (putH (p.hn + 1) (p.next + 200))), .bool true, .int .i64 0, .string ⟨#[]⟩] = some (.slice (some ⟨G2.next + 1, 0, none⟩) 195 390, (killB (e 5) (G2.add RB)).add (rowBlk 3 ((freshS p).flatMap encSt))) := by
        have := ((ho.ext E2).ext ((Ext.refl _).add RB)).app encSt_len (bytes := 32) (k := 3) [.bool true, .int .i64 0, .string ⟨#[]⟩, .bool false, .int .i64 ((p.hn + 1) % 2), .string (putP (putH (p.hn + 1) (p.next + 200))), .bool true, .int .i64 0, .string ⟨#[]⟩] (by omega) rfl (by omega) (by omega)
        rw [hlen] at this
        rw [this, ew, List.flatMap_append]
        simp [flSt, hdSt, wrSt]
      obtain ⟨G3, hG3⟩ : ∃ G3, G3 = (killB (e 5) (G2.add RB)).add (rowBlk 3 ((freshS p).flatMap encSt)) := ⟨_, rfl⟩
      rw [← hG3] at a1
      have n3 : G3.next = G2.next + 2 := by subst hG3; simp
      have o3 : Own encSt 3 G2.next G3 (.slice (some ⟨G2.next + 1, 0, none⟩) 195 390) (freshS p) := by
        have := Own.new' (enc := encSt) (sz := 3) (n0 := G2.next) (b := G2.next + 1) (H := killB (e 5) (G2.add RB)) (xs := freshS p) (by simp) (by omega) (by rw [ew, List.length_append, hlen]; simp) rfl
        rw [show (freshS p).length = 195 by rw [ew, List.length_append, hlen]; rfl] at this
        rw [hG3]; exact this
      have low3 : ∀ b, b < G2.next → NotIn (e 5) b → G3.blk b = G2.blk b := fun b hb hn => by rw [hG3, blk_add_old (by simp; omega), blk_killB hn, blk_add_old hb]
      have g30 : G3.blk H.next = some PB := by rw [low3 _ (by omega) (ho.notIn (by omega)), E2.blk _ (by omega), bp]
      have g31 : G3.blk (H.next + 1) = some z5 := by rw [low3 _ (by omega) (ho.notIn (by omega)), E2.blk _ (by omega), bz]
      have g32 : G3.blk G.next = some HB := by rw [low3 _ (by omega) (ho.below.notIn (Nat.le_refl _)), hb2]
      have E3 : Ext H G3 := ⟨by have := E0.next; omega, fun b hb => by rw [low3 _ (by omega) (ho.notIn (by omega)), E2.blk _ (by omega), hE.blk _ (by omega), E0.blk _ hb]⟩
      have cp3 : G3.cell H.next = PB.at_ := by funext o; simp only [Heap.cell, g30]
      have ch3 : G3.cell G.next = HB.at_ := by funext o; simp only [Heap.cell, g32]
      obtain ⟨u, G4, c4, E4, oZ, hfar⟩ := empty_app (n0 := G3.next) (b := G3.next) (H := G3.add (rowBlk 1 [])) ((h.ext E3).ext ((Ext.refl _).add _)) encS_len encS_one (bytes := 16) (Nat.le_refl _) (by simp) (by omega) (by omega)
      have e4 := E4.next
      simp at e4
      obtain ⟨pu, ku, rfl⟩ := (oZ.rows encS_len).slice
      have E34 : Ext G3 G4 := ((Ext.refl _).add _).trans E4
      have cp4 : G4.cell H.next = PB.at_ := by funext o; rw [E34.cell (by omega), cp3]
      have ch4 : G4.cell G.next = HB.at_ := by funext o; rw [E34.cell (by omega), ch3]
      have g41 : G4.blk (H.next + 1) = some z5 := by rw [E34.blk _ (by omega), g31]
      have cz4 : G4.cell (H.next + 1) = z5.at_ := by funext o; simp only [Heap.cell, g41]
      have y1 : ¬ H.next = G3.next := by omega
      have y2 : ¬ G.next = G3.next := by omega
      simp [c_ref1_Fresh_l13, h1, h3, h6, cp, q0, q1, q2, q3, q4, w1, w2, ← hHB, ← hG2, hc2, hh0, hh1, cS, mkrowV, fillL, ← hRB, r0, r1, r2, r3, r4, r5, r6, r7, r8, a1, ← hG3, cp3, ch3, run_regd_tr, finD_some, Chk, wanted, c4, cp4, ch4, g41, cz4, y1, y2]
      have e0n := E0.next
      refine ⟨(E3.trans E34).set (by omega) _, _, _, ⟨rfl, rfl, rfl, rfl, rfl, rfl⟩, ((o3.ext E34).set (by omega) _).low (by omega), (oZ.frame (by simp) fun b hb _ _ => blk_set_ne (by omega)).low (by omega), fun b hb => oZ.notIn (Nat.lt_of_not_le fun hh => hb (o3.below.notIn hh))⟩
  · have hR' : pgRoom p = false := by simpa using hR
    have hF : freshR p = ([], pgO, 800) := by rw [freshR, hR']; rfl
    rw [hF]
    have nE : ∀ f, Ext H (G0.set (H.next + 1) f) := fun f => E0.set (by omega) f
    simp [pgV, ← hPB, ← hG0, my, hR', c0, q0, q1, q2, q3, q4, b1, cz, nE, pgO]
    exact ⟨_, _, ⟨rfl, rfl⟩, Own.nil, OwnZ.nil, fun b _ => notIn_nil⟩
end Go.AM
end TextR6Td
section TextR6Te
/- Contract: plan.Commit. -/
namespace Go.AM
open Go.Proofs
set_option linter.unusedVariables false
set_option linter.unusedSimpArgs false
set_option maxRecDepth 100000
attribute [-simp] ByteArray.size_eq_zero_iff
def recN (rs : List Rec) (i : Nat) : Rec := rs[i]?.getD (0, 0, 0, ⟨#[]⟩)
/-- the writes of a transaction's first n records -/
def recSt (u : Int) (rs : List Rec) (n : Nat) : List Stp := (List.range n).map fun i : Nat => wrSt (2 + u + (i : Int)) (txtR (recN rs i))
theorem recSt_len (u : Int) (rs : List Rec) (n : Nat) : (recSt u rs n).length = n := by simp [recSt]
theorem recSt_succ (u : Int) (rs : List Rec) (n : Nat) : recSt u rs (n + 1) = recSt u rs n ++ [wrSt (2 + u + n) (txtR (recN rs n))] := by simp [recSt, List.range_succ]
def baseS (p : Pg) (is : List Img) : List Stp := if 200 < p.used + 4 * is.length + 1 then freshS p else []
def baseP (p : Pg) (is : List Img) : Pg := if 200 < p.used + 4 * is.length + 1 then freshQ p else p
def commR (p : Pg) (is : List Img) : List Rec := mkRecs is (baseP p is).next
def commS (p : Pg) (is : List Img) : List Stp := baseS p is ++ recSt (baseP p is).used (commR p is) (commR p is).length ++ [flSt]
def commQ (p : Pg) (is : List Img) : Pg := ⟨(baseP p is).hn, (baseP p is).hs, (baseP p is).next + (commR p is).length, (baseP p is).used + (commR p is).length, applyI (baseP p is).text is⟩
def comm (p : Pg) (is : List Img) : List Stp × Pg × Int :=
  if pgRoom p = true ∧ imOk (-1) is = true then (if is = [] then ([], p, 0) else (commS p is, commQ p is, 0)) else ([], pgO, 800)
def pcTail : IC := .seq (.reg c_plan_Commit_r9) (.seq (.seq (.reg c_plan_Commit_r10) (.block 0 (.loop c_plan_Commit_l17))) (.seq (.reg c_plan_Commit_r18) (.seq (.seq (.reg c_plan_Commit_r19) (.block 2 (.loop c_plan_Commit_l24))) (.seq (.regd c_plan_Commit_r25 []) .ret))))
/-- a pager's box -/
structure PgB (G : Heap) (b : Nat) (hn hs nx us : Int) (tv : Value) (PB : Blk) : Prop where
  blk : G.blk b = some PB
  ro : PB.ro = false
  p0 : PB.at_ 0 = some (.int .i64 hn)
  p1 : PB.at_ 1 = some (.int .i64 hs)
  p2 : PB.at_ 2 = some (.int .i64 nx)
  p3 : PB.at_ 3 = some (.int .i64 us)
  p4 : PB.at_ 4 = some tv
theorem PgB.cell {G : Heap} {b : Nat} {hn hs nx us : Int} {tv : Value} {PB : Blk} (h : PgB G b hn hs nx us tv PB) : G.cell b = PB.at_ := by funext o; simp only [Heap.cell, h.blk]
theorem PgB.of {G G' : Heap} {b : Nat} {hn hs nx us : Int} {tv : Value} {PB : Blk} (h : PgB G b hn hs nx us tv PB) (he : G'.blk b = G.blk b) : PgB G' b hn hs nx us tv PB := { h with blk := by rw [he, h.blk] }
theorem SB.setK {sb n1 k : Nat} {G : Heap} {v : Value} {xs : List Stp} (h : SB sb n1 G v xs) (hk : k < n1) (hne : k ≠ sb) (f : Option Blk) : SB sb n1 (G.set k f) v xs := by
  obtain ⟨B, h1, h2⟩ := h.blk
  exact ⟨⟨B, by rw [blk_set_ne (fun e => hne e.symm), h1], h2⟩, h.lo, h.hi, h.own.set hk f⟩
theorem Own.one {α : Type} {enc : α → List Value} {sz n0 b n c : Nat} {G G' : Heap} {xs : List α} (h : Own enc sz n0 G (.slice (some ⟨b, 0, none⟩) n c) xs) (hn : G.next ≤ G'.next) (hb : G'.blk b = G.blk b) : Own enc sz n0 G' (.slice (some ⟨b, 0, none⟩) n c) xs :=
  h.frame hn fun k _ _ hk => by
    have : k = b := Classical.byContradiction fun hne => hk (notIn_slice hne)
    subst this; exact hb
theorem ctail_ok {H G : Heap} {e : Env} {Q : IEx → Env → Heap → Prop} {b n1 n2 : Nat} {hn hs nx us : Int} {tv sv iv : Value} {PB : Blk} {ss : List Stp} {ts : List ByteArray} {is : List Img}
    (hE : Ext H G) (hP : PgB G H.next hn hs nx us tv PB) (hZ : G.blk (H.next + 1) = some z5) (hS : SB b n1 G sv ss) (hb : H.next + 1 < b) (hsl : ss.length ≤ 200)
    (ho : Own encS 1 n2 G tv ts) (hn2 : H.next + 2 ≤ n2) (hl : ts.length = 48) (hfar : ∀ k, (¬ NotIn tv k ∨ k < H.next + 2) → NotIn sv k ∧ k ≠ b)
    (hI : Imgs H iv is) (hk : MkOk is nx) (hu : 0 ≤ us ∧ us + 4 * is.length + 1 ≤ 200)
    (e1 : e 1 = iv) (e2 : e 2 = .pointer (some ⟨H.next, 0, none⟩)) (e5 : e 5 = .pointer (some ⟨H.next + 1, 0, none⟩)) (e7 : e 7 = .pointer (some ⟨b, 0, none⟩))
    (hQ : ∀ e' H' sv' tv' RB, Ext H H' → PgB H' (H.next + 1) hn hs (nx + (mkRecs is nx).length) (us + (mkRecs is nx).length) tv' RB → Own encSt 3 (H.next + 2) H' sv' (ss ++ recSt us (mkRecs is nx) (mkRecs is nx).length ++ [flSt]) →
      Own encS 1 (H.next + 2) H' tv' (applyI ts is) → (∀ k, ¬ NotIn sv' k → NotIn tv' k) → e' 4 = sv' → e' 5 = .pointer (some ⟨H.next + 1, 0, none⟩) → e' 6 = .int .i64 0 → Q .ret e' H') :
    wp (run K pcTail e G) Q := by
  obtain ⟨pi, ki, rfl⟩ := hI.slice
  have hen := hE.next
  have hlo := hS.lo; have hhi := hS.hi
  obtain ⟨tb, TB, rfl, t1, t2, _⟩ := ho.blkOf encS_len (by intro e; rw [e] at hl; simp at hl)
  rw [hl] at ho hP hfar
  have hfar1 : NotIn sv tb ∧ tb ≠ b := hfar tb (.inl fun h => h _ _ _ rfl rfl)
  have hRl : (mkRecs is nx).length = 4 * is.length + 1 := by rw [mkRecs, if_pos hk]; simp [recsAll_len]
  have hRm : ∀ i, i < (mkRecs is nx).length → (0 : Int) ≤ i := fun i _ => by omega
  obtain ⟨rs, hrs⟩ : ∃ rs, rs = mkRecs is nx := ⟨_, rfl⟩
  obtain ⟨_, G1, c1, E1, v1, rfl, oR⟩ := make_ok (.slice pi is.length ki) is nx G (hI.ext hE)
  rw [show mkErr is nx = 0 from if_pos hk] at c1
  rw [← hrs] at oR hRl hQ
  obtain ⟨b2, B2, rfl, r1, r2, _⟩ := oR.blkOf encR_len (by intro e; rw [e] at hRl; simp at hRl)
  have en1 := E1.next
  have cP := hP.cell
  have q2 := hP.p2; have q3 := hP.p3
  have hnl2 := hk.2.1
  have hnl : nx + 4 * (is.length : Int) ≤ 2147483647 := hk.2.2
  simp [pcTail, e1, e2, cP, q2, c1]
  refine wp_nxt (wp_for (fun dd x G2 => ∃ (i : Nat) (sv' : Value) (n1' : Nat) (PB' : Blk), dd = rs.length - i ∧ i ≤ rs.length ∧ Ext H G2 ∧ G1.next ≤ G2.next ∧ PgB G2 H.next hn hs (nx + i) (us + i) (.slice (some ⟨tb, 0, none⟩) 48 (2 * 48)) PB' ∧ G2.blk (H.next + 1) = some z5 ∧ SB b n1' G2 sv' (ss ++ recSt us rs i) ∧
      (∀ k, (k = b2 ∨ k = tb ∨ k < H.next + 2) → NotIn sv' k) ∧ Own encS 1 n2 G2 (.slice (some ⟨tb, 0, none⟩) 48 (2 * 48)) ts ∧ Own encR 4 G.next G2 (.slice (some ⟨b2, 0, none⟩) rs.length (2 * rs.length)) rs ∧
      x 1 = .slice pi is.length ki ∧ x 2 = .pointer (some ⟨H.next, 0, none⟩) ∧ x 5 = .pointer (some ⟨H.next + 1, 0, none⟩) ∧ x 7 = .pointer (some ⟨b, 0, none⟩) ∧ x 51 = .slice (some ⟨b2, 0, none⟩) rs.length (2 * rs.length) ∧ x 52 = .int .i64 (rs.length : Int) ∧ x 53 = .int .i64 (i : Int)) rs.length
    ⟨0, sv, n1, PB, by simp, by simp, hE.trans E1, Nat.le_refl _, by simpa using hP.of (E1.blk _ (by omega)), by rw [E1.blk _ (by omega), hZ], by simpa [recSt] using hS.up E1, ?_, ho.ext E1, oR, by simp [e1], by simp [e2], by simp [e5], by simp [e7], by simp, by simp, by simp⟩ ?_)
  · rintro k (rfl | rfl | hk)
    · exact hS.own.below.notIn r1
    · exact hfar1.1
    · exact (hfar k (.inr hk)).1
  rintro dd x G2 ⟨i, sv', n1', PB', rfl, hi, hE2, hn2', hP2, hZ2, hS2, hfar2, ho2, oR2, k1, k2, k5, k7, k51, k52, k53⟩
  have cP2 := hP2.cell
  have ro2 := hP2.ro
  have z0 := hP2.p0; have z1 := hP2.p1; have z2 := hP2.p2; have z3 := hP2.p3; have z4 := hP2.p4
  have hlo2 := hS2.lo; have hhi2 := hS2.hi
  by_cases hlt : i < rs.length
  · obtain ⟨_, bb, oo, ebb, hbb, kc⟩ := (oR2.rows encR_len).at_ (i := i) hlt
    cases ebb
    have kc0 := kc 0 (by omega); have kc1 := kc 1 (by omega); have kc2 := kc 2 (by omega); have kc3 := kc 3 (by omega)
    have hrN : recN rs i = rs[i] := by simp [recN, List.getElem?_eq_getElem hlt]
    rw [← hrN] at kc0 kc1 kc2 kc3
    obtain ⟨r, hr⟩ : ∃ r, r = recN rs i := ⟨_, rfl⟩
    rw [← hr] at kc0 kc1 kc2 kc3
    obtain ⟨y0, y1, y2, y3⟩ := r
    simp at kc0 kc1 kc2 kc3
    obtain ⟨XB, hXB⟩ : ∃ XB, XB = ((((rowBlk 4 [.int .i64 0, .int .i64 0, .int .i64 0, .string ⟨#[]⟩]).put 0 (.int .i64 y0)).put 1 (.int .i64 y1)).put 2 (.int .i64 y2)).put 3 (.string y3) := ⟨_, rfl⟩
    obtain ⟨x0, x1, x2, x3⟩ : XB.at_ 0 = some (.int .i64 y0) ∧ XB.at_ 1 = some (.int .i64 y1) ∧ XB.at_ 2 = some (.int .i64 y2) ∧ XB.at_ 3 = some (.string y3) := by subst hXB; exact ⟨rfl, rfl, rfl, rfl⟩
    obtain ⟨G3, hG3⟩ : ∃ G3, G3 = (G2.add (rowBlk 4 [.int .i64 0, .int .i64 0, .int .i64 0, .string ⟨#[]⟩])).set G2.next (some XB) := ⟨_, rfl⟩
    have E3 : Ext G2 G3 := by subst hG3; exact ((Ext.refl _).add _).set (Nat.le_refl _) _
    have n3 : G3.next = G2.next + 1 := by subst hG3; simp
    have b3 : G3.blk G2.next = some XB := by subst hG3; simp
    have cc3 : G3.cell G2.next = XB.at_ := by funext o; simp only [Heap.cell, b3]
    have cP3 : G3.cell H.next = PB'.at_ := by funext o; rw [E3.cell (by have := hE2.next; omega), cP2]
    have w1 : IntKind.i64.wrap (2 + (us + (i : Int))) = 2 + us + i := by rw [wrap_i64 (by omega) (by omega)]; omega
    obtain ⟨_, G4, c4, rfl, F4, v4, S4⟩ := str_ok b _ G3 sv' _ (2 + us + i) y0 y1 y2 y3 (hS2.up E3) (by rw [List.length_append, recSt_len]; omega)
    have f4 := F4.next
    have e2n := hE2.next
    have lowk : ∀ k, k < G2.next → k ≠ b → NotIn sv' k → G4.blk k = G2.blk k := fun k h1 h2 h3 => by rw [F4.blk k (by omega) h2 h3, E3.blk k h1]
    have hP4 : PgB G4 H.next hn hs (nx + i) (us + i) (.slice (some ⟨tb, 0, none⟩) 48 (2 * 48)) PB' := hP2.of (lowk _ (by omega) (by omega) (hfar2 _ (.inr (.inr (by omega)))))
    have cP4 := hP4.cell
    have bP4 := hP4.blk
    have w2 : IntKind.i64.wrap (us + (i : Int) + 1) = us + (i + 1 : Nat) := by rw [wrap_i64 (by omega) (by omega)]; omega
    have w3 : IntKind.i64.wrap (nx + (i : Int) + 1) = nx + (i + 1 : Nat) := by rw [wrap_i64 (by omega) (by omega)]; omega
    have zb : ¬ b2 = G2.next := by have := E1.next; omega
    have zb2 : ¬ H.next = G2.next := by omega
    have w4 : (i : Int) < (rs.length : Int) := by omega
    simp [c_plan_Commit_l17, k51, k52, k53, hlt, kc0, kc1, kc2, kc3, zb, zb2, ← hXB, ← hG3, x0, x1, x2, x3, k2, k7, cP3, z3, w1, cc3, c4, cP4, bP4, ro2, w2, z2, w3]
    have hE4 : Ext H G4 := ⟨by omega, fun k hk => by rw [lowk k (by omega) (by omega) (hfar2 _ (.inr (.inr (by omega)))), hE2.blk k hk]⟩
    have en0 := ho2.lim
    have htb : tb < G2.next := by have := E1.next; omega
    have hbb2 : b ≠ b2 := by omega
    have ew : ss ++ recSt us rs i ++ [wrSt (2 + us + i) (putR y0 y1 y2 y3).1] = ss ++ recSt us rs (i + 1) := by rw [recSt_succ, ← hr, ← List.append_assoc]; rfl
    rw [ew] at S4
    have ht4 := ho2.one (G' := G4) (by omega) (lowk tb htb hfar1.2 (hfar2 _ (.inr (.inl rfl))))
    have hr4 := oR2.one (G' := G4) (by omega) (lowk b2 (by omega) (fun e => hbb2 e.symm) (hfar2 _ (.inl rfl)))
    refine ⟨rs.length - (i + 1), by omega, i + 1, rfl, by omega, hE4.set (Nat.le_refl _) _, by omega, ⟨_, { blk := blk_set_self _ _ _, ro := by simpa using ro2, p0 := by simp [z0], p1 := by simp [z1], p2 := by simp, p3 := by simp, p4 := by simp [z4] }⟩, ?_, v4, ⟨G3.next, S4.setK (by omega) (by omega) _⟩, ⟨S4.own.notIn (by omega), S4.own.notIn (by omega), fun k hk => S4.own.notIn (by omega)⟩, ht4.set (by omega) _, hr4.set (by omega) _, ?_⟩
    · rw [lowk _ (by omega) (by omega) (hfar2 _ (.inr (.inr (by omega)))), hZ2]
    · exact ⟨k1, k5, wrap_succ (by omega)⟩
  · obtain rfl : i = rs.length := by omega
    have e2n := hE2.next
    obtain ⟨_, G3, c3, rfl, F3, v3, S3⟩ := stf_ok b _ G2 sv' _ hS2 (by rw [List.length_append, recSt_len]; omega)
    have f3 := F3.next
    have lowk : ∀ k, (k = tb ∨ k < H.next + 2) → G3.blk k = G2.blk k := fun k hk => F3.blk k (by omega) (by omega) (hfar2 k (.inr hk))
    have hE3 : Ext H G3 := ⟨by omega, fun k hk => by rw [lowk k (by omega), hE2.blk k hk]⟩
    have hP3 := hP2.of (lowk H.next (by omega))
    have hZ3 : G3.blk (H.next + 1) = some z5 := by rw [lowk _ (by omega), hZ2]
    have ho3 := ho2.one (G' := G3) (by omega) (lowk tb (by omega))
    have ov3 := S3.own
    obtain ⟨ps, ks, rfl, _⟩ := ov3.slc
    obtain ⟨SBk, s0, s1, s2⟩ := S3.blk
    have hIok := hk.1
    have hilim := hI.lim
    have hpgs : ∀ y ∈ is, (0 ≤ y.1 ∧ y.1 < 48) := fun y hy => by
      obtain ⟨j, hj, rfl⟩ := List.getElem_of_mem hy
      exact (imOk_drop is j (-1) hj hIok).1
    simp [c_plan_Commit_l17, k52, k53, k7, c3, k1]
    refine wp_nxt (wp_for (fun dd y G4 => ∃ a : Nat, dd = is.length - a ∧ a ≤ is.length ∧ Ext H G4 ∧ G3.next ≤ G4.next ∧ PgB G4 H.next hn hs (nx + rs.length) (us + rs.length) (.slice (some ⟨tb, 0, none⟩) 48 (2 * 48)) PB' ∧ G4.blk (H.next + 1) = some z5 ∧ G4.blk b = some SBk ∧ Own encSt 3 G2.next G4 (.slice ps (ss ++ recSt us rs rs.length ++ [flSt]).length ks) (ss ++ recSt us rs rs.length ++ [flSt]) ∧
        Own encS 1 n2 G4 (.slice (some ⟨tb, 0, none⟩) 48 (2 * 48)) (applyI ts (is.take a)) ∧
        y 2 = .pointer (some ⟨H.next, 0, none⟩) ∧ y 5 = .pointer (some ⟨H.next + 1, 0, none⟩) ∧ y 7 = .pointer (some ⟨b, 0, none⟩) ∧ y 72 = .slice pi is.length ki ∧ y 73 = .int .i64 (is.length : Int) ∧ y 74 = .int .i64 (a : Int)) is.length
      ⟨0, by simp, by simp, hE3, Nat.le_refl _, hP3, hZ3, s0, ov3, by simpa [applyI] using ho3, by simp [k2], by simp [k5], by simp [k7], by simp, by simp, by simp⟩ ?_)
    rintro dd y G4 ⟨a, rfl, ha, hE4, hn4, hP4, hZ4, hb4, ov4, ho4, f2, f5, f7, f72, f73, f74⟩
    have cP4 := hP4.cell
    have y0 := hP4.p0; have y1 := hP4.p1; have y2 := hP4.p2; have y3 := hP4.p3; have y4 := hP4.p4
    by_cases hlt : a < is.length
    · have hok := hpgs _ (List.getElem_mem hlt)
      have hnext := applyI_take ts is hlt
      obtain ⟨bi, oi, rfl, hbi, g0, g1⟩ := (hI.ext hE4).at2 hlt
      generalize is[a] = im at hok hnext g0 g1
      obtain ⟨pg, tx⟩ := im
      obtain ⟨m0, m1⟩ := hok
      simp only at m0 m1 hnext
      obtain ⟨n, rfl⟩ := Int.eq_ofNat_of_zero_le m0
      rw [Int.toNat_natCast] at hnext
      have hlen : (applyI ts (is.take a)).length = 48 := by rw [applyI_len, hl]
      have n48 : n < 48 := by omega
      obtain ⟨tb', TB', hv', t1', t2', t3, t4, t5, hset⟩ := ho4.setS (k := n) (by omega) tx
      obtain rfl : tb' = tb := by simp only [Value.slice.injEq, Option.some.injEq, Addr.mk.injEq] at hv'; exact hv'.1.1.symm
      have ct : G4.cell tb' = TB'.at_ := by funext o; simp only [Heap.cell, t3]
      have z1 : ¬ bi = G4.next := by omega
      have z2 : ¬ H.next = G4.next := by omega
      have z3 : ¬ tb' = G4.next := by omega
      simp at g0 g1
      simp [c_plan_Commit_l24, f72, f73, f74, hlt, g0, g1, z1, f2, z2, cP4, y4, n48, z3, t3, t4, t5, ct]
      have hEX : ∀ X Y, Ext G4 ((G4.add X).set G4.next Y) := fun X Y => ((Ext.refl _).add X).set (Nat.le_refl _) Y
      refine ⟨is.length - (a + 1), by omega, a + 1, rfl, by omega, (hE4.trans (hEX _ _)).set (by omega) _, by omega, hP4.of ?_, ?_, ?_, ?_, ?_, ?_⟩
      · rw [blk_set_ne (by omega), (hEX _ _).blk _ (by omega)]
      · rw [if_neg (by omega), if_neg (by omega), if_neg (by omega), hZ4]
      · rw [if_neg (fun e => hfar1.2 e.symm), if_neg (by omega), if_neg (by omega), hb4]
      · have := (ov4.ext (hEX (rowBlk 2 [.int .i64 0, .string ⟨#[]⟩]) (some (((rowBlk 2 [.int .i64 0, .string ⟨#[]⟩]).put 0 (.int .i64 (n : Int))).put 1 (.string tx))))).set (k := tb') (by omega) (some (TB'.put n (.string tx)))
        simpa using this
      · rw [hnext]; exact hset _ (hEX _ _)
      · exact ⟨f5, f7, wrap_succ (by omega)⟩
    · obtain rfl : a = is.length := by omega
      rw [List.take_length] at ho4
      have cS4 : G4.cell b = SBk.at_ := by funext o; simp only [Heap.cell, hb4]
      have cZ4 : G4.cell (H.next + 1) = z5.at_ := by funext o; simp only [Heap.cell, hZ4]
      simp [c_plan_Commit_l24, f73, f74, f2, f5, f7, cS4, s2, cP4, y0, y1, y2, y3, y4, hZ4, cZ4]
      refine hQ _ _ (.slice ps (ss ++ recSt us rs rs.length ++ [flSt]).length ks) (.slice (some ⟨tb, 0, none⟩) 48 (2 * 48)) _ (hE4.set (by omega) _) { blk := blk_set_self _ _ _, ro := rfl, p0 := by simp, p1 := by simp, p2 := by simp, p3 := by simp, p4 := by simp } ((ov4.set (by omega) _).low (by omega)) ((ho4.set (by omega) _).low (by omega)) (fun k hk => notIn_slice fun e => hk (by subst e; exact ov4.notIn (by omega))) (by simp) (by simp [f5]) (by simp)
def pcCode : IFn := ⟨(.seq (.reg c_plan_Commit_r0) (.seq (.seq (.reg c_plan_Commit_r1) (.cond (.t 21) (.seq (.reg c_plan_Commit_r2) .ret) .skip)) (.seq (.reg c_plan_Commit_r3) (.seq (.seq (.reg c_plan_Commit_r4) (.cond (.t 29) (.seq (.regd c_plan_Commit_r5 []) .ret) .skip)) (.seq (.reg c_plan_Commit_r6) (.seq (.seq (.regd c_plan_Commit_r7 [(1, 4)]) (.cond (.t 37) (.reg c_plan_Commit_r8) .skip)) pcTail)))))), 88, [.tmp 4, .ldn 5 5, .tmp 6]⟩
theorem fc_pc : fnAt Try.prog f_plan_Commit = some pcCode := fc_plan_Commit
attribute [simp] pcCode
theorem imOk_nil (l : Int) : imOk l [] = true := rfl
theorem pcommit_ok (p : Pg) (t iv : Value) (is : List Img) (H : Heap) (h : Strs H t p.text) (hI : Imgs H iv is) : wpf (call K f_plan_Commit [pgV p t, iv] H) fun r H' => Ext H H' ∧ ∃ sv t', r = .tuple #[sv, pgV (comm p is).2.1 t', .int .i64 (comm p is).2.2] ∧ Own encSt 3 H.next H' sv (comm p is).1 ∧ OwnZ encS 1 H.next H' t' (comm p is).2.1.text ∧ ∀ b, ¬ NotIn sv b → NotIn t' b := by
  refine open_plain rfl fc_pc rfl (Nat.le_of_ble_eq_true rfl) ?_
  obtain ⟨q, k, rfl⟩ := h.slice
  obtain ⟨pi, ki, rfl⟩ := hI.slice
  obtain ⟨PB, hPB⟩ : ∃ PB, PB = rowBlk 5 [.int .i64 p.hn, .int .i64 p.hs, .int .i64 p.next, .int .i64 p.used, .slice q p.text.length k] := ⟨_, rfl⟩
  have q0 : PB.at_ 0 = some (.int .i64 p.hn) := by subst hPB; rfl
  have q1 : PB.at_ 1 = some (.int .i64 p.hs) := by subst hPB; rfl
  have q2 : PB.at_ 2 = some (.int .i64 p.next) := by subst hPB; rfl
  have q3 : PB.at_ 3 = some (.int .i64 p.used) := by subst hPB; rfl
  have q4 : PB.at_ 4 = some (.slice q p.text.length k) := by subst hPB; rfl
  have qro : PB.ro = false := by subst hPB; rfl
  obtain ⟨G0, hG0⟩ : ∃ G0, G0 = (H.add PB).add z5 := ⟨_, rfl⟩
  have E0 : Ext H G0 := by subst hG0; exact ((Ext.refl _).add _).add _
  have n0 : G0.next = H.next + 2 := by subst hG0; simp
  have b0 : G0.blk H.next = some PB := by subst hG0; simp
  have c0 : G0.cell H.next = PB.at_ := by funext o; simp only [Heap.cell, b0]
  have b1 : G0.blk (H.next + 1) = some z5 := by subst hG0; simp
  have cz : G0.cell (H.next + 1) = z5.at_ := by funext o; simp only [Heap.cell, b1]
  have my : call K f_plan_may [.agg #[.int .i64 p.hn, .int .i64 p.hs, .int .i64 p.next, .int .i64 p.used, .slice q p.text.length k]] G0 = some (.bool (pgRoom p), G0) := pmay2_ok p _ G0 (h.ext E0)
  have mi := images_ok _ is G0 (hI.ext E0)
  have nE : ∀ f, Ext H (G0.set (H.next + 1) f) := fun f => E0.set (by omega) f
  by_cases hR : pgRoom p = true
  · by_cases hIo : imOk (-1) is = true
    · obtain ⟨m1, m2, m3, m4, m5, m6⟩ := pgRoom_of hR
      have h48 := imOk_48 hIo
      obtain ⟨u, G1, c1, E1, oZ⟩ := cloneS_ok (.slice q p.text.length k) p.text G0 (h.ext E0) (by omega)
      have e1 := E1.next
      have hne : p.text ≠ [] := by intro e; rw [e] at m4; simp at m4
      have oT := oZ.own hne
      obtain ⟨pu, ku, rfl⟩ := (oZ.rows encS_len).slice
      have b10 : G1.blk H.next = some PB := by rw [E1.blk _ (by omega), b0]
      have c10 : G1.cell H.next = PB.at_ := by funext o; simp only [Heap.cell, b10]
      have b11 : G1.blk (H.next + 1) = some z5 := by rw [E1.blk _ (by omega), b1]
      have cz1 : G1.cell (H.next + 1) = z5.at_ := by funext o; simp only [Heap.cell, b11]
      by_cases hnil : is = []
      · subst hnil
        have hC : comm p [] = ([], p, 0) := by rw [comm, if_pos ⟨hR, hIo⟩, if_pos rfl]
        rw [hC]
        simp at mi
        simp [pgV, ← hPB, ← hG0, my, hR, mi, hIo, c0, q0, q1, q2, q3, q4, qro, c1, b10, c10, b11, cz1]
        exact ⟨((E0.trans E1).set (Nat.le_refl _) _).set (by omega) _, _, _, ⟨rfl, rfl⟩, Own.nil, .inl (((oT.set (by omega) _).set (by omega) _).low (by omega)), fun b hb => absurd notIn_nil hb⟩
      · have hlen : is.length ≠ 0 := fun e => hnil (List.eq_nil_of_length_eq_zero e)
        have hC : comm p is = (commS p is, commQ p is, 0) := by rw [comm, if_pos ⟨hR, hIo⟩, if_neg hnil]
        have w1 : IntKind.i64.wrap (IntKind.i64.wrap ((is.length : Int) * 4) + 1) = 4 * is.length + 1 := by rw [wrap_i64 (by rw [wrap_i64 (by omega) (by omega)]; omega) (by rw [wrap_i64 (by omega) (by omega)]; omega), wrap_i64 (by omega) (by omega)]; omega
        have w2 : IntKind.i64.wrap (p.used + (4 * (is.length : Int) + 1)) = p.used + 4 * is.length + 1 := by rw [wrap_i64 (by omega) (by omega)]; omega
        obtain ⟨G2, hG2⟩ : ∃ G2, G2 = G1.set H.next (some (PB.put 4 (.slice pu p.text.length ku))) := ⟨_, rfl⟩
        have b20 : G2.blk H.next = some (PB.put 4 (.slice pu p.text.length ku)) := by subst hG2; simp
        have c20 : G2.cell H.next = (PB.put 4 (.slice pu p.text.length ku)).at_ := by funext o; simp only [Heap.cell, b20]
        have b21 : G2.blk (H.next + 1) = some z5 := by subst hG2; rw [blk_set_ne (by omega), b11]
        have n2 : G2.next = G1.next := by subst hG2; simp
        have E2 : Ext H G2 := by subst hG2; exact (E0.trans E1).set (Nat.le_refl _) _
        have oT2 : Own encS 1 G0.next G2 (.slice pu p.text.length ku) p.text := by subst hG2; exact oT.set (by omega) _
        have y1 : ¬ H.next = G2.next := by omega
        have y2 : ¬ H.next = G2.next + 1 := by omega
        by_cases hbig : 200 < p.used + 4 * (is.length : Int) + 1
        · have eB : baseP p is = freshQ p := if_pos hbig
          have eS : baseS p is = freshS p := if_pos hbig
          have hcR : commR p is = mkRecs is (p.next + 200) := by rw [commR, eB]; rfl
          obtain ⟨G3, hG3⟩ : ∃ G3, G3 = G2.add (rowBlk 1 [.slice none 0 0]) := ⟨_, rfl⟩
          have E23 : Ext G2 G3 := by subst hG3; exact (Ext.refl _).add _
          have n3 : G3.next = G2.next + 1 := by subst hG3; simp
          have b3 : G3.blk G2.next = some (rowBlk 1 [.slice none 0 0]) := by subst hG3; simp
          have c30 : G3.cell H.next = (PB.put 4 (.slice pu p.text.length ku)).at_ := by funext o; rw [E23.cell (by omega), c20]
          obtain ⟨_, G4, c4, E4, sv, tq, rfl, oS, oQ, hdis⟩ := fresh_ok p (.slice pu p.text.length ku) G3 ((oT2.rows encS_len).ext E23)
          have hF : freshR p = (freshS p, freshQ p, 0) := if_pos hR
          rw [hF] at c4 oS oQ
          have oQ := oQ.own hne
          obtain ⟨ps, ks, rfl, _⟩ := oS.slc
          obtain ⟨pt, kt, rfl, _⟩ := oQ.slc
          have e4 := E4.next
          simp only [pgV, freshQ] at c4
          have b40 : G4.blk H.next = some (PB.put 4 (.slice pu p.text.length ku)) := by rw [E4.blk _ (by omega), E23.blk _ (by omega), b20]
          have b41 : G4.blk (H.next + 1) = some z5 := by rw [E4.blk _ (by omega), E23.blk _ (by omega), b21]
          have b42 : G4.blk G2.next = some (rowBlk 1 [.slice none 0 0]) := by rw [E4.blk _ (by omega), b3]
          have c40 : G4.cell H.next = (PB.put 4 (.slice pu p.text.length ku)).at_ := by funext o; simp only [Heap.cell, b40]
          have c42 : G4.cell G2.next = (rowBlk 1 [.slice none 0 0]).at_ := by funext o; simp only [Heap.cell, b42]
          rw [hC]
          simp [pgV, ← hPB, ← hG0, my, hR, mi, hIo, c0, q0, q1, q2, q3, q4, qro, c1, b10, c10, hlen, ← hG2, c20, ← hG3, c30, run_regd_tr, finD_some, Chk, wanted, y1, y2, w1, w2, hbig, c4, b40, b42, c40, c42]
          refine ctail_ok (H := H) (b := G2.next) (n1 := G3.next) (n2 := G3.next) (hn := p.hn + 1) (hs := p.next + 200) (nx := p.next + 200) (us := 0) (tv := .slice pt p.text.length kt) (sv := .slice ps (freshS p).length ks) (iv := .slice pi is.length ki) (PB := (((((PB.put 4 (.slice pu p.text.length ku)).put 0 (.int .i64 (p.hn + 1))).put 1 (.int .i64 (p.next + 200))).put 2 (.int .i64 (p.next + 200))).put 3 (.int .i64 0)).put 4 (.slice pt p.text.length kt)) (ss := freshS p) (ts := p.text) (is := is)
            ((((E2.trans E23).trans E4).set (by omega) _).set (Nat.le_refl _) _) { blk := blk_set_self _ _ _, ro := qro, p0 := by simp, p1 := by simp, p2 := by simp, p3 := by simp, p4 := by simp } (by rw [blk_set_ne (by omega), blk_set_ne (by omega), b41])
            ⟨⟨_, by rw [blk_set_ne (by omega), blk_set_self], rfl, by simp⟩, by omega, by simp; omega, (oS.set (by omega) _).set (by omega) _⟩ (by omega) (by rw [freshS, List.length_append, freshHome_len]; simp)
            ((oQ.set (by omega) _).set (by omega) _) (by omega) m4 (fun k hk => ?_) hI ⟨hIo, by omega, by omega⟩ ⟨by omega, by omega⟩ (by simp) (by simp) (by simp) (by simp [ptr]) ?_
          · rcases hk with hk | hk
            · refine ⟨Classical.byContradiction fun hh => hk (hdis k hh), fun e => hk (oQ.notIn (by omega))⟩
            · exact ⟨oS.notIn (by omega), by omega⟩
          · intro e' H' sv' tv' RB hE' hRB oS' oT' hd h4 h5 h6
            obtain ⟨psv, ksv, hsv, _⟩ := oS'.slc
            subst hsv
            have cR := hRB.cell
            have r0 := hRB.p0; have r1 := hRB.p1; have r2 := hRB.p2; have r3 := hRB.p3; have r4 := hRB.p4
            simp [h4, h5, h6, cR, r0, r1, r2, r3, r4]
            refine ⟨hE', _, tv', ⟨rfl, ?_, ?_, ?_, ?_, rfl⟩, ?_, ?_, by simpa using hd⟩
            · simp [commQ, eB, freshQ]
            · simp [commQ, eB, freshQ]
            · simp [commQ, eB, hcR, freshQ]
            · simp [commQ, eB, hcR, freshQ]
            · have := oS'.low (show H.next ≤ H.next + 2 by omega)
              simpa [commS, eS, eB, hcR, freshQ] using this
            · have := oT'.low (show H.next ≤ H.next + 2 by omega)
              exact .inl (by simpa [commQ, eB, freshQ] using this)
        · have eB : baseP p is = p := if_neg hbig
          have eS : baseS p is = [] := if_neg hbig
          have hcR : commR p is = mkRecs is p.next := by rw [commR, eB]
          rw [hC]
          simp [pgV, ← hPB, ← hG0, my, hR, mi, hIo, c0, q0, q1, q2, q3, q4, qro, c1, b10, c10, hlen, ← hG2, c20, run_regd_tr, finD_some, Chk, wanted, y1, y2, w1, w2, hbig]
          refine ctail_ok (H := H) (b := G2.next) (n1 := G2.next + 1) (n2 := G0.next) (hn := p.hn) (hs := p.hs) (nx := p.next) (us := p.used) (tv := .slice pu p.text.length ku) (sv := .slice none 0 0) (iv := .slice pi is.length ki) (PB := PB.put 4 (.slice pu p.text.length ku)) (ss := []) (ts := p.text) (is := is)
            (E2.add _) { blk := by rw [blk_add_old (by omega), b20], ro := qro, p0 := by simp [q0], p1 := by simp [q1], p2 := by simp [q2], p3 := by simp [q3], p4 := by simp } (by rw [blk_add_old (by omega), b21]) ⟨⟨_, blk_add_new _ _, rfl, rfl⟩, by omega, by simp, Own.nil⟩ (by omega) (by simp)
            (oT2.ext ((Ext.refl _).add _)) (by omega) m4 (fun k hk => ⟨notIn_nil, fun e => ?_⟩) hI ⟨hIo, by omega, by omega⟩ ⟨by omega, by omega⟩ (by simp) (by simp) (by simp) (by simp [ptr]) ?_
          · rcases hk with hk | hk
            · exact hk (oT2.below.notIn (by omega))
            · omega
          · intro e' H' sv' tv' RB hE' hRB oS' oT' hd h4 h5 h6
            obtain ⟨psv, ksv, hsv, _⟩ := oS'.slc
            subst hsv
            have cR := hRB.cell
            have r0 := hRB.p0; have r1 := hRB.p1; have r2 := hRB.p2; have r3 := hRB.p3; have r4 := hRB.p4
            simp [h4, h5, h6, cR, r0, r1, r2, r3, r4]
            refine ⟨hE', _, tv', ⟨rfl, ?_, ?_, ?_, ?_, rfl⟩, ?_, ?_, by simpa using hd⟩
            · simp [commQ, eB]
            · simp [commQ, eB]
            · simp [commQ, eB, hcR]
            · simp [commQ, eB, hcR]
            · have := oS'.low (show H.next ≤ H.next + 2 by omega)
              simpa [commS, eS, eB, hcR] using this
            · have := oT'.low (show H.next ≤ H.next + 2 by omega)
              exact .inl (by simpa [commQ, eB] using this)
    · have hIo' : imOk (-1) is = false := by simpa using hIo
      have hC : comm p is = ([], pgO, 800) := by rw [comm, if_neg (fun hh => hIo hh.2)]
      rw [hC]
      simp [pgV, ← hPB, ← hG0, my, hR, mi, hIo', c0, q0, q1, q2, q3, q4, b1, cz, nE, pgO]
      exact ⟨_, _, ⟨rfl, rfl⟩, Own.nil, OwnZ.nil, fun b _ => notIn_nil⟩
  · have hR' : pgRoom p = false := by simpa using hR
    have hC : comm p is = ([], pgO, 800) := by rw [comm, if_neg (fun hh => hR hh.1)]
    rw [hC]
    simp [pgV, ← hPB, ← hG0, my, hR', mi, c0, q0, q1, q2, q3, q4, b1, cz, nE, pgO]
    exact ⟨_, _, ⟨rfl, rfl⟩, Own.nil, OwnZ.nil, fun b _ => notIn_nil⟩
end Go.AM
end TextR6Te
section TextR6Tf
/- Contract: the document's Commit. -/
namespace Go.AM
open Go.Proofs
set_option linter.unusedVariables false
set_option linter.unusedSimpArgs false
set_option maxRecDepth 100000
attribute [-simp] ByteArray.size_eq_zero_iff
def rcTail : IC := .seq (.reg c_ref1_Commit_r12) (.seq (.seq (.reg c_ref1_Commit_r13) (.block 0 (.loop c_ref1_Commit_l18))) (.seq (.reg c_ref1_Commit_r19) (.seq (.seq (.reg c_ref1_Commit_r20) (.block 2 (.loop c_ref1_Commit_l24))) (.seq (.reg c_ref1_Commit_r25) (.seq (.reg c_ref1_Commit_r26) (.seq (.regd c_ref1_Commit_r27 []) .ret))))))
theorem rctail_ok {H G : Heap} {e : Env} {Q : IEx → Env → Heap → Prop} {b n1 n2 : Nat} {hn hs nx us : Int} {tv sv iv : Value} {PB : Blk} {ss : List Stp} {ts : List ByteArray} {is : List Img}
    (hE : Ext H G) (hP : PgB G b hn hs nx us tv PB) (hZ : G.blk (H.next + 1) = some z5) (hS : Own encSt 3 n1 G sv ss) (hn1 : H.next + 2 ≤ n1) (hb : H.next + 1 < b) (hbg : b < G.next) (hsl : ss.length ≤ 200)
    (ho : Own encS 1 n2 G tv ts) (hn2 : H.next + 2 ≤ n2) (hl : ts.length = 48) (hfar : ∀ k, (¬ NotIn tv k ∨ k = b) → NotIn sv k) (htb : NotIn tv b)
    (hI : Imgs H iv is) (hk : MkOk is nx) (hu : 0 ≤ us ∧ us + 4 * is.length + 1 ≤ 200)
    (e1 : e 1 = iv) (e7 : e 7 = .pointer (some ⟨b, 0, none⟩)) (e5 : e 5 = .pointer (some ⟨H.next + 1, 0, none⟩)) (e8 : e 8 = sv)
    (hQ : ∀ e' H' sv' tv' RB, Ext H H' → PgB H' (H.next + 1) hn hs (nx + (mkRecs is nx).length) (us + (mkRecs is nx).length) tv' RB → Own encSt 3 (H.next + 2) H' sv' (ss ++ recSt us (mkRecs is nx) (mkRecs is nx).length ++ [flSt]) →
      Own encS 1 (H.next + 2) H' tv' (applyI ts is) → (∀ k, ¬ NotIn sv' k → NotIn tv' k) → e' 4 = sv' → e' 5 = .pointer (some ⟨H.next + 1, 0, none⟩) → e' 6 = .int .i64 0 → Q .ret e' H') :
    wp (run K rcTail e G) Q := by
  obtain ⟨pi, ki, rfl⟩ := hI.slice
  have hen := hE.next
  obtain ⟨tb, TB, rfl, t1, t2, _⟩ := ho.blkOf encS_len (by intro e; rw [e] at hl; simp at hl)
  rw [hl] at ho hP hfar htb
  have hfar1 : NotIn sv tb := hfar tb (.inl fun h => h _ _ _ rfl rfl)
  have htbb : b ≠ tb := htb _ _ _ rfl
  have hRl : (mkRecs is nx).length = 4 * is.length + 1 := by rw [mkRecs, if_pos hk]; simp [recsAll_len]
  obtain ⟨rs, hrs⟩ : ∃ rs, rs = mkRecs is nx := ⟨_, rfl⟩
  obtain ⟨_, G1, c1, E1, v1, rfl, oR⟩ := rmake_ok (.slice pi is.length ki) is nx G (hI.ext hE)
  rw [show mkErr is nx = 0 from if_pos hk] at c1
  rw [← hrs] at oR hRl hQ
  obtain ⟨b2, B2, rfl, r1, r2, _⟩ := oR.blkOf encR_len (by intro e; rw [e] at hRl; simp at hRl)
  have en1 := E1.next
  have cP := hP.cell
  have q2 := hP.p2; have q3 := hP.p3
  have hnl2 := hk.2.1
  have hnl : nx + 4 * (is.length : Int) ≤ 2147483647 := hk.2.2
  simp [rcTail, e1, e7, cP, q2, c1]
  refine wp_nxt (wp_for (fun dd x G2 => ∃ (i : Nat), dd = rs.length - i ∧ i ≤ rs.length ∧ Ext H G2 ∧ G1.next ≤ G2.next ∧ PgB G2 b hn hs nx us (.slice (some ⟨tb, 0, none⟩) 48 (2 * 48)) PB ∧ G2.blk (H.next + 1) = some z5 ∧ Own encSt 3 (H.next + 2) G2 (x 8) (ss ++ recSt us rs i) ∧
      (∀ k, (k = b2 ∨ k = tb ∨ k = b) → NotIn (x 8) k) ∧ Own encS 1 n2 G2 (.slice (some ⟨tb, 0, none⟩) 48 (2 * 48)) ts ∧ Own encR 4 G.next G2 (.slice (some ⟨b2, 0, none⟩) rs.length (2 * rs.length)) rs ∧
      x 1 = .slice pi is.length ki ∧ x 7 = .pointer (some ⟨b, 0, none⟩) ∧ x 5 = .pointer (some ⟨H.next + 1, 0, none⟩) ∧ x 12 = .slice (some ⟨b2, 0, none⟩) rs.length (2 * rs.length) ∧ x 14 = .int .i64 (i : Int)) rs.length
    ⟨0, by simp, by simp, hE.trans E1, Nat.le_refl _, hP.of (E1.blk _ (by omega)), by rw [E1.blk _ (by omega), hZ], by simpa [recSt, e8] using (hS.ext E1).low hn1, ?_, ho.ext E1, oR, by simp [e1], by simp [e7], by simp [e5], by simp, by simp⟩ ?_)
  · rintro k (rfl | rfl | rfl)
    · simp [e8]; exact hS.below.notIn r1
    · simp [e8]; exact hfar1
    · simp [e8]; exact hfar _ (.inr rfl)
  rintro dd x G2 ⟨i, rfl, hi, hE2, hn2', hP2, hZ2, hS2, hfar2, ho2, oR2, k1, k7, k5, k12, k14⟩
  have cP2 := hP2.cell
  have z3 := hP2.p3
  have e2n := hE2.next
  by_cases hlt : i < rs.length
  · obtain ⟨_, bb, oo, ebb, hbb, kc⟩ := (oR2.rows encR_len).at_ (i := i) hlt
    cases ebb
    have kc0 := kc 0 (by omega); have kc1 := kc 1 (by omega); have kc2 := kc 2 (by omega); have kc3 := kc 3 (by omega)
    have hrN : recN rs i = rs[i] := by simp [recN, List.getElem?_eq_getElem hlt]
    rw [← hrN] at kc0 kc1 kc2 kc3
    obtain ⟨r, hr⟩ : ∃ r, r = recN rs i := ⟨_, rfl⟩
    rw [← hr] at kc0 kc1 kc2 kc3
    obtain ⟨y0, y1, y2, y3⟩ := r
    simp at kc0 kc1 kc2 kc3
    have w0 : IntKind.i64.wrap (2 + us) = 2 + us := wrap_i64 (by omega) (by omega)
    have w1 : IntKind.i64.wrap (2 + us + (i : Int)) = 2 + us + i := wrap_i64 (by omega) (by omega)
    have hlen : (ss ++ recSt us rs i).length = ss.length + i := by rw [List.length_append, recSt_len]
    have ew : ss ++ recSt us rs (i + 1) = ss ++ recSt us rs i ++ [wrSt (2 + us + i) (putR y0 y1 y2 y3).1] := by rw [recSt_succ, ← hr, ← List.append_assoc]; rfl
    obtain ⟨XB, hXB⟩ : ∃ XB, XB = rowBlk 3 [.bool false, .int .i64 (2 + us + i), .string (putP (putR y0 y1 y2 y3).1)] := ⟨_, rfl⟩
    have a1 : ∀ X, appV (G2.add X) 3 32 1 (x 8) [.bool false, .int .i64 (2 + us + i), .string (putP (putR y0 y1 y2 y3).1)] = some (.slice (some ⟨G2.next + 1, 0, none⟩) (ss.length + i + 1) (2 * (ss.length + i + 1)), (killB (x 8) (G2.add X)).add (rowBlk 3 ((ss ++ recSt us rs (i + 1)).flatMap encSt))) := fun X => by
      have := (hS2.ext ((Ext.refl _).add X)).app encSt_len (bytes := 32) (k := 1) [.bool false, .int .i64 (2 + us + i), .string (putP (putR y0 y1 y2 y3).1)] (by omega) rfl (by omega) (by omega)
      rw [hlen] at this
      rw [this, ew, List.flatMap_append (xs := ss ++ recSt us rs i)]
      simp [wrSt]
    have w4 : (i : Int) < (rs.length : Int) := by omega
    simp [c_ref1_Commit_l18, k12, k14, hlt, kc0, kc1, kc2, kc3, k7, cP2, z3, w0, w1, rwrite_ok, mkrowV, fillL, a1]
    have on := Own.new' (enc := encSt) (sz := 3) (n0 := G2.next) (b := G2.next + 1) (H := killB (x 8) (G2.add (rowBlk 3 [.bool false, .int .i64 (2 + us + i), .string (putP (putR y0 y1 y2 y3).1)]))) (xs := ss ++ recSt us rs (i + 1)) (cs := ss.flatMap encSt ++ (recSt us rs (i + 1)).flatMap encSt) (by simp) (by omega) (by rw [ew, List.length_append, hlen]; simp; omega) (by rw [List.flatMap_append])
    rw [show (ss ++ recSt us rs (i + 1)).length = ss.length + i + 1 by rw [ew, List.length_append, hlen]; rfl] at on
    have low : ∀ X Y k, k < G2.next → NotIn (x 8) k → ((killB (x 8) (G2.add X)).add Y).blk k = G2.blk k := fun X Y k hk hn => by rw [blk_add_old (by simp; omega), blk_killB hn, blk_add_old hk]
    have n81 : NotIn (x 8) (H.next + 1) := hS2.notIn (by omega)
    refine ⟨rs.length - (i + 1), by omega, i + 1, rfl, by omega, (hS2.ext_kill (by omega) (hE2.add _)).add _, by omega, hP2.of (low _ _ _ (by omega) (hfar2 _ (.inr (.inr rfl)))), ?_, on.low (by omega), ?_, ho2.one (by simp; omega) (low _ _ _ (by omega) (hfar2 _ (.inr (.inl rfl)))), oR2.one (by simp; omega) (low _ _ _ (by omega) (hfar2 _ (.inl rfl))), ?_⟩
    · rw [if_neg (by omega), blk_killB n81, blk_add_old (by omega), hZ2]
    · exact ⟨notIn_slice (by omega), notIn_slice (by omega), notIn_slice (by omega)⟩
    · exact ⟨k1, k5, wrap_succ (by omega)⟩
  · obtain rfl : i = rs.length := by omega
    have hlen : (ss ++ recSt us rs rs.length).length = ss.length + rs.length := by rw [List.length_append, recSt_len]
    have a1 : ∀ X, appV (G2.add X) 3 32 1 (x 8) [.bool true, .int .i64 0, .string ⟨#[]⟩] = some (.slice (some ⟨G2.next + 1, 0, none⟩) (ss.length + rs.length + 1) (2 * (ss.length + rs.length + 1)), (killB (x 8) (G2.add X)).add (rowBlk 3 ((ss ++ recSt us rs rs.length ++ [flSt]).flatMap encSt))) := fun X => by
      have := (hS2.ext ((Ext.refl _).add X)).app encSt_len (bytes := 32) (k := 1) [.bool true, .int .i64 0, .string ⟨#[]⟩] (by omega) rfl (by omega) (by omega)
      rw [hlen] at this
      rw [this, List.flatMap_append (xs := ss ++ recSt us rs rs.length)]
      simp [flSt]
    obtain ⟨RB, hRB⟩ : ∃ RB, RB = rowBlk 3 [.bool true, .int .i64 0, .string ⟨#[]⟩] := ⟨_, rfl⟩
    obtain ⟨z0', z1', z2'⟩ : RB.at_ 0 = some (.bool true) ∧ RB.at_ 1 = some (.int .i64 0) ∧ RB.at_ 2 = some (.string ⟨#[]⟩) := by subst hRB; exact ⟨rfl, rfl, rfl⟩
    obtain ⟨G3, hG3⟩ : ∃ G3, G3 = (killB (x 8) (G2.add RB)).add (rowBlk 3 ((ss ++ recSt us rs rs.length ++ [flSt]).flatMap encSt)) := ⟨_, rfl⟩
    have a2 := a1 RB
    rw [← hG3] at a2
    have n3 : G3.next = G2.next + 2 := by subst hG3; simp
    have o3 : Own encSt 3 G2.next G3 (.slice (some ⟨G2.next + 1, 0, none⟩) (ss.length + rs.length + 1) (2 * (ss.length + rs.length + 1))) (ss ++ recSt us rs rs.length ++ [flSt]) := by
      have := Own.new' (enc := encSt) (sz := 3) (n0 := G2.next) (b := G2.next + 1) (H := killB (x 8) (G2.add RB)) (xs := ss ++ recSt us rs rs.length ++ [flSt]) (by simp) (by omega) (by rw [List.length_append, hlen]; simp; omega) rfl
      rw [show (ss ++ recSt us rs rs.length ++ [flSt]).length = ss.length + rs.length + 1 by rw [List.length_append, hlen]; rfl] at this
      rw [hG3]; exact this
    have low3 : ∀ k, k < G2.next → NotIn (x 8) k → G3.blk k = G2.blk k := fun k hk hn => by rw [hG3, blk_add_old (by simp; omega), blk_killB hn, blk_add_old hk]
    have hE3 : Ext H G3 := by rw [hG3]; exact (hS2.ext_kill (by omega) (hE2.add _)).add _
    have hP3 := hP2.of (low3 b (by omega) (hfar2 _ (.inr (.inr rfl))))
    have hZ3 : G3.blk (H.next + 1) = some z5 := by rw [low3 _ (by omega) (hS2.notIn (by omega)), hZ2]
    have ho3 := ho2.one (G' := G3) (by omega) (low3 tb (by omega) (hfar2 _ (.inr (.inl rfl))))
    have hIok := hk.1
    have hilim := hI.lim
    have hpgs : ∀ y ∈ is, (0 ≤ y.1 ∧ y.1 < 48) := fun y hy => by
      obtain ⟨j, hj, rfl⟩ := List.getElem_of_mem hy
      exact (imOk_drop is j (-1) hj hIok).1
    simp [c_ref1_Commit_l18, k12, k14, mkrowV, fillL, ← hRB, z0', z1', z2', a2]
    refine wp_nxt (wp_for (fun dd y G4 => ∃ a : Nat, dd = is.length - a ∧ a ≤ is.length ∧ Ext H G4 ∧ G3.next ≤ G4.next ∧ PgB G4 b hn hs nx us (.slice (some ⟨tb, 0, none⟩) 48 (2 * 48)) PB ∧ G4.blk (H.next + 1) = some z5 ∧ Own encSt 3 G2.next G4 (.slice (some ⟨G2.next + 1, 0, none⟩) (ss.length + rs.length + 1) (2 * (ss.length + rs.length + 1))) (ss ++ recSt us rs rs.length ++ [flSt]) ∧
        Own encS 1 n2 G4 (.slice (some ⟨tb, 0, none⟩) 48 (2 * 48)) (applyI ts (is.take a)) ∧
        y 1 = .slice pi is.length ki ∧ y 7 = .pointer (some ⟨b, 0, none⟩) ∧ y 5 = .pointer (some ⟨H.next + 1, 0, none⟩) ∧ y 8 = .slice (some ⟨G2.next + 1, 0, none⟩) (ss.length + rs.length + 1) (2 * (ss.length + rs.length + 1)) ∧ y 12 = .slice (some ⟨b2, 0, none⟩) rs.length (2 * rs.length) ∧ y 17 = .int .i64 (a : Int)) is.length
      ⟨0, by simp, by simp, hE3, Nat.le_refl _, hP3, hZ3, o3, by simpa [applyI] using ho3, by simp [k1], by simp [k7], by simp [k5], by simp, by simp [k12], by simp⟩ ?_)
    rintro dd y G4 ⟨a, rfl, ha, hE4, hn4, hP4, hZ4, ov4, ho4, f1, f7, f5, f8, f12, f17⟩
    have cP4 := hP4.cell
    have y0 := hP4.p0; have y1 := hP4.p1; have y2 := hP4.p2; have y3 := hP4.p3; have y4 := hP4.p4
    have bP4 := hP4.blk; have rP4 := hP4.ro
    by_cases hlt : a < is.length
    · have hok := hpgs _ (List.getElem_mem hlt)
      have hnext := applyI_take ts is hlt
      obtain ⟨bi, oi, rfl, hbi, g0, g1⟩ := (hI.ext hE4).at2 hlt
      generalize is[a] = im at hok hnext g0 g1
      obtain ⟨pg, tx⟩ := im
      obtain ⟨m0, m1⟩ := hok
      simp only at m0 m1 hnext
      obtain ⟨n, rfl⟩ := Int.eq_ofNat_of_zero_le m0
      rw [Int.toNat_natCast] at hnext
      have hlen : (applyI ts (is.take a)).length = 48 := by rw [applyI_len, hl]
      have n48 : n < 48 := by omega
      obtain ⟨tb', TB', hv', t1', t2', t3, t4, t5, hset⟩ := ho4.setS (k := n) (by omega) tx
      obtain rfl : tb' = tb := by simp only [Value.slice.injEq, Option.some.injEq, Addr.mk.injEq] at hv'; exact hv'.1.1.symm
      have ct : G4.cell tb' = TB'.at_ := by funext o; simp only [Heap.cell, t3]
      simp at g0 g1
      simp [c_ref1_Commit_l24, f1, f7, f17, hlt, g0, g1, cP4, y4, n48, t3, t4, t5, ct]
      refine ⟨is.length - (a + 1), by omega, a + 1, rfl, by omega, hE4.set (by omega) _, by omega, hP4.of (blk_set_ne htbb), ?_, ?_, ?_, ?_⟩
      · rw [if_neg (by omega), hZ4]
      · have := ov4.set (k := tb') (by omega) (some (TB'.put n (.string tx)))
        simpa using this
      · rw [hnext]; exact hset _ (Ext.refl _)
      · exact ⟨f5, f8, f12, wrap_succ (by omega)⟩
    · obtain rfl : a = is.length := by omega
      rw [List.take_length] at ho4
      have cZ4 : G4.cell (H.next + 1) = z5.at_ := by funext o; simp only [Heap.cell, hZ4]
      have w1 : IntKind.i64.wrap (nx + (rs.length : Int)) = nx + rs.length := wrap_i64 (by omega) (by omega)
      have w2 : IntKind.i64.wrap (us + (rs.length : Int)) = us + rs.length := wrap_i64 (by omega) (by omega)
      have x1 : ¬ H.next + 1 = b := by omega
      have x2 : ¬ b = H.next + 1 := by omega
      simp [c_ref1_Commit_l24, f1, f17, f5, f7, f8, f12, cP4, bP4, rP4, y0, y1, y2, y3, y4, hZ4, cZ4, w1, w2, x1, x2]
      refine hQ _ _ (.slice (some ⟨G2.next + 1, 0, none⟩) (ss.length + rs.length + 1) (2 * (ss.length + rs.length + 1))) (.slice (some ⟨tb, 0, none⟩) 48 (2 * 48)) _ ((hE4.set (by omega) _).set (by omega) _) { blk := blk_set_self _ _ _, ro := rfl, p0 := by simp, p1 := by simp, p2 := by simp, p3 := by simp, p4 := by simp } (((ov4.set (k := b) (by omega) _).set (k := H.next + 1) (by omega) _).low (by omega)) (((ho4.setB (k := b) (notIn_slice htbb) _).set (k := H.next + 1) (by omega) _).low (by omega)) (fun k hk => notIn_slice fun e => hk (notIn_slice (by omega))) (by simp) (by simp [f5]) (by simp)
def rcCode : IFn := ⟨(.seq (.reg c_ref1_Commit_r0) (.seq (.seq (.reg c_ref1_Commit_r1) (.cond (.t 25) (.seq (.reg c_ref1_Commit_r2) .ret) .skip)) (.seq (.reg c_ref1_Commit_r3) (.seq (.reg c_ref1_Commit_r4) (.seq (.seq (.reg c_ref1_Commit_r5) (.cond (.t 35) (.seq (.regd c_ref1_Commit_r6 []) .ret) .skip)) (.seq (.reg c_ref1_Commit_r7) (.seq (.seq (.reg c_ref1_Commit_r8) (.cond (.t 44) (.seq (.reg c_ref1_Commit_r9) (.seq (.reg c_ref1_Commit_r10) (.reg c_ref1_Commit_r11))) .skip)) rcTail))))))), 121, [.tmp 4, .ldn 5 5, .tmp 6]⟩
theorem fc_rc : fnAt Try.prog f_ref1_Commit = some rcCode := fc_ref1_Commit
attribute [simp] rcCode
theorem rcommit_ok (p : Pg) (t iv : Value) (is : List Img) (H : Heap) (h : Strs H t p.text) (hI : Imgs H iv is) : wpf (call K f_ref1_Commit [pgV p t, iv] H) fun r H' => Ext H H' ∧ ∃ sv t', r = .tuple #[sv, pgV (comm p is).2.1 t', .int .i64 (comm p is).2.2] ∧ Own encSt 3 H.next H' sv (comm p is).1 ∧ OwnZ encS 1 H.next H' t' (comm p is).2.1.text ∧ ∀ b, ¬ NotIn sv b → NotIn t' b := by
  refine open_plain rfl fc_rc rfl (Nat.le_of_ble_eq_true rfl) ?_
  obtain ⟨q, k, rfl⟩ := h.slice
  obtain ⟨pi, ki, rfl⟩ := hI.slice
  obtain ⟨PB, hPB⟩ : ∃ PB, PB = rowBlk 5 [.int .i64 p.hn, .int .i64 p.hs, .int .i64 p.next, .int .i64 p.used, .slice q p.text.length k] := ⟨_, rfl⟩
  have q0 : PB.at_ 0 = some (.int .i64 p.hn) := by subst hPB; rfl
  have q1 : PB.at_ 1 = some (.int .i64 p.hs) := by subst hPB; rfl
  have q2 : PB.at_ 2 = some (.int .i64 p.next) := by subst hPB; rfl
  have q3 : PB.at_ 3 = some (.int .i64 p.used) := by subst hPB; rfl
  have q4 : PB.at_ 4 = some (.slice q p.text.length k) := by subst hPB; rfl
  have qro : PB.ro = false := by subst hPB; rfl
  obtain ⟨G0, hG0⟩ : ∃ G0, G0 = (H.add PB).add z5 := ⟨_, rfl⟩
  have E0 : Ext H G0 := by subst hG0; exact ((Ext.refl _).add _).add _
  have n0 : G0.next = H.next + 2 := by subst hG0; simp
  have b0 : G0.blk H.next = some PB := by subst hG0; simp
  have c0 : G0.cell H.next = PB.at_ := by funext o; simp only [Heap.cell, b0]
  have b1 : G0.blk (H.next + 1) = some z5 := by subst hG0; simp
  have cz : G0.cell (H.next + 1) = z5.at_ := by funext o; simp only [Heap.cell, b1]
  have my : call K f_ref1_roomy [.agg #[.int .i64 p.hn, .int .i64 p.hs, .int .i64 p.next, .int .i64 p.used, .slice q p.text.length k]] G0 = some (.bool (pgRoom p), G0) := rroomy_ok p _ G0 (h.ext E0)
  have mi := rimages_ok _ is G0 (hI.ext E0)
  have nE : ∀ f, Ext H (G0.set (H.next + 1) f) := fun f => E0.set (by omega) f
  by_cases hR : pgRoom p = true
  · by_cases hIo : imOk (-1) is = true
    · obtain ⟨m1, m2, m3, m4, m5, m6⟩ := pgRoom_of hR
      have h48 := imOk_48 hIo
      obtain ⟨QB, hQB⟩ : ∃ QB, QB = ((((z5.put 0 (.int .i64 p.hn)).put 1 (.int .i64 p.hs)).put 2 (.int .i64 p.next)).put 3 (.int .i64 p.used)).put 4 (.slice q p.text.length k) := ⟨_, rfl⟩
      have u0 : QB.at_ 0 = some (.int .i64 p.hn) := by subst hQB; rfl
      have u1 : QB.at_ 1 = some (.int .i64 p.hs) := by subst hQB; rfl
      have u2 : QB.at_ 2 = some (.int .i64 p.next) := by subst hQB; rfl
      have u3 : QB.at_ 3 = some (.int .i64 p.used) := by subst hQB; rfl
      have u4 : QB.at_ 4 = some (.slice q p.text.length k) := by subst hQB; rfl
      have uro : QB.ro = false := by subst hQB; rfl
      obtain ⟨GA, hGA⟩ : ∃ GA, GA = (G0.add z5).set G0.next (some QB) := ⟨_, rfl⟩
      have EA : Ext G0 GA := by subst hGA; exact ((Ext.refl _).add _).set (Nat.le_refl _) _
      have nA : GA.next = G0.next + 1 := by subst hGA; simp
      have bA : GA.blk G0.next = some QB := by subst hGA; simp
      have cA0 : GA.cell H.next = PB.at_ := by funext o; rw [EA.cell (by omega), c0]
      obtain ⟨u, G1, c1, E1, oZ, hufar⟩ := empty_app (n0 := GA.next) (b := GA.next) (H := GA.add (rowBlk 1 [])) (((h.ext E0).ext EA).ext ((Ext.refl _).add _)) encS_len encS_one (bytes := 16) (Nat.le_refl _) (by simp) (by omega) (by omega)
      have e1 := E1.next
      simp at e1
      have EA1 : Ext GA G1 := ((Ext.refl _).add _).trans E1
      have hne : p.text ≠ [] := by intro e; rw [e] at m4; simp at m4
      have oT := oZ.own hne
      obtain ⟨pu, ku, rfl⟩ := (oZ.rows encS_len).slice
      have b10 : G1.blk G0.next = some QB := by rw [EA1.blk _ (by omega), bA]
      have c10 : G1.cell G0.next = QB.at_ := by funext o; simp only [Heap.cell, b10]
      have b1P : G1.blk H.next = some PB := by rw [EA1.blk _ (by omega), EA.blk _ (by omega), b0]
      have c1P : G1.cell H.next = PB.at_ := by funext o; simp only [Heap.cell, b1P]
      have b11 : G1.blk (H.next + 1) = some z5 := by rw [EA1.blk _ (by omega), EA.blk _ (by omega), b1]
      have cz1 : G1.cell (H.next + 1) = z5.at_ := by funext o; simp only [Heap.cell, b11]
      have EH1 : Ext H G1 := (E0.trans EA).trans EA1
      have x1 : ¬ H.next = G0.next := by omega
      have x2 : ¬ H.next = GA.next := by omega
      have x3 : ¬ H.next + 1 = G0.next := by omega
      have x4 : ¬ G0.next = H.next + 1 := by omega
      by_cases hnil : is = []
      · subst hnil
        have hC : comm p [] = ([], p, 0) := by rw [comm, if_pos ⟨hR, hIo⟩, if_pos rfl]
        rw [hC]
        simp at mi
        simp [pgV, ← hPB, ← hG0, my, hR, mi, hIo, c0, q0, q1, q2, q3, q4, ← hQB, ← hGA, cA0, x1, x2, c1, b10, c10, u0, u1, u2, u3, u4, uro, b11, cz1, x3, x4]
        exact ⟨(EH1.set (by omega) _).set (by omega) _, _, _, ⟨rfl, rfl⟩, Own.nil, .inl (((oT.set (by omega) _).set (by omega) _).low (by omega)), fun b hb => absurd notIn_nil hb⟩
      · have hlen : is.length ≠ 0 := fun e => hnil (List.eq_nil_of_length_eq_zero e)
        have hC : comm p is = (commS p is, commQ p is, 0) := by rw [comm, if_pos ⟨hR, hIo⟩, if_neg hnil]
        have w1 : IntKind.i64.wrap (4 * (is.length : Int)) = 4 * is.length := wrap_i64 (by omega) (by omega)
        have w2 : IntKind.i64.wrap (p.used + 4 * (is.length : Int)) = p.used + 4 * is.length := wrap_i64 (by omega) (by omega)
        have w3 : IntKind.i64.wrap (p.used + 4 * (is.length : Int) + 1) = p.used + 4 * is.length + 1 := wrap_i64 (by omega) (by omega)
        obtain ⟨G2, hG2⟩ : ∃ G2, G2 = G1.set G0.next (some (QB.put 4 (.slice pu p.text.length ku))) := ⟨_, rfl⟩
        have b20 : G2.blk G0.next = some (QB.put 4 (.slice pu p.text.length ku)) := by subst hG2; simp
        have c20 : G2.cell G0.next = (QB.put 4 (.slice pu p.text.length ku)).at_ := by funext o; simp only [Heap.cell, b20]
        have b2P : G2.blk H.next = some PB := by subst hG2; rw [blk_set_ne (by omega), b1P]
        have c2P : G2.cell H.next = PB.at_ := by funext o; simp only [Heap.cell, b2P]
        have b21 : G2.blk (H.next + 1) = some z5 := by subst hG2; rw [blk_set_ne (by omega), b11]
        have n2 : G2.next = G1.next := by subst hG2; simp
        have E2 : Ext H G2 := by subst hG2; exact EH1.set (by omega) _
        have oT2 : Own encS 1 GA.next G2 (.slice pu p.text.length ku) p.text := by subst hG2; exact oT.set (by omega) _
        have fin : ∀ (bs : List Stp) (bp : Pg) (e' : Env) (H' : Heap) (sv' tv' : Value) (RB : Blk), baseP p is = bp → baseS p is = bs → Ext H H' → PgB H' (H.next + 1) bp.hn bp.hs (bp.next + (mkRecs is bp.next).length) (bp.used + (mkRecs is bp.next).length) tv' RB → Own encSt 3 (H.next + 2) H' sv' (bs ++ recSt bp.used (mkRecs is bp.next) (mkRecs is bp.next).length ++ [flSt]) →
            Own encS 1 (H.next + 2) H' tv' (applyI bp.text is) → (∀ k, ¬ NotIn sv' k → NotIn tv' k) → Ext H H' ∧ ∃ sv t', (sv' = sv ∧ bp.hn = (commQ p is).hn ∧ bp.hs = (commQ p is).hs ∧ bp.next + ((mkRecs is bp.next).length : Int) = (commQ p is).next ∧ bp.used + ((mkRecs is bp.next).length : Int) = (commQ p is).used ∧ tv' = t') ∧ Own encSt 3 H.next H' sv (commS p is) ∧ OwnZ encS 1 H.next H' t' (commQ p is).text ∧ ∀ b, ¬ NotIn sv b → NotIn t' b := by
          intro bs bp e' H' sv' tv' RB hbp hbs hE' hRB oS' oT' hd
          have hcR : commR p is = mkRecs is bp.next := by rw [commR, hbp]
          refine ⟨hE', sv', tv', ⟨rfl, by simp [commQ, hbp], by simp [commQ, hbp], by simp [commQ, hbp, hcR], by simp [commQ, hbp, hcR], rfl⟩, ?_, .inl ?_, hd⟩
          · rw [commS, hbs, hbp, hcR]; exact oS'.low (by omega)
          · show Own encS 1 H.next H' tv' (applyI (baseP p is).text is)
            rw [hbp]; exact oT'.low (by omega)
        by_cases hbig : 200 < p.used + 4 * (is.length : Int) + 1
        · have eB : baseP p is = freshQ p := if_pos hbig
          have eS : baseS p is = freshS p := if_pos hbig
          obtain ⟨_, G4, c4, E4, sv, tq, rfl, oS, oQ, hdis⟩ := rfresh_ok p (.slice q p.text.length k) G2 (h.ext E2)
          have hF : freshR p = (freshS p, freshQ p, 0) := if_pos hR
          rw [hF] at c4 oS oQ
          have oQ := oQ.own hne
          obtain ⟨ps, ks, rfl, _⟩ := oS.slc
          obtain ⟨pt, kt, rfl, _⟩ := oQ.slc
          have e4 := E4.next
          simp only [pgV, freshQ] at c4
          have b40 : G4.blk G0.next = some (QB.put 4 (.slice pu p.text.length ku)) := by rw [E4.blk _ (by omega), b20]
          have b41 : G4.blk (H.next + 1) = some z5 := by rw [E4.blk _ (by omega), b21]
          have c40 : G4.cell G0.next = (QB.put 4 (.slice pu p.text.length ku)).at_ := by funext o; simp only [Heap.cell, b40]
          have x5 : ¬ G0.next = G4.next := by omega
          have x6 : ¬ G4.next = G0.next := by omega
          rw [hC]
          simp [pgV, ← hPB, ← hG0, my, hR, mi, hIo, c0, q0, q1, q2, q3, q4, ← hQB, ← hGA, cA0, x1, x2, c1, b10, c10, u0, u1, u2, u3, u4, uro, hlen, ← hG2, c20, c2P, w1, w2, w3, hbig, c4, b40, c40, x5, x6]
          refine rctail_ok (H := H) (b := G0.next) (n1 := G2.next) (n2 := G2.next) (hn := p.hn + 1) (hs := p.next + 200) (nx := p.next + 200) (us := 0) (tv := .slice pt p.text.length kt) (sv := .slice ps (freshS p).length ks) (iv := .slice pi is.length ki) (PB := (((((QB.put 4 (.slice pu p.text.length ku)).put 0 (.int .i64 (p.hn + 1))).put 1 (.int .i64 (p.next + 200))).put 2 (.int .i64 (p.next + 200))).put 3 (.int .i64 0)).put 4 (.slice pt p.text.length kt)) (ss := freshS p) (ts := p.text) (is := is)
            ((((E2.trans E4).add _).set (by have := E2.next; simp; omega) _).set (by omega) _) { blk := blk_set_self _ _ _, ro := uro, p0 := by simp, p1 := by simp, p2 := by simp, p3 := by simp, p4 := by simp } (by rw [blk_set_ne (by omega), blk_set_ne (by omega), blk_add_old (by omega), b41])
            (((oS.ext ((Ext.refl _).add _)).setB (oS.below.notIn (Nat.le_refl _)) _).set (by omega) _) (by omega) (by omega) (by simp; omega) (by rw [freshS, List.length_append, freshHome_len]; simp)
            (((oQ.ext ((Ext.refl _).add _)).setB (oQ.below.notIn (Nat.le_refl _)) _).set (by omega) _) (by omega) m4 (fun k hk => ?_) (oQ.notIn (by omega)) hI ⟨hIo, by omega, by omega⟩ ⟨by omega, by omega⟩ (by simp) (by simp [ptr]) (by simp) (by simp) ?_
          · rcases hk with hk | rfl
            · exact Classical.byContradiction fun hh => hk (hdis k hh)
            · exact oS.notIn (by omega)
          · intro e' H' sv' tv' RB hE' hRB oS' oT' hd h4 h5 h6
            obtain ⟨psv, ksv, hsv, _⟩ := oS'.slc
            have hf := fin _ _ e' H' sv' tv' RB eB eS hE' hRB oS' oT' hd
            subst hsv
            have cR := hRB.cell
            have r0 := hRB.p0; have r1 := hRB.p1; have r2 := hRB.p2; have r3 := hRB.p3; have r4 := hRB.p4
            simp [h4, h5, h6, cR, r0, r1, r2, r3, r4]
            simpa [freshQ] using hf
        · have eB : baseP p is = p := if_neg hbig
          have eS : baseS p is = [] := if_neg hbig
          rw [hC]
          simp [pgV, ← hPB, ← hG0, my, hR, mi, hIo, c0, q0, q1, q2, q3, q4, ← hQB, ← hGA, cA0, x1, x2, c1, b10, c10, u0, u1, u2, u3, u4, uro, hlen, ← hG2, c20, c2P, w1, w2, w3, hbig]
          refine rctail_ok (H := H) (b := G0.next) (n1 := H.next + 2) (n2 := GA.next) (hn := p.hn) (hs := p.hs) (nx := p.next) (us := p.used) (tv := .slice pu p.text.length ku) (sv := .slice none 0 0) (iv := .slice pi is.length ki) (PB := QB.put 4 (.slice pu p.text.length ku)) (ss := []) (ts := p.text) (is := is)
            E2 { blk := b20, ro := uro, p0 := by simp [u0], p1 := by simp [u1], p2 := by simp [u2], p3 := by simp [u3], p4 := by simp } b21 Own.nil (Nat.le_refl _) (by omega) (by omega) (by simp)
            oT2 (by omega) m4 (fun k hk => notIn_nil) (oT2.notIn (by omega)) hI ⟨hIo, by omega, by omega⟩ ⟨by omega, by omega⟩ (by simp) (by simp [ptr]) (by simp) (by simp) ?_
          · intro e' H' sv' tv' RB hE' hRB oS' oT' hd h4 h5 h6
            obtain ⟨psv, ksv, hsv, _⟩ := oS'.slc
            have hf := fin _ _ e' H' sv' tv' RB eB eS hE' hRB oS' oT' hd
            subst hsv
            have cR := hRB.cell
            have r0 := hRB.p0; have r1 := hRB.p1; have r2 := hRB.p2; have r3 := hRB.p3; have r4 := hRB.p4
            simp [h4, h5, h6, cR, r0, r1, r2, r3, r4]
            simpa [freshQ] using hf
    · have hIo' : imOk (-1) is = false := by simpa using hIo
      have hC : comm p is = ([], pgO, 800) := by rw [comm, if_neg (fun hh => hIo hh.2)]
      rw [hC]
      simp [pgV, ← hPB, ← hG0, my, hR, mi, hIo', c0, q0, q1, q2, q3, q4, b1, cz, nE, pgO]
      exact ⟨_, _, ⟨rfl, rfl⟩, Own.nil, OwnZ.nil, fun b _ => notIn_nil⟩
  · have hR' : pgRoom p = false := by simpa using hR
    have hC : comm p is = ([], pgO, 800) := by rw [comm, if_neg (fun hh => hR hh.1)]
    rw [hC]
    simp [pgV, ← hPB, ← hG0, my, hR', mi, c0, q0, q1, q2, q3, q4, b1, cz, nE, pgO]
    exact ⟨_, _, ⟨rfl, rfl⟩, Own.nil, OwnZ.nil, fun b _ => notIn_nil⟩
end Go.AM
end TextR6Tf
