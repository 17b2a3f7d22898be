import Derived.Test.YtbgidagbogpfkaaDoorR8L
/- The taker: numbers and texts. -/
namespace Go.AM
open Go.Proofs
set_option linter.unusedVariables false
set_option linter.unusedSimpArgs false
set_option maxRecDepth 100000
attribute [-simp] ByteArray.size_eq_zero_iff Heap.store Heap.row
theorem cut_ok (l : List UInt8) (c : UInt8) (hl : l.length ≤ 140737488355328) (H : Heap) : call K f_strings_Cut [.string (S l), .string ⟨#[c]⟩] H = some (.tuple #[.string (S (cutL l c).1), .string (S (cutL l c).2.1), .bool (cutL l c).2.2], H) := by
  refine of_wpf (open_plain rfl fc_strings_Cut rfl (Nat.le_of_ble_eq_true rfl) ?_)
  have h := fun G => cut_lite l c hl G
  simp [h]
theorem cutL_le (l : List UInt8) (c : UInt8) : (cutL l c).1.length ≤ l.length ∧ (cutL l c).2.1.length ≤ l.length := by
  unfold cutL
  split
  · simp only [List.length_take, List.length_drop]; omega
  · simp
/-! ### one's own two cells -/
structure TkP (H : Heap) (b : Nat) (r : List UInt8) (bad : Bool) : Prop where
  lt : b < H.next
  blk : ∃ B, H.blk b = some B ∧ B.ro = false ∧ B.at_ 0 = some (.string (S r)) ∧ B.at_ 1 = some (.bool bad)
theorem TkP.c0 {H : Heap} {b : Nat} {r : List UInt8} {bad : Bool} (h : TkP H b r bad) : H.cell b 0 = some (.string (S r)) := by
  obtain ⟨B, h1, h2, h3, h4⟩ := h.blk; simp only [Heap.cell, h1]; exact h3
theorem TkP.c1 {H : Heap} {b : Nat} {r : List UInt8} {bad : Bool} (h : TkP H b r bad) : H.cell b 1 = some (.bool bad) := by
  obtain ⟨B, h1, h2, h3, h4⟩ := h.blk; simp only [Heap.cell, h1]; exact h4
/-- Only block b turns, and new ones come. -/
structure ExB (b : Nat) (H H' : Heap) : Prop where
  next : H.next ≤ H'.next
  blk : ∀ k, k < H.next → k ≠ b → H'.blk k = H.blk k
theorem ExB.refl (b : Nat) (H : Heap) : ExB b H H := ⟨Nat.le_refl _, fun _ _ _ => rfl⟩
theorem ExB.trans {b : Nat} {A B C : Heap} (h : ExB b A B) (g : ExB b B C) : ExB b A C := ⟨Nat.le_trans h.next g.next, fun k h1 h2 => (g.blk k (Nat.lt_of_lt_of_le h1 h.next) h2).trans (h.blk k h1 h2)⟩
theorem ExB.ext {b : Nat} {A B : Heap} (h : Ext A B) : ExB b A B := ⟨h.next, fun k h1 _ => h.blk k h1⟩
theorem TkP.set0 {H : Heap} {b : Nat} {r : List UInt8} {bad : Bool} (h : TkP H b r bad) (r' : List UInt8) : ∃ X, H.store b 0 [.string (S r')] = some X ∧ TkP X b r' bad ∧ ExB b H X ∧ X.next = H.next := by
  obtain ⟨B, h1, h2, h3, h4⟩ := h.blk
  refine ⟨H.set b (some (B.puts 0 [.string (S r')])), store_row h1 h2 (by simp [Heap.row, Heap.cell, h1, h3]) rfl (by simp), ⟨h.lt, _, blk_set_self _ _ _, h2, rfl, ?_⟩, ⟨Nat.le_refl _, fun k _ hk => blk_set_ne hk⟩, rfl⟩
  have : (B.puts 0 [.string (S r')]).at_ 1 = B.at_ 1 := rfl
  rw [this]; exact h4
theorem TkP.set1 {H : Heap} {b : Nat} {r : List UInt8} {bad : Bool} (h : TkP H b r bad) (bad' : Bool) : ∃ X, H.store b 1 [.bool bad'] = some X ∧ TkP X b r bad' ∧ ExB b H X ∧ X.next = H.next := by
  obtain ⟨B, h1, h2, h3, h4⟩ := h.blk
  refine ⟨H.set b (some (B.puts 1 [.bool bad'])), store_row h1 h2 (by simp [Heap.row, Heap.cell, h1, h4]) rfl (by simp), ⟨h.lt, _, blk_set_self _ _ _, h2, ?_, rfl⟩, ⟨Nat.le_refl _, fun k _ hk => blk_set_ne hk⟩, rfl⟩
  have : (B.puts 1 [.bool bad']).at_ 0 = B.at_ 0 := rfl
  rw [this]; exact h3
theorem TkP.grow {H H' : Heap} {b : Nat} {r : List UInt8} {bad : Bool} (h : TkP H b r bad) (hn : H.next ≤ H'.next) (hb : H'.blk b = H.blk b) : TkP H' b r bad :=
  ⟨Nat.lt_of_lt_of_le h.lt hn, by rw [hb]; exact h.blk⟩
def numF (c : UInt8) (r : List UInt8) (bad : Bool) : Int × List UInt8 × Bool :=
  match Lib.atoiAll (cutL r c).1 with
  | .ok v => (v, (cutL r c).2.1, bad || !(cutL r c).2.2 || decide (v < 0))
  | .range => (Lib.atoiSat (cutL r c).1, (cutL r c).2.1, true)
  | _ => (0, (cutL r c).2.1, true)
theorem neq_nil : binA K.P .neq 49 .nilIface .nilIface true = some (.bool false) := by
  unfold binA
  rw [if_pos (show (true && bothNilIface .nilIface .nilIface) = true from rfl), show K.P.underlying 49 = _ from Tryd.underlying49]
  rfl
theorem neq_err (a : Addr) : binA K.P .neq 49 (.iface 98 (.pointer (some a))) .nilIface true = some (.bool true) := by
  unfold binA
  rw [if_neg (by simp [bothNilIface])]
  unfold binV
  rw [if_neg (by simp [flat2, flat1])]
  simp only [nilSort, show K.P.underlying 49 = _ from Tryd.underlying49]
  rfl
theorem num_ok (c : UInt8) {G : Heap} {b : Nat} {r : List UInt8} {bad : Bool} (h : TkP G b r bad) (hr : r.length ≤ 140737488355328) :
    ∃ G', call K f_script_taker_num [.pointer (some ⟨b, 0, none⟩), .string ⟨#[c]⟩] G = some (.int .i64 (numF c r bad).1, G') ∧ TkP G' b (numF c r bad).2.1 (numF c r bad).2.2 ∧ ExB b G G' := by
  have hcut := fun G => cut_ok r c hr G
  have hle := cutL_le r c
  have hd : (S (cutL r c).1).size ≤ 281474976710656 := by rw [S_size]; omega
  have hat : ∀ G, call K f_strconv_Atoi [.string (S (cutL r c).1)] G = atoiX [.string (S (cutL r c).1)] G := fun G => atoi_eq _ _
  simp only [atoiX, if_pos hd, show (S (cutL r c).1).data.toList = (cutL r c).1 from rfl] at hat
  have key : wpf (call K f_script_taker_num [.pointer (some ⟨b, 0, none⟩), .string ⟨#[c]⟩] G) fun v G' => v = .int .i64 (numF c r bad).1 ∧ TkP G' b (numF c r bad).2.1 (numF c r bad).2.2 ∧ ExB b G G' := by
    refine open_plain rfl fc_script_taker_num rfl (Nat.le_of_ble_eq_true rfl) ?_
    unfold numF
    generalize cutL r c = q at *
    obtain ⟨d, r', is⟩ := q
    simp only at hcut hat ⊢
    cases hv : Lib.atoiAll d with
    | ok v =>
      rw [hv] at hat
      simp only at hat ⊢
      obtain ⟨X, x1, x2, x3, xn⟩ := h.set0 r'
      obtain ⟨Y, y1, y2, y3, yn⟩ := x2.set1 true
      cases is
      · simp [h.c0, hcut, hat, x1, y1]
        exact ⟨y2, x3.trans y3⟩
      · by_cases hneg : v < 0
        · simp [h.c0, hcut, hat, x1, y1, neq_nil, hneg]
          exact ⟨y2, x3.trans y3⟩
        · simp [h.c0, hcut, hat, x1, neq_nil, hneg]
          exact ⟨x2, x3⟩
    | range =>
      rw [hv] at hat
      simp only at hat ⊢
      have h' : TkP { G with next := G.next + 1 } b r bad := h.grow (Nat.le_succ _) rfl
      have hE : ExB b G { G with next := G.next + 1 } := ⟨Nat.le_succ _, fun _ _ _ => rfl⟩
      obtain ⟨X, x1, x2, x3, xn⟩ := h'.set0 r'
      obtain ⟨Y, y1, y2, y3, yn⟩ := x2.set1 true
      cases is
      · simp [h.c0, hcut, hat, x1, y1]
        exact ⟨y2, (hE.trans x3).trans y3⟩
      · simp [h.c0, hcut, hat, x1, y1, neq_err]
        exact ⟨y2, (hE.trans x3).trans y3⟩
    | _ =>
      rw [hv] at hat
      simp only at hat ⊢
      have h' : TkP { G with next := G.next + 1 } b r bad := h.grow (Nat.le_succ _) rfl
      have hE : ExB b G { G with next := G.next + 1 } := ⟨Nat.le_succ _, fun _ _ _ => rfl⟩
      obtain ⟨X, x1, x2, x3, xn⟩ := h'.set0 r'
      obtain ⟨Y, y1, y2, y3, yn⟩ := x2.set1 true
      cases is
      · simp [h.c0, hcut, hat, x1, y1]
        exact ⟨y2, (hE.trans x3).trans y3⟩
      · simp [h.c0, hcut, hat, x1, y1, neq_err]
        exact ⟨y2, (hE.trans x3).trans y3⟩
  obtain ⟨v, G', h1, rfl, h2, h3⟩ := key
  exact ⟨G', h1, h2, h3⟩
theorem numF_len (c : UInt8) (r : List UInt8) (bad : Bool) : (numF c r bad).2.1.length ≤ r.length := by
  have := (cutL_le r c).2
  unfold numF; split <;> exact this
theorem numF_nonneg {c : UInt8} {r : List UInt8} {bad : Bool} (h : (numF c r bad).2.2 = false) : 0 ≤ (numF c r bad).1 := by
  unfold numF at h ⊢
  split at h
  · simp at h ⊢; omega
  · cases h
  · cases h
def textF (r : List UInt8) (bad : Bool) : List UInt8 × List UInt8 × Bool :=
  if (numF 58 r bad).2.2 = true ∨ ((numF 58 r bad).2.1.length : Int) < (numF 58 r bad).1 then ([], (numF 58 r bad).2.1, true)
  else ((numF 58 r bad).2.1.take (numF 58 r bad).1.toNat, (numF 58 r bad).2.1.drop (numF 58 r bad).1.toNat, false)
theorem textF_len (r : List UInt8) (bad : Bool) : (textF r bad).2.1.length ≤ r.length := by
  have := numF_len 58 r bad
  unfold textF; split
  · exact this
  · simp only [List.length_drop]; omega
theorem text_ok {G : Heap} {b : Nat} {r : List UInt8} {bad : Bool} (h : TkP G b r bad) (hr : r.length ≤ 140737488355328) :
    ∃ G', call K f_script_taker_text [.pointer (some ⟨b, 0, none⟩)] G = some (.string (S (textF r bad).1), G') ∧ TkP G' b (textF r bad).2.1 (textF r bad).2.2 ∧ ExB b G G' := by
  obtain ⟨X, x1, x2, x3⟩ := num_ok 58 h hr
  have hnn := numF_nonneg (c := 58) (r := r) (bad := bad)
  have key : wpf (call K f_script_taker_text [.pointer (some ⟨b, 0, none⟩)] G) fun v G' => v = .string (S (textF r bad).1) ∧ TkP G' b (textF r bad).2.1 (textF r bad).2.2 ∧ ExB b G G' := by
    refine open_plain rfl fc_script_taker_text rfl (Nat.le_of_ble_eq_true rfl) ?_
    unfold textF
    generalize numF 58 r bad = q at *
    obtain ⟨n, r', bd⟩ := q
    simp only at x1 x2 hnn ⊢
    obtain ⟨Y, y1, y2, y3, yn⟩ := x2.set1 true
    cases bd
    · have hn := hnn rfl
      obtain ⟨k, rfl⟩ := Int.eq_ofNat_of_zero_le hn
      have hsz : (S r').size = r'.length := S_size r'
      by_cases hlt : r'.length < k
      · have hlt2 : (r'.length : Int) < (k : Int) := by omega
        simp [x1, x2.c1, x2.c0, hsz, hlt, hlt2, y1]
        exact ⟨rfl, y2, x3.trans y3⟩
      · have hlt2 : ¬ (r'.length : Int) < (k : Int) := by omega
        obtain ⟨Z, z1, z2, z3, zn⟩ := x2.set0 (r'.drop k)
        have e1 : slsV (S r') none (some (.int .i64 (k : Int))) = some (.string (S (r'.take k))) := by
          simp only [slsV, bound, natOf]
          rw [if_pos (by omega), Int.toNat_natCast]
          simp only
          rw [if_pos ⟨by omega, by omega⟩]
          congr 2
          apply L_inj; rw [L_extract, L_S, L_S]; simp
        have e2 : slsV (S r') (some (.int .i64 (k : Int))) none = some (.string (S (r'.drop k))) := by
          simp only [slsV, bound, natOf]
          rw [if_pos (by omega), Int.toNat_natCast]
          simp only
          rw [if_pos ⟨by omega, by omega⟩]
          congr 2
          apply L_inj; rw [L_extract, L_S, L_S, hsz]
          rw [List.take_of_length_le (by rw [List.length_drop]; omega)]
        simp [x1, x2.c1, x2.c0, hsz, hlt, hlt2, e1, e2, z1]
        exact ⟨z2, x3.trans z3⟩
    · simp [x1, x2.c1, y1]
      exact ⟨rfl, y2, x3.trans y3⟩
  obtain ⟨v, G', h1, rfl, h2, h3⟩ := key
  exact ⟨G', h1, h2, h3⟩
end Go.AM
