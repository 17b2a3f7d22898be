import Derived.Test.YtbgidagbogpfkaaDoorR8M
/- The taker: acts. -/
namespace Go.AM
open Go.Proofs
set_option linter.unusedVariables false
set_option linter.unusedSimpArgs false
set_option maxRecDepth 100000
attribute [-simp] ByteArray.size_eq_zero_iff Heap.store Heap.row
def setN (i : Nat) (c : Ac) (v : Int) : Ac := match i with
  | 0 => { c with kind := v }
  | 1 => { c with cut := v }
  | 2 => { c with at_ := v }
  | _ => { c with torn := v }
def offN (i : Nat) : Nat := match i with
  | 0 => 0
  | 1 => 6
  | 2 => 9
  | _ => 8
def setT (i : Nat) (c : Ac) (v : ByteArray) : Ac := match i with
  | 0 => { c with name := v }
  | 1 => { c with parent := v }
  | 2 => { c with to := v }
  | 3 => { c with path := v }
  | 4 => { c with text := v }
  | _ => { c with keep := v }
def offT (i : Nat) : Nat := match i with
  | 0 => 1
  | 1 => 2
  | 2 => 3
  | 3 => 4
  | 4 => 5
  | _ => 7
theorem setN_enc (i : Nat) (c : Ac) (v : Int) : encA (setN i c v) = (encA c).set (offN i) (.int .i64 v) := by
  match i with
  | 0 => rfl
  | 1 => rfl
  | 2 => rfl
  | i + 3 => rfl
theorem setT_enc (i : Nat) (c : Ac) (v : ByteArray) : encA (setT i c v) = (encA c).set (offT i) (.string v) := by
  match i with
  | 0 => rfl
  | 1 => rfl
  | 2 => rfl
  | 3 => rfl
  | 4 => rfl
  | i + 5 => rfl
theorem offN_lt (i : Nat) : offN i < 10 := by
  match i with
  | 0 => decide
  | 1 => decide
  | 2 => decide
  | i + 3 => show 8 < 10; decide
theorem offT_lt (i : Nat) : offT i < 10 := by
  match i with
  | 0 => decide
  | 1 => decide
  | 2 => decide
  | 3 => decide
  | 4 => decide
  | i + 5 => show 7 < 10; decide
structure TSt where
  c : Ac
  r : List UInt8
  bad : Bool
def stepN (i : Nat) (s : TSt) : TSt := ⟨setN i s.c (numF 32 s.r s.bad).1, (numF 32 s.r s.bad).2.1, (numF 32 s.r s.bad).2.2⟩
def stepT (i : Nat) (s : TSt) : TSt := ⟨setT i s.c (S (textF s.r s.bad).1), (textF s.r s.bad).2.1, (textF s.r s.bad).2.2⟩
def iterS (f : Nat → TSt → TSt) : Nat → TSt → TSt
  | 0, s => s
  | n + 1, s => f n (iterS f n s)
def mid (s : TSt) : TSt := { s with c := { s.c with torn := IntKind.i64.wrap (s.c.torn - 1) } }
def actF (r : List UInt8) (bad : Bool) : TSt := iterS stepT 6 (mid (iterS stepN 4 ⟨zA, r, bad⟩))
theorem stepN_len (i : Nat) (s : TSt) : (stepN i s).r.length ≤ s.r.length := numF_len _ _ _
theorem stepT_len (i : Nat) (s : TSt) : (stepT i s).r.length ≤ s.r.length := textF_len _ _
theorem iter_len (f : Nat → TSt → TSt) (h : ∀ i s, (f i s).r.length ≤ s.r.length) : ∀ n s, (iterS f n s).r.length ≤ s.r.length
  | 0, s => Nat.le_refl _
  | n + 1, s => Nat.le_trans (h n _) (iter_len f h n s)
theorem actF_len (r : List UInt8) (bad : Bool) : (actF r bad).r.length ≤ r.length := by
  have h1 := iter_len stepT stepT_len 6 (mid (iterS stepN 4 ⟨zA, r, bad⟩))
  have h2 := iter_len stepN stepN_len 4 ⟨zA, r, bad⟩
  have h3 : (mid (iterS stepN 4 ⟨zA, r, bad⟩)).r = (iterS stepN 4 ⟨zA, r, bad⟩).r := rfl
  rw [h3] at h1
  exact Nat.le_trans h1 h2
/-- What taking leaves as it was. -/
structure Ex2 (b g : Nat) (H H' : Heap) : Prop where
  next : H.next ≤ H'.next
  blk : ∀ k, k < H.next → k ≠ b → k ≠ g → H'.blk k = H.blk k
theorem Ex2.refl (b g : Nat) (H : Heap) : Ex2 b g H H := ⟨Nat.le_refl _, fun _ _ _ _ => rfl⟩
theorem Ex2.trans {b g : Nat} {A B C : Heap} (h : Ex2 b g A B) (k : Ex2 b g B C) : Ex2 b g A C := ⟨Nat.le_trans h.next k.next, fun j h1 h2 h3 => (k.blk j (Nat.lt_of_lt_of_le h1 h.next) h2 h3).trans (h.blk j h1 h2 h3)⟩
theorem Ex2.ofB {b g : Nat} {A B : Heap} (h : ExB b A B) : Ex2 b g A B := ⟨h.next, fun k h1 h2 _ => h.blk k h1 h2⟩
theorem Ex2.ext {b g : Nat} {A B : Heap} (h : Ext A B) : Ex2 b g A B := ⟨h.next, fun k h1 _ _ => h.blk k h1⟩
theorem act_nums {e : Env} {G : Heap} {s : TSt} {b g m : Nat} (h0 : e 0 = .pointer (some ⟨b, 0, none⟩)) (h12 : e 12 = .slice (some ⟨m, 0, none⟩) 4 9) (h13 : e 13 = .int .i64 4) (h14 : e 14 = .int .i64 0)
    (hm : ∀ j, j < 4 → G.cell m j = some (.pointer (some ⟨g, offN j, none⟩))) (hml : m < G.next) (hgl : g < G.next) (hmb : m ≠ b) (hmg : m ≠ g) (hbg : b ≠ g) (ht : TkP G b s.r s.bad) (hv : VarA G g s.c) (hr : s.r.length ≤ 140737488355328) :
    wp (unblock 0 (run K (.loop c_script_taker_act_l7) e G)) fun y e' G' => y = .norm ∧ TkP G' b (iterS stepN 4 s).r (iterS stepN 4 s).bad ∧ VarA G' g (iterS stepN 4 s).c ∧ Ex2 b g G G' ∧ e' 0 = e 0 ∧ e' 2 = e 2 ∧ e' 3 = e 3 := by
  refine wp_for (fun d e' G' => ∃ i : Nat, d = 4 - i ∧ i ≤ 4 ∧ TkP G' b (iterS stepN i s).r (iterS stepN i s).bad ∧ VarA G' g (iterS stepN i s).c ∧ Ex2 b g G G' ∧ e' 12 = .slice (some ⟨m, 0, none⟩) 4 9 ∧ e' 13 = .int .i64 4 ∧ e' 14 = .int .i64 (i : Int) ∧ e' 0 = e 0 ∧ e' 2 = e 2 ∧ e' 3 = e 3) 4 ⟨0, by simp, by simp, ht, hv, Ex2.refl _ _ _, h12, h13, by simpa using h14, rfl, rfl, rfl⟩ ?_
  rintro d e' G' ⟨i, rfl, hi, ht', hv', hE, e12, e13, e14, e0, e2, e3⟩
  by_cases hlt : i < 4
  · have w1 := wrap_succ (i := i) (by omega)
    have hi4 : ((i : Nat) : Int) < 4 := by omega
    have hc : G'.cell m i = some (.pointer (some ⟨g, offN i, none⟩)) := by simp only [Heap.cell, hE.blk m hml hmb hmg]; exact hm i hlt
    have hlen := iter_len stepN stepN_len i s
    obtain ⟨X, x1, x2, x3⟩ := num_ok 32 ht' (by omega)
    have hvX : VarA X g (iterS stepN i s).c := hv'.other (x3.blk g (by have := hE.next; omega) (fun h => hbg h.symm))
    obtain ⟨Y, y1, y2, y3, y4⟩ := hvX.put (q := (stepN i (iterS stepN i s)).c) (offN_lt i) (v := .int .i64 (numF 32 (iterS stepN i s).r (iterS stepN i s).bad).1) rfl (setN_enc i _ _)
    have htY : TkP Y b (stepN i (iterS stepN i s)).r (stepN i (iterS stepN i s)).bad := x2.grow (by omega) (y4 b hbg)
    have hEY : Ex2 b g G Y := (hE.trans (Ex2.ofB x3)).trans ⟨by omega, fun k _ _ hk => y4 k hk⟩
    have hb0 : e 0 = .pointer (some ⟨b, 0, none⟩) := h0
    simp [c_script_taker_act_l7, e12, e13, e14, hi4, hlt, hc, e0, hb0, x1, y1]
    exact ⟨4 - (i + 1), by omega, i + 1, rfl, by omega, htY, y2, hEY, w1, e2, e3⟩
  · obtain rfl : i = 4 := by omega
    simp [c_script_taker_act_l7, e12, e13, e14, e0, e2, e3]
    exact ⟨ht', hv', hE⟩
theorem act_texts {e : Env} {G : Heap} {s : TSt} {b g m : Nat} (h0 : e 0 = .pointer (some ⟨b, 0, none⟩)) (h12 : e 30 = .slice (some ⟨m, 0, none⟩) 6 12) (h13 : e 31 = .int .i64 6) (h14 : e 32 = .int .i64 0)
    (hm : ∀ j, j < 6 → G.cell m j = some (.pointer (some ⟨g, offT j, none⟩))) (hml : m < G.next) (hgl : g < G.next) (hmb : m ≠ b) (hmg : m ≠ g) (hbg : b ≠ g) (ht : TkP G b s.r s.bad) (hv : VarA G g s.c) (hr : s.r.length ≤ 140737488355328) :
    wp (unblock 2 (run K (.loop c_script_taker_act_l14) e G)) fun y e' G' => y = .norm ∧ TkP G' b (iterS stepT 6 s).r (iterS stepT 6 s).bad ∧ VarA G' g (iterS stepT 6 s).c ∧ Ex2 b g G G' ∧ e' 0 = e 0 ∧ e' 2 = e 2 ∧ e' 3 = e 3 := by
  refine wp_for (fun d e' G' => ∃ i : Nat, d = 6 - i ∧ i ≤ 6 ∧ TkP G' b (iterS stepT i s).r (iterS stepT i s).bad ∧ VarA G' g (iterS stepT i s).c ∧ Ex2 b g G G' ∧ e' 30 = .slice (some ⟨m, 0, none⟩) 6 12 ∧ e' 31 = .int .i64 6 ∧ e' 32 = .int .i64 (i : Int) ∧ e' 0 = e 0 ∧ e' 2 = e 2 ∧ e' 3 = e 3) 6 ⟨0, by simp, by simp, ht, hv, Ex2.refl _ _ _, h12, h13, by simpa using h14, rfl, rfl, rfl⟩ ?_
  rintro d e' G' ⟨i, rfl, hi, ht', hv', hE, e12, e13, e14, e0, e2, e3⟩
  by_cases hlt : i < 6
  · have w1 := wrap_succ (i := i) (by omega)
    have hi4 : ((i : Nat) : Int) < 6 := by omega
    have hc : G'.cell m i = some (.pointer (some ⟨g, offT i, none⟩)) := by simp only [Heap.cell, hE.blk m hml hmb hmg]; exact hm i hlt
    have hlen := iter_len stepT stepT_len i s
    obtain ⟨X, x1, x2, x3⟩ := text_ok ht' (by omega)
    have hvX : VarA X g (iterS stepT i s).c := hv'.other (x3.blk g (by have := hE.next; omega) (fun h => hbg h.symm))
    obtain ⟨Y, y1, y2, y3, y4⟩ := hvX.put (q := (stepT i (iterS stepT i s)).c) (offT_lt i) (v := .string (S (textF (iterS stepT i s).r (iterS stepT i s).bad).1)) rfl (setT_enc i _ _)
    have htY : TkP Y b (stepT i (iterS stepT i s)).r (stepT i (iterS stepT i s)).bad := x2.grow (by omega) (y4 b hbg)
    have hEY : Ex2 b g G Y := (hE.trans (Ex2.ofB x3)).trans ⟨by omega, fun k _ _ hk => y4 k hk⟩
    have hb0 : e 0 = .pointer (some ⟨b, 0, none⟩) := h0
    simp [c_script_taker_act_l14, e12, e13, e14, hi4, hlt, hc, e0, hb0, x1, y1]
    exact ⟨6 - (i + 1), by omega, i + 1, rfl, by omega, htY, y2, hEY, w1, e2, e3⟩
  · obtain rfl : i = 6 := by omega
    simp [c_script_taker_act_l14, e12, e13, e14, e0, e2, e3]
    exact ⟨ht', hv', hE⟩
theorem act_ok {G : Heap} {b : Nat} {r : List UInt8} {bad : Bool} (h : TkP G b r bad) (hr : r.length ≤ 140737488355328) :
    ∃ G', call K f_script_taker_act [.pointer (some ⟨b, 0, none⟩)] G = some (acV (actF r bad).c, G') ∧ TkP G' b (actF r bad).r (actF r bad).bad ∧ ExB b G G' := by
  have key : wpf (call K f_script_taker_act [.pointer (some ⟨b, 0, none⟩)] G) fun v G' => v = acV (actF r bad).c ∧ TkP G' b (actF r bad).r (actF r bad).bad ∧ ExB b G G' := by
    refine open_plain rfl fc_script_taker_act rfl (Nat.le_of_ble_eq_true rfl) ?_
    have hlt := h.lt
    simp
    have u1 : VarA (G.add (rowBlk 10 (encA zA))) G.next zA := VarA.new G zA
    have u2 : VarA ((G.add (rowBlk 10 (encA zA))).add (rowBlk 10 (encA zA))) (G.next + 1) zA := VarA.new _ zA
    have hm : ∀ j, j < 4 → (((G.add (rowBlk 10 (encA zA))).add (rowBlk 10 (encA zA))).add (rowBlk 1 [.pointer (some ⟨G.next + 1, 0, none⟩), .pointer (some ⟨G.next + 1, 6, none⟩), .pointer (some ⟨G.next + 1, 9, none⟩), .pointer (some ⟨G.next + 1, 8, none⟩)])).cell (G.next + 1 + 1) j = some (.pointer (some ⟨G.next + 1, offN j, none⟩)) := fun j hj => by
      rw [show G.next + 1 + 1 = ((G.add (rowBlk 10 (encA zA))).add (rowBlk 10 (encA zA))).next from rfl, cell_add_new]
      match j, hj with
      | 0, _ => rfl
      | 1, _ => rfl
      | 2, _ => rfl
      | 3, _ => rfl
    have n3 : (((G.add (rowBlk 10 (encA zA))).add (rowBlk 10 (encA zA))).add (rowBlk 1 [.pointer (some ⟨G.next + 1, 0, none⟩), .pointer (some ⟨G.next + 1, 6, none⟩), .pointer (some ⟨G.next + 1, 9, none⟩), .pointer (some ⟨G.next + 1, 8, none⟩)])).next = G.next + 3 := rfl
    have E3 : Ext G (((G.add (rowBlk 10 (encA zA))).add (rowBlk 10 (encA zA))).add (rowBlk 1 [.pointer (some ⟨G.next + 1, 0, none⟩), .pointer (some ⟨G.next + 1, 6, none⟩), .pointer (some ⟨G.next + 1, 9, none⟩), .pointer (some ⟨G.next + 1, 8, none⟩)])) := (((Ext.refl G).add _).add _).add _
    have u1' : VarA (((G.add (rowBlk 10 (encA zA))).add (rowBlk 10 (encA zA))).add (rowBlk 1 [.pointer (some ⟨G.next + 1, 0, none⟩), .pointer (some ⟨G.next + 1, 6, none⟩), .pointer (some ⟨G.next + 1, 9, none⟩), .pointer (some ⟨G.next + 1, 8, none⟩)])) G.next zA := u1.other (by rw [blk_add_old (by simp; omega), blk_add_old (by simp)])
    have u2' : VarA (((G.add (rowBlk 10 (encA zA))).add (rowBlk 10 (encA zA))).add (rowBlk 1 [.pointer (some ⟨G.next + 1, 0, none⟩), .pointer (some ⟨G.next + 1, 6, none⟩), .pointer (some ⟨G.next + 1, 9, none⟩), .pointer (some ⟨G.next + 1, 8, none⟩)])) (G.next + 1) zA := u2.other (by rw [blk_add_old (by simp)])
    simp only [zA_enc] at u1' u2' hm n3 E3
    refine wp_nxt ((act_nums (s := ⟨zA, r, bad⟩) (b := b) (g := G.next + 1) (m := G.next + 1 + 1) (by simp) (by simp) (by simp) (by simp) hm (by omega) (by omega) (by omega) (by omega) (by omega) (h.grow (by omega) (E3.blk b hlt)) u2' hr).mono ?_)
    generalize Heap.add (Heap.add (G.add _) _) _ = G3 at *
    rintro y e1 Ga ⟨rfl, t4, v4, E4, f0, f2, f3⟩
    simp at f0 f2 f3
    have hlen := iter_len stepN stepN_len 4 ⟨zA, r, bad⟩
    generalize hs4 : iterS stepN 4 ⟨zA, r, bad⟩ = s4 at *
    obtain ⟨X, x1, x2, x3, x4⟩ := v4.put (q := (mid s4).c) (j := 8) (by omega) (v := .int .i64 (IntKind.i64.wrap (s4.c.torn - 1))) rfl rfl
    have na := E4.next
    have tX : TkP X b (mid s4).r (mid s4).bad := t4.grow (by omega) (x4 b (by omega))
    have hw := words_ok (G.next + 1) X
    have happ := words_app (G.next + 1) X
    simp [f0, f2, f3, v4.isA.c8, x1, hw, happ]
    have EW : Ext X (((X.add (rowBlk 1 (wordsR (G.next + 1)))).add (rowBlk 1 [.pointer (some ⟨G.next + 1, 7, none⟩)])).add (rowBlk 1 (wordsR (G.next + 1) ++ [.pointer (some ⟨G.next + 1, 7, none⟩)]))) := (((Ext.refl X).add _).add _).add _
    have nW : (((X.add (rowBlk 1 (wordsR (G.next + 1)))).add (rowBlk 1 [.pointer (some ⟨G.next + 1, 7, none⟩)])).add (rowBlk 1 (wordsR (G.next + 1) ++ [.pointer (some ⟨G.next + 1, 7, none⟩)]))).next = X.next + 3 := rfl
    have hmT : ∀ j, j < 6 → (((X.add (rowBlk 1 (wordsR (G.next + 1)))).add (rowBlk 1 [.pointer (some ⟨G.next + 1, 7, none⟩)])).add (rowBlk 1 (wordsR (G.next + 1) ++ [.pointer (some ⟨G.next + 1, 7, none⟩)]))).cell (X.next + 2) j = some (.pointer (some ⟨G.next + 1, offT j, none⟩)) := fun j hj => by
      rw [show X.next + 2 = ((X.add (rowBlk 1 (wordsR (G.next + 1)))).add (rowBlk 1 [.pointer (some ⟨G.next + 1, 7, none⟩)])).next from rfl, cell_add_new]
      match j, hj with
      | 0, _ => rfl
      | 1, _ => rfl
      | 2, _ => rfl
      | 3, _ => rfl
      | 4, _ => rfl
      | 5, _ => rfl
    generalize (((X.add (rowBlk 1 (wordsR (G.next + 1)))).add (rowBlk 1 [.pointer (some ⟨G.next + 1, 7, none⟩)])).add (rowBlk 1 (wordsR (G.next + 1) ++ [.pointer (some ⟨G.next + 1, 7, none⟩)]))) = W at *
    have tW : TkP W b (mid s4).r (mid s4).bad := tX.grow EW.next (EW.blk b tX.lt)
    have vW : VarA W (G.next + 1) (mid s4).c := x2.other (EW.blk _ (by omega))
    have uW : VarA W G.next zA := u1'.other (by rw [EW.blk _ (by omega), x4 _ (by omega), E4.blk _ (by omega) (by omega) (by omega)])
    refine wp_nxt ((act_texts (s := mid s4) (b := b) (g := G.next + 1) (m := X.next + 2) (by simp [f0]) (by simp) (by simp) (by simp) hmT (by omega) (by omega) (by omega) (by omega) (by omega) tW vW (by show s4.r.length ≤ _; have : s4.r.length ≤ r.length := hlen; omega)).mono ?_)
    rintro y e2 Gb ⟨rfl, t6, v6, E6, k0, k2, k3⟩
    simp [f0, f2, f3] at k0 k2 k3
    have hact : iterS stepT 6 (mid s4) = actF r bad := by rw [← hs4]; rfl
    rw [hact] at t6 v6
    have nb := E6.next
    have uB : VarA Gb G.next zA := uW.other (E6.blk _ (by omega) (by omega) (by omega))
    obtain ⟨Z, z1, z2, z3, z4⟩ := uB.store (actF r bad).c
    have hrow6 := v6.isA.row
    have hrowZ := z2.isA.row
    simp [k0, k2, k3, hrow6, hrowZ, encA_len, z1]
    refine ⟨t6.grow (by omega) (z4 b (by omega)), by omega, fun k hk hkb => ?_⟩
    rw [z4 k (by omega), E6.blk k (by omega) hkb (by omega), EW.blk k (by omega), x4 k (by omega), E4.blk k (by omega) hkb (by omega), E3.blk k hk]
  obtain ⟨v, G', h1, rfl, h2, h3⟩ := key
  exact ⟨G', h1, h2, h3⟩
end Go.AM
