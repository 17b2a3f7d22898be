import Derived.Test.YtbgidagbogpfkaaDoorR8T
/- The reference's ParseActs. -/
namespace Go.AM
open Go.Proofs
set_option linter.unusedVariables false
set_option linter.unusedSimpArgs false
set_option maxRecDepth 100000
attribute [-simp] ByteArray.size_eq_zero_iff Heap.store Heap.row
structure WIn (G : Heap) (b g : Nat) (l : List UInt8) (s : WSt) : Prop where
  lt : g < G.next
  w : WdP G b l s.at_ s.bad
  v : VarA G g s.c
theorem put_num {G : Heap} {b g : Nat} {l : List UInt8} {s : WSt} (h : WIn G b g l s) (hbg : b ≠ g) (i : Nat) (ha : s.at_ ≤ 1152921504606840000) (hl : l.length ≤ 140737488355328) :
    ∃ (n : Nat) (X Y : Heap), call K f_ref20_words_num [.pointer (some ⟨b, 0, none⟩)] G = some (.int .i64 (n : Int), X) ∧ X.store g (offN i) [.int .i64 (n : Int)] = some Y ∧ WIn Y b g l (stN i l s) ∧ Ex2 b g G Y ∧ (stN i l s).at_ ≤ s.at_ + 5 := by
  obtain ⟨X, x1, x2, x3⟩ := wnum_ok h.w (by omega) hl
  have hle := wnum_le l s.at_ s.bad
  have hv : VarA X g s.c := h.v.other (x3.blk g h.lt (fun e => hbg e.symm))
  obtain ⟨Y, y1, y2, y3, y4⟩ := hv.put (q := (stN i l s).c) (offN_lt i) (v := .int .i64 ((wnum l s.at_ s.bad).1 : Int)) rfl (setN_enc i _ _)
  exact ⟨_, X, Y, x1, y1, ⟨by have := x3.next; have := h.lt; omega, x2.grow (by omega) (y4 b hbg), y2⟩, ⟨by have := x3.next; omega, fun k h1 h2 h3 => by rw [y4 k h3, x3.blk k h1 h2]⟩, by show (wnum l s.at_ s.bad).2.1 ≤ _; omega⟩
theorem put_torn {G : Heap} {b g : Nat} {l : List UInt8} {s : WSt} (h : WIn G b g l s) (hbg : b ≠ g) (ha : s.at_ ≤ 1152921504606840000) (hl : l.length ≤ 140737488355328) :
    ∃ (n : Int) (X Y : Heap), call K f_ref20_words_num [.pointer (some ⟨b, 0, none⟩)] G = some (.int .i64 n, X) ∧ X.store g 8 [.int .i64 (IntKind.i64.wrap (n - 1))] = some Y ∧ WIn Y b g l (midW (stN 3 l s)) ∧ Ex2 b g G Y ∧ (midW (stN 3 l s)).at_ ≤ s.at_ + 5 := by
  obtain ⟨X, x1, x2, x3⟩ := wnum_ok h.w (by omega) hl
  have hle := wnum_le l s.at_ s.bad
  have hv : VarA X g s.c := h.v.other (x3.blk g h.lt (fun e => hbg e.symm))
  obtain ⟨Y, y1, y2, y3, y4⟩ := hv.put (q := (midW (stN 3 l s)).c) (j := 8) (by omega) (v := .int .i64 (IntKind.i64.wrap (((wnum l s.at_ s.bad).1 : Int) - 1))) rfl rfl
  exact ⟨_, X, Y, x1, y1, ⟨by have := x3.next; have := h.lt; omega, x2.grow (by omega) (y4 b hbg), y2⟩, ⟨by have := x3.next; omega, fun k h1 h2 h3 => by rw [y4 k h3, x3.blk k h1 h2]⟩, by show (wnum l s.at_ s.bad).2.1 ≤ _; omega⟩
theorem put_text {G : Heap} {b g : Nat} {l : List UInt8} {s : WSt} (h : WIn G b g l s) (hbg : b ≠ g) (i : Nat) (ha : s.at_ ≤ 1152921504606840000) (hl : l.length ≤ 140737488355328) :
    ∃ (t : ByteArray) (X Y : Heap), call K f_ref20_words_text [.pointer (some ⟨b, 0, none⟩)] G = some (.string t, X) ∧ X.store g (offT i) [.string t] = some Y ∧ WIn Y b g l (stT i l s) ∧ Ex2 b g G Y ∧ (stT i l s).at_ ≤ s.at_ + 10004 := by
  obtain ⟨X, x1, x2, x3⟩ := wtext_ok h.w (by omega) hl
  have hle := wtext_le l s.at_ s.bad
  have hv : VarA X g s.c := h.v.other (x3.blk g h.lt (fun e => hbg e.symm))
  obtain ⟨Y, y1, y2, y3, y4⟩ := hv.put (q := (stT i l s).c) (offT_lt i) (v := .string (S (wtext l s.at_ s.bad).1)) rfl (setT_enc i _ _)
  exact ⟨_, X, Y, x1, y1, ⟨by have := x3.next; have := h.lt; omega, x2.grow (by omega) (y4 b hbg), y2⟩, ⟨by have := x3.next; omega, fun k h1 h2 h3 => by rw [y4 k h3, x3.blk k h1 h2]⟩, by show (wtext l s.at_ s.bad).2.1 ≤ _; omega⟩
theorem put_first {G : Heap} {b : Nat} {l : List UInt8} {at_ : Nat} {bad : Bool} (h : WdP G b l at_ bad) (ha : at_ ≤ 1152921504606840000) (hl : l.length ≤ 140737488355328) :
    ∃ (n : Nat) (X Y : Heap), call K f_ref20_words_num [.pointer (some ⟨b, 0, none⟩)] G = some (.int .i64 (n : Int), X) ∧ (X.add (rowBlk 10 (encA zA))).store X.next 0 (encA (setN 0 zA (n : Int))) = some Y ∧ b < X.next ∧ WIn Y b X.next l (stN 0 l ⟨zA, at_, bad⟩) ∧ ExB b G Y ∧ G.next ≤ X.next ∧ Y.next = X.next + 1 ∧ (stN 0 l ⟨zA, at_, bad⟩).at_ ≤ at_ + 5 := by
  obtain ⟨X, x1, x2, x3⟩ := wnum_ok h (by omega) hl
  have hle := wnum_le l at_ bad
  obtain ⟨Y, y1, y2, y3, y4⟩ := new_act X (setN 0 zA ((wnum l at_ bad).1 : Int))
  have hx := x2.lt
  exact ⟨_, X, Y, x1, y1, hx, ⟨by omega, x2.grow (by omega) (y2.blk b hx), y3⟩, ⟨by have := x3.next; omega, fun k h1 h2 => by rw [y2.blk k (by have := x3.next; omega), x3.blk k h1 h2]⟩, x3.next, y4, by show (wnum l at_ bad).2.1 ≤ _; omega⟩
/-- One round of the loop. -/
theorem wround {G : Heap} {b : Nat} {l : List UInt8} {at_ : Nat} {bad : Bool} (h : WdP G b l at_ bad) (ha : at_ ≤ 140737488355328) (hl : l.length ≤ 140737488355328) {e : Env} (e5 : e 5 = .pointer (some ⟨b, 0, none⟩)) {s : ByteArray} (e0 : e 0 = .string s) {n0 : Nat} (hn0 : b < n0) {out : List Ac} (hown : Own encA 10 n0 G (e 4) out) (hn : n0 ≤ G.next) (ho : out.length ≤ 256)
    {Q : IEx → Env → Heap → Prop} (hQ : ∀ e' G', e' 5 = .pointer (some ⟨b, 0, none⟩) → e' 0 = .string s → WdP G' b l (wact l at_ bad).at_ (wact l at_ bad).bad → Own encA 10 n0 G' (e' 4) (out ++ [(wact l at_ bad).c]) → G.next ≤ G'.next → (∀ k, k < n0 → k ≠ b → G'.blk k = G.blk k) → Q .norm e' G') :
    wp (nxt (ok2 (runIr K.P (call K) c_ref20_ParseActs_r4 e G)) (run K (.seq (.reg c_ref20_ParseActs_r5) (.seq (.reg c_ref20_ParseActs_r6) (.seq (.reg c_ref20_ParseActs_r7) (.seq (.reg c_ref20_ParseActs_r8) (.seq (.reg c_ref20_ParseActs_r9) (.seq (.reg c_ref20_ParseActs_r10) (.seq (.reg c_ref20_ParseActs_r11) (.seq (.reg c_ref20_ParseActs_r12) (.seq (.reg c_ref20_ParseActs_r13) (.reg c_ref20_ParseActs_r14)))))))))))) Q := by
  obtain ⟨n0', X0, Y0, a0, s0, hbX, i0, E0, nX, nY, b0⟩ := put_first h (by omega) hl
  have hbg : b ≠ X0.next := by omega
  generalize hS0 : stN 0 l ⟨zA, at_, bad⟩ = S0 at *
  obtain ⟨n1, X1, Y1, a1, s1, i1, E1, b1⟩ := put_num i0 hbg 1 (by omega) hl
  generalize hS1 : stN 1 l S0 = S1 at *
  obtain ⟨n2, X2, Y2, a2, s2, i2, E2, b2⟩ := put_num i1 hbg 2 (by omega) hl
  generalize hS2 : stN 2 l S1 = S2 at *
  obtain ⟨n3, X3, Y3, a3, s3, i3, E3, b3⟩ := put_torn i2 hbg (by omega) hl
  generalize hS3 : midW (stN 3 l S2) = S3 at *
  obtain ⟨t0, X4, Y4, a4, s4, i4, E4, b4⟩ := put_text i3 hbg 0 (by omega) hl
  generalize hS4 : stT 0 l S3 = S4 at *
  obtain ⟨t1, X5, Y5, a5, s5, i5, E5, b5⟩ := put_text i4 hbg 1 (by omega) hl
  generalize hS5 : stT 1 l S4 = S5 at *
  obtain ⟨t2, X6, Y6, a6, s6, i6, E6, b6⟩ := put_text i5 hbg 2 (by omega) hl
  generalize hS6 : stT 2 l S5 = S6 at *
  obtain ⟨t3, X7, Y7, a7, s7, i7, E7, b7⟩ := put_text i6 hbg 3 (by omega) hl
  generalize hS7 : stT 3 l S6 = S7 at *
  obtain ⟨t4, X8, Y8, a8, s8, i8, E8, b8⟩ := put_text i7 hbg 4 (by omega) hl
  generalize hS8 : stT 4 l S7 = S8 at *
  obtain ⟨t5, X9, Y9, a9, s9, i9, E9, b9⟩ := put_text i8 hbg 5 (by omega) hl
  have hS9 : stT 5 l S8 = wact l at_ bad := by unfold wact; rw [hS0, hS1, hS2, hS3, hS4, hS5, hS6, hS7, hS8]
  rw [hS9] at i9
  generalize wact l at_ bad = A at *
  have EE : Ex2 b X0.next G Y9 := (((((((((Ex2.ofB E0).trans E1).trans E2).trans E3).trans E4).trans E5).trans E6).trans E7).trans E8).trans E9
  have hn9 := EE.next
  have hownY : Own encA 10 n0 Y9 (e 4) out := hown.frame hn9 fun k hk1 hk2 _ => EE.blk k hk2 (by omega) (by omega)
  obtain ⟨v', Z, z1, z2, z3, z4⟩ := own_push hownY (by omega) A.c (by omega)
  have hrow := i9.v.isA.row
  have hone : (∀ (x : Value), x ∈ encA A.c → x.oneCell' = true) = True := eq_true (List.all_eq_true.1 (encA_one _))
  have hz0 : encA (setN 0 zA (n0' : Int)) = [.int .i64 (n0' : Int), .string ⟨#[]⟩, .string ⟨#[]⟩, .string ⟨#[]⟩, .string ⟨#[]⟩, .string ⟨#[]⟩, .int .i64 0, .string ⟨#[]⟩, .int .i64 0, .int .i64 0] := rfl
  rw [hz0] at s0
  simp only [offN, offT] at s1 s2 s4 s5 s6 s7 s8 s9
  simp only [zA_enc] at s0
  simp [e5, e0, a0, s0, a1, s1, a2, s2, a3, s3, a4, s4, a5, s5, a6, s6, a7, s7, a8, s8, a9, s9, hrow, encA_len, hone, z1]
  exact hQ _ _ (by simp [e5]) (by simp [e0]) (i9.w.grow z3 (z4 b hn0)) (by simpa using z2) (by omega) fun k hk hkb => by rw [z4 k hk, EE.blk k (by omega) hkb (by omega)]
structure QInv (G : Heap) (s : ByteArray) (d : Nat) (e : Env) (G' : Heap) (out : List Ac) (at_ : Nat) (bad : Bool) : Prop where
  d : d = 257 - out.length
  ho : out.length ≤ 257
  hE : Ext G G'
  hn : G.next + 1 ≤ G'.next
  ht : WdP G' G.next (L s) at_ bad
  hown : Own encA 10 (G.next + 1) G' (e 4) out
  e5 : e 5 = .pointer (some ⟨G.next, 0, none⟩)
  e0 : e 0 = .string s
  hp : wparse 257 (L s) [] 0 false = wparse (257 - out.length) (L s) out at_ bad
def QInvE (G : Heap) (s : ByteArray) (d : Nat) (e : Env) (G' : Heap) : Prop := ∃ out at_ bad, QInv G s d e G' out at_ bad
theorem parseActs_ok (s : ByteArray) (hs : s.size ≤ 140737488355328) (G : Heap) : ∃ v G', call K f_ref20_ParseActs [.string s] G = some (.tuple #[v, .int .i64 (parseS s).2], G') ∧ Rows encA 10 G' v (parseS s).1 ∧ Ext G G' := by
  rw [← wparse_spec s]
  have key : wpf (call K f_ref20_ParseActs [.string s] G) fun u G' => ∃ v, u = .tuple #[v, .int .i64 (resP (wparse 257 (L s) [] 0 false) s).2] ∧ Rows encA 10 G' v (resP (wparse 257 (L s) [] 0 false) s).1 ∧ Ext G G' := by
    refine open_plain rfl fc_ref20_ParseActs rfl (Nat.le_of_ble_eq_true rfl) ?_
    simp
    have t0 : WdP (G.add (rowBlk 3 [.string s, .int .i64 0, .bool false])) G.next (L s) 0 false := ⟨by simp, _, blk_add_new _ _, rfl, by rw [S_L]; rfl, rfl, rfl⟩
    refine wp_nxt (wp_for (QInvE G s) 257 ⟨[], 0, false, by simp, by simp, (Ext.refl G).add _, by simp, t0, by simpa using Own.nil, by simp, by simp, rfl⟩ ?_)
    rintro d e G' ⟨out, at_, bad, rfl, ho, hE, hn, ht, hown, e5, e0, hp⟩
    have hlen := hown.len
    have hls : (L s).length = s.size := L_length s
    have stop : ¬ (at_ < (L s).length ∧ bad = false ∧ out.length ≤ 256) → wparse 257 (L s) [] 0 false = (out, bad) := fun h => by
      rw [hp]
      cases 257 - out.length with
      | zero => rfl
      | succ n => simp only [wparse]; rw [if_neg h]
    by_cases hgo : at_ < (L s).length ∧ bad = false ∧ out.length ≤ 256
    · obtain ⟨g1, rfl, g3⟩ := hgo
      have g1' : (at_ : Int) < (s.size : Int) := by omega
      have g3' : (out.length : Int) ≤ 256 := by omega
      have hstep : wparse (257 - out.length) (L s) out at_ false = wparse (257 - (out ++ [(wact (L s) at_ false).c]).length) (L s) (out ++ [(wact (L s) at_ false).c]) (wact (L s) at_ false).at_ (wact (L s) at_ false).bad := by
        rw [List.length_append, List.length_singleton, show 257 - out.length = (257 - (out.length + 1)) + 1 by omega]
        simp only [wparse]
        rw [if_pos ⟨g1, by first | rfl | trivial, g3⟩]
      simp [c_ref20_ParseActs_l15, -c_ref20_ParseActs_r4, -c_ref20_ParseActs_r5, -c_ref20_ParseActs_r6, -c_ref20_ParseActs_r7, -c_ref20_ParseActs_r8, -c_ref20_ParseActs_r9, -c_ref20_ParseActs_r10, -c_ref20_ParseActs_r11, -c_ref20_ParseActs_r12, -c_ref20_ParseActs_r13, -c_ref20_ParseActs_r14, e5, e0, ht.c1, ht.c2, g1', hlen, g3']
      refine wp_unblock (wround (s := s) ht (by omega) (by omega) (by simp [e5]) (by simp [e0]) (n0 := G.next + 1) (by omega) (out := out) (by simpa using hown) hn (by omega) fun e' X f5 f0 fw fo fn fb => ?_)
      have hQ : QInvE G s (257 - (out.length + 1)) e' X := ⟨out ++ [(wact (L s) at_ false).c], (wact (L s) at_ false).at_, (wact (L s) at_ false).bad, by simp, by simp; omega, ⟨by omega, fun k hk => by rw [fb k (by omega) (by omega), hE.blk k hk]⟩, by omega, fw, fo, f5, f0, by rw [hp, hstep]⟩
      exact ⟨257 - (out.length + 1), by omega, hQ⟩
    · rw [stop hgo]
      have hsh := showActs_ok (e 4) out G' (hown.rows encA_len)
      rw [showV_eq] at hsh
      have hrows := hown.rows encA_len
      have htrue : resP (out, true) s = ([], 2400) := by unfold resP; rw [if_neg (fun h => by cases h.1)]
      obtain ⟨p4, c4, h4⟩ := hrows.slice
      by_cases g1 : at_ < (L s).length
      · have g1' : (at_ : Int) < (s.size : Int) := by omega
        cases bad
        · have g3 : ¬ (out.length : Int) ≤ 256 := fun h => hgo ⟨g1, rfl, by omega⟩
          by_cases h1 : (showS out).2 = 0
          · by_cases h2 : (showS out).1 = s
            · have hres : resP (out, false) s = (out, 0) := by unfold resP; rw [if_pos ⟨rfl, Prod.ext h2 h1⟩]
              simp [c_ref20_ParseActs_l15, e5, e0, ht.c1, ht.c2, hlen, hsh, g1', g3, h1, h2, hres]
              exact ⟨_, ⟨by rw [h4], rfl⟩, e 4, rfl, hrows, hE⟩
            · have hres : resP (out, false) s = ([], 2400) := by unfold resP; rw [if_neg (fun h => h2 (congrArg Prod.fst h.2))]
              simp [c_ref20_ParseActs_l15, e5, e0, ht.c1, ht.c2, hlen, hsh, g1', g3, h1, h2, hres]
              exact ⟨Rows.nil, hE⟩
          · have hres : resP (out, false) s = ([], 2400) := by unfold resP; rw [if_neg (fun h => h1 (congrArg Prod.snd h.2))]
            simp [c_ref20_ParseActs_l15, e5, e0, ht.c1, ht.c2, hlen, hsh, g1', g3, h1, hres]
            exact ⟨Rows.nil, hE⟩
        · simp [c_ref20_ParseActs_l15, e5, e0, ht.c1, ht.c2, hlen, hsh, g1', htrue]
          exact ⟨Rows.nil, hE⟩
      · have g1' : ¬ (at_ : Int) < (s.size : Int) := by omega
        cases bad
        · by_cases h1 : (showS out).2 = 0
          · by_cases h2 : (showS out).1 = s
            · have hres : resP (out, false) s = (out, 0) := by unfold resP; rw [if_pos ⟨rfl, Prod.ext h2 h1⟩]
              simp [c_ref20_ParseActs_l15, e5, e0, ht.c1, ht.c2, hlen, hsh, g1', h1, h2, hres]
              exact ⟨_, ⟨by rw [h4], rfl⟩, e 4, rfl, hrows, hE⟩
            · have hres : resP (out, false) s = ([], 2400) := by unfold resP; rw [if_neg (fun h => h2 (congrArg Prod.fst h.2))]
              simp [c_ref20_ParseActs_l15, e5, e0, ht.c1, ht.c2, hlen, hsh, g1', h1, h2, hres]
              exact ⟨Rows.nil, hE⟩
          · have hres : resP (out, false) s = ([], 2400) := by unfold resP; rw [if_neg (fun h => h1 (congrArg Prod.snd h.2))]
            simp [c_ref20_ParseActs_l15, e5, e0, ht.c1, ht.c2, hlen, hsh, g1', h1, hres]
            exact ⟨Rows.nil, hE⟩
        · simp [c_ref20_ParseActs_l15, e5, e0, ht.c1, ht.c2, hlen, hsh, g1', htrue]
          exact ⟨Rows.nil, hE⟩
  obtain ⟨u, G', h1, v, rfl, h2, h3⟩ := key
  exact ⟨v, G', h1, h2, h3⟩
end Go.AM
