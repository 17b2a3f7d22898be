import Derived.Test.YtbgidagbogpfkaaDoorR8R
/- Plain: the reference's taking of scripts. -/
namespace Go.AM
set_option linter.unusedVariables false
set_option linter.unusedSimpArgs false
set_option maxRecDepth 100000
def wdig : Nat → List UInt8 → Nat → Nat → Nat × Nat
  | 0, _, at_, x => (x, at_)
  | k + 1, l, at_, x => match l[at_]? with
    | some c => if 48 ≤ c.toNat ∧ c.toNat ≤ 57 then wdig k l (at_ + 1) (10 * x + (c.toNat - 48)) else (x, at_)
    | none => (x, at_)
theorem wdig_le : ∀ (k : Nat) (l : List UInt8) (at_ x : Nat), (wdig k l at_ x).2 ≤ at_ + k ∧ at_ ≤ (wdig k l at_ x).2 ∧ (at_ ≤ l.length → (wdig k l at_ x).2 ≤ l.length) ∧ (wdig k l at_ x).1 + 1 ≤ (x + 1) * 10 ^ k
  | 0, l, at_, x => ⟨Nat.le_refl _, Nat.le_refl _, fun h => h, by simp [wdig]⟩
  | k + 1, l, at_, x => by
    have hp : 0 < 10 ^ k := Nat.pow_pos (by decide)
    have base : x + 1 ≤ (x + 1) * 10 ^ (k + 1) := Nat.le_mul_of_pos_right _ (Nat.pow_pos (by decide))
    unfold wdig
    split
    · rename_i c hc
      have hlt := (List.getElem?_eq_some_iff.1 hc).1
      split
      · rename_i h
        obtain ⟨h1, h2, h3, h4⟩ := wdig_le k l (at_ + 1) (10 * x + (c.toNat - 48))
        refine ⟨by omega, by omega, fun _ => h3 (by omega), Nat.le_trans h4 ?_⟩
        rw [Nat.pow_succ, Nat.mul_comm (10 ^ k) 10, ← Nat.mul_assoc]
        exact Nat.mul_le_mul_right _ (by omega)
      · exact ⟨by simp, by simp, fun h => h, base⟩
    · exact ⟨by simp, by simp, fun h => h, base⟩
def dval : Nat → List UInt8 → Nat
  | x, [] => x
  | x, c :: d => dval (10 * x + (c.toNat - 48)) d
theorem dval_app : ∀ (a b : List UInt8) (x : Nat), dval x (a ++ b) = dval (dval x a) b
  | [], b, x => rfl
  | c :: a, b, x => dval_app a b _
theorem dval_dec : ∀ n : Nat, dval 0 (Lib.decDigits n) = n := by
  intro n
  induction n using Nat.strongRecOn with
  | _ n ih =>
    have hd : (UInt8.ofNat (48 + n % 10)).toNat = 48 + n % 10 := by rw [UInt8.toNat_ofNat']; omega
    rw [dec_eq, dval_app]
    by_cases h : n < 10
    · rw [if_pos h]; show 10 * 0 + ((UInt8.ofNat (48 + n % 10)).toNat - 48) = n; rw [hd]; omega
    · rw [if_neg h, ih _ (by omega)]; show 10 * (n / 10) + ((UInt8.ofNat (48 + n % 10)).toNat - 48) = n; rw [hd]; omega
theorem drop_cons {l : List UInt8} {n : Nat} {c : UInt8} {r : List UInt8} (h : l.drop n = c :: r) : l[n]? = some c ∧ l.drop (n + 1) = r := by
  have h1 : (l.drop n)[0]? = some c := by rw [h]; rfl
  rw [List.getElem?_drop] at h1
  refine ⟨h1, ?_⟩
  rw [← List.drop_drop, h]; rfl
theorem wdig_back : ∀ (d : List UInt8) (k : Nat) (l : List UInt8) (at_ x : Nat) (c : UInt8) (r : List UInt8), (∀ y ∈ d, 48 ≤ y.toNat ∧ y.toNat ≤ 57) → ¬ (48 ≤ c.toNat ∧ c.toNat ≤ 57) → d.length ≤ k → l.drop at_ = d ++ c :: r →
    wdig k l at_ x = (dval x d, at_ + d.length) ∧ l.drop (at_ + d.length) = c :: r
  | [], 0, l, at_, x, c, r, _, _, _, h => ⟨rfl, h⟩
  | [], k + 1, l, at_, x, c, r, _, hc, _, h => by
    refine ⟨?_, h⟩
    unfold wdig
    rw [(drop_cons h).1]
    simp only
    rw [if_neg hc]; rfl
  | y :: d, 0, l, at_, x, c, r, _, _, hk, h => by simp at hk
  | y :: d, k + 1, l, at_, x, c, r, hd, hc, hk, h => by
    obtain ⟨e1, e2⟩ := drop_cons h
    obtain ⟨i1, i2⟩ := wdig_back d k l (at_ + 1) (10 * x + (y.toNat - 48)) c r (fun z hz => hd z (by simp [hz])) hc (by simpa using hk) e2
    have hh : at_ + 1 + d.length = at_ + (y :: d).length := by simp; omega
    rw [hh] at i1 i2
    refine ⟨?_, i2⟩
    unfold wdig
    rw [e1]
    simp only
    rw [if_pos (hd y (by simp)), i1]; rfl
def wnum (l : List UInt8) (at_ : Nat) (bad : Bool) : Nat × Nat × Bool := ((wdig 4 l at_ 0).1, (wdig 4 l at_ 0).2 + 1, bad || decide (l.length ≤ (wdig 4 l at_ 0).2))
theorem wnum_le (l : List UInt8) (at_ : Nat) (bad : Bool) : (wnum l at_ bad).1 ≤ 9999 ∧ (wnum l at_ bad).2.1 ≤ at_ + 5 ∧ at_ ≤ (wnum l at_ bad).2.1 ∧ ((wnum l at_ bad).2.2 = false → (wnum l at_ bad).2.1 ≤ l.length) := by
  obtain ⟨h1, h2, h3, h4⟩ := wdig_le 4 l at_ 0
  simp only [wnum]
  refine ⟨by omega, by omega, by omega, fun h => ?_⟩
  simp only [Bool.or_eq_false_iff, decide_eq_false_iff_not] at h
  omega
theorem wnum_back {l : List UInt8} {at_ n : Nat} {c : UInt8} {r : List UInt8} {bad : Bool} (hn : n ≤ 1000) (hc : ¬ (48 ≤ c.toNat ∧ c.toNat ≤ 57)) (h : l.drop at_ = Lib.decDigits n ++ c :: r) :
    wnum l at_ bad = (n, at_ + (Lib.decDigits n).length + 1, bad) ∧ l.drop (at_ + (Lib.decDigits n).length + 1) = r := by
  have hl := (decDigits_len hn).1
  obtain ⟨h1, h2⟩ := wdig_back (Lib.decDigits n) 4 l at_ 0 c r (dec_digit n) hc hl h
  obtain ⟨h3, h4⟩ := drop_cons h2
  have hlt := (List.getElem?_eq_some_iff.1 h3).1
  refine ⟨?_, h4⟩
  unfold wnum
  rw [h1, dval_dec]
  simp only
  rw [decide_eq_false (by omega), Bool.or_false]
def wtext (l : List UInt8) (at_ : Nat) (bad : Bool) : List UInt8 × Nat × Bool :=
  if (wnum l at_ bad).2.2 = true ∨ l.length < (wnum l at_ bad).2.1 + (wnum l at_ bad).1 then ([], (wnum l at_ bad).2.1, true)
  else ((l.drop (wnum l at_ bad).2.1).take (wnum l at_ bad).1, (wnum l at_ bad).2.1 + (wnum l at_ bad).1, false)
theorem wtext_le (l : List UInt8) (at_ : Nat) (bad : Bool) : at_ ≤ (wtext l at_ bad).2.1 ∧ (wtext l at_ bad).2.1 ≤ at_ + 10004 ∧ ((wtext l at_ bad).2.2 = false → (wtext l at_ bad).2.1 ≤ l.length) := by
  obtain ⟨h1, h2, h3, h4⟩ := wnum_le l at_ bad
  unfold wtext
  split
  · exact ⟨h3, by simp only; omega, fun h => by cases h⟩
  · rename_i h
    exact ⟨by simp only; omega, by simp only; omega, fun _ => by simp only; omega⟩
theorem wtext_back {l : List UInt8} {at_ : Nat} {w : ByteArray} {r : List UInt8} (hw : w.size ≤ 512) (h : l.drop at_ = textL w ++ r) :
    ∃ a, wtext l at_ false = (L w, a, false) ∧ l.drop a = r ∧ at_ ≤ a := by
  have h1 : textL w ++ r = Lib.decDigits w.size ++ 58 :: (L w ++ r) := by simp [textL]
  rw [h1] at h
  obtain ⟨e1, e2⟩ := wnum_back (bad := false) (by omega) (c := 58) (by decide) h
  have hlen := congrArg List.length e2
  rw [List.length_drop, List.length_append, L_length] at hlen
  refine ⟨at_ + (Lib.decDigits w.size).length + 1 + w.size, ?_, ?_, by omega⟩
  · unfold wtext
    rw [e1]
    simp only
    by_cases hz : w.size = 0
    · have hw0 : L w = [] := by apply List.eq_nil_of_length_eq_zero; rw [L_length]; exact hz
      have hle : at_ + (Lib.decDigits w.size).length + 1 ≤ l.length := by
        have := congrArg List.length h
        rw [List.length_drop, List.length_append, List.length_cons] at this
        omega
      rw [if_neg (by simp; omega), e2, hz, hw0]; rfl
    · rw [if_neg (by simp; omega), e2, List.take_left' (L_length w)]
  · rw [← List.drop_drop, e2, List.drop_left' (L_length w)]
structure WSt where
  c : Ac
  at_ : Nat
  bad : Bool
def stN (i : Nat) (l : List UInt8) (s : WSt) : WSt := ⟨setN i s.c ((wnum l s.at_ s.bad).1 : Int), (wnum l s.at_ s.bad).2.1, (wnum l s.at_ s.bad).2.2⟩
def stT (i : Nat) (l : List UInt8) (s : WSt) : WSt := ⟨setT i s.c (S (wtext l s.at_ s.bad).1), (wtext l s.at_ s.bad).2.1, (wtext l s.at_ s.bad).2.2⟩
def midW (s : WSt) : WSt := { s with c := { s.c with torn := IntKind.i64.wrap (s.c.torn - 1) } }
def wact (l : List UInt8) (at_ : Nat) (bad : Bool) : WSt := stT 5 l (stT 4 l (stT 3 l (stT 2 l (stT 1 l (stT 0 l (midW (stN 3 l (stN 2 l (stN 1 l (stN 0 l ⟨zA, at_, bad⟩))))))))))
theorem stN_back {i : Nat} {l : List UInt8} {c : Ac} {at_ n : Nat} {r : List UInt8} (hn : n ≤ 1000) (h : l.drop at_ = numL n ++ r) : ∃ a, stN i l ⟨c, at_, false⟩ = ⟨setN i c (n : Int), a, false⟩ ∧ l.drop a = r ∧ at_ < a := by
  have h1 : numL n ++ r = Lib.decDigits n ++ 32 :: r := by simp [numL]
  rw [h1] at h
  obtain ⟨e1, e2⟩ := wnum_back (bad := false) hn (c := 32) (by decide) h
  exact ⟨_, by unfold stN; rw [e1], e2, by omega⟩
theorem stT_back {i : Nat} {l : List UInt8} {c : Ac} {at_ : Nat} {w : ByteArray} {r : List UInt8} (hn : w.size ≤ 512) (h : l.drop at_ = textL w ++ r) : ∃ a, stT i l ⟨c, at_, false⟩ = ⟨setT i c w, a, false⟩ ∧ l.drop a = r ∧ at_ ≤ a := by
  obtain ⟨a, e1, e2, e3⟩ := wtext_back hn h
  exact ⟨a, by unfold stT; rw [e1]; simp only; rw [S_L], e2, e3⟩
theorem wact_back {a : Ac} (hm : MayP a) {l : List UInt8} {at_ : Nat} {r : List UInt8} (h : l.drop at_ = oneL a ++ r) : ∃ b, wact l at_ false = ⟨a, b, false⟩ ∧ l.drop b = r ∧ at_ < b := by
  obtain ⟨k, n, p, t, pa, tx, c, ke, to, at0⟩ := a
  have h1 := hm.kind; have h2 := hm.cut; have h3 := hm.at_; have h4 := hm.torn
  obtain ⟨w1, w2, w3, w4, w5⟩ := hm.words
  have w6 := hm.keep
  simp only at h1 h2 h3 h4 w1 w2 w3 w4 w5 w6
  have e : oneL ⟨k, n, p, t, pa, tx, c, ke, to, at0⟩ ++ r = numL k.toNat ++ (numL c.toNat ++ (numL at0.toNat ++ (numL (to + 1).toNat ++ (textL n ++ (textL p ++ (textL t ++ (textL pa ++ (textL tx ++ (textL ke ++ r))))))))) := by
    simp [oneL, numsA, textsA]
  rw [e] at h
  obtain ⟨a1, q1, d1, g1⟩ := stN_back (i := 0) (c := zA) (by omega) h
  obtain ⟨a2, q2, d2, g2⟩ := stN_back (i := 1) (c := setN 0 zA (k.toNat : Int)) (by omega) d1
  obtain ⟨a3, q3, d3, g3⟩ := stN_back (i := 2) (c := setN 1 (setN 0 zA (k.toNat : Int)) (c.toNat : Int)) (by omega) d2
  obtain ⟨a4, q4, d4, g4⟩ := stN_back (i := 3) (c := setN 2 (setN 1 (setN 0 zA (k.toNat : Int)) (c.toNat : Int)) (at0.toNat : Int)) (by omega) d3
  have e4 : IntKind.i64.wrap ((((to + 1).toNat : Nat) : Int) - 1) = to := by rw [wrap_i64 (by omega) (by omega)]; omega
  have qm : midW ⟨setN 3 (setN 2 (setN 1 (setN 0 zA (k.toNat : Int)) (c.toNat : Int)) (at0.toNat : Int)) ((to + 1).toNat : Int), a4, false⟩ = ⟨⟨k, ⟨#[]⟩, ⟨#[]⟩, ⟨#[]⟩, ⟨#[]⟩, ⟨#[]⟩, c, ⟨#[]⟩, to, at0⟩, a4, false⟩ := by
    simp only [midW, setN, zA, e4]
    rw [show ((k.toNat : Nat) : Int) = k by omega, show ((c.toNat : Nat) : Int) = c by omega, show ((at0.toNat : Nat) : Int) = at0 by omega]
  obtain ⟨b1, t1, f1, k1⟩ := stT_back (i := 0) (c := ⟨k, ⟨#[]⟩, ⟨#[]⟩, ⟨#[]⟩, ⟨#[]⟩, ⟨#[]⟩, c, ⟨#[]⟩, to, at0⟩) (by omega) d4
  obtain ⟨b2, t2, f2, k2⟩ := stT_back (i := 1) (c := ⟨k, n, ⟨#[]⟩, ⟨#[]⟩, ⟨#[]⟩, ⟨#[]⟩, c, ⟨#[]⟩, to, at0⟩) (by omega) f1
  obtain ⟨b3, t3, f3, k3⟩ := stT_back (i := 2) (c := ⟨k, n, p, ⟨#[]⟩, ⟨#[]⟩, ⟨#[]⟩, c, ⟨#[]⟩, to, at0⟩) (by omega) f2
  obtain ⟨b4, t4, f4, k4⟩ := stT_back (i := 3) (c := ⟨k, n, p, t, ⟨#[]⟩, ⟨#[]⟩, c, ⟨#[]⟩, to, at0⟩) (by omega) f3
  obtain ⟨b5, t5, f5, k5⟩ := stT_back (i := 4) (c := ⟨k, n, p, t, pa, ⟨#[]⟩, c, ⟨#[]⟩, to, at0⟩) (by omega) f4
  obtain ⟨b6, t6, f6, k6⟩ := stT_back (i := 5) (c := ⟨k, n, p, t, pa, tx, c, ⟨#[]⟩, to, at0⟩) (by omega) f5
  refine ⟨b6, ?_, f6, by omega⟩
  unfold wact
  rw [q1, q2, q3, q4, qm, t1]
  simp only [setT]
  rw [t2]
  simp only [setT]
  rw [t3]
  simp only [setT]
  rw [t4]
  simp only [setT]
  rw [t5]
  simp only [setT]
  rw [t6]
  rfl
def wparse : Nat → List UInt8 → List Ac → Nat → Bool → List Ac × Bool
  | 0, _, out, _, bad => (out, bad)
  | n + 1, l, out, at_, bad => if at_ < l.length ∧ bad = false ∧ out.length ≤ 256 then wparse n l (out ++ [(wact l at_ bad).c]) (wact l at_ bad).at_ (wact l at_ bad).bad else (out, bad)
theorem wparse_back {l : List UInt8} : ∀ (xs out : List Ac) (m at_ : Nat), (∀ a ∈ xs, MayP a) → xs.length ≤ m → out.length + xs.length ≤ 256 → l.drop at_ = showL xs → wparse (m + 1) l out at_ false = (out ++ xs, false)
  | [], out, m, at_, _, _, _, h => by
    have hl := congrArg List.length h
    simp only [List.length_drop, showL, List.flatMap_nil, List.length_nil] at hl
    simp only [wparse]
    rw [if_neg (by omega)]; simp
  | a :: xs, out, m + 1, at_, h, hm, hl, hd => by
    have hs : showL (a :: xs) = oneL a ++ showL xs := by simp [showL]
    simp only [List.length_cons] at hm hl
    rw [hs] at hd
    obtain ⟨b, e1, e2, e3⟩ := wact_back (h a (by simp)) hd
    have hlt : at_ < l.length := by
      have hll := congrArg List.length hd
      rw [List.length_drop, List.length_append] at hll
      have hne := oneL_ne a
      have : 0 < (oneL a).length := List.length_pos_iff.2 hne
      omega
    unfold wparse
    rw [if_pos ⟨hlt, rfl, by omega⟩, e1]
    simp only
    rw [wparse_back xs (out ++ [a]) m b (fun b hb => h b (by simp [hb])) (by omega) (by simp; omega) e2]
    simp
  | a :: xs, out, 0, at_, h, hm, hl, _ => by simp at hm
theorem wparse_spec (s : ByteArray) : resP (wparse 257 (L s) [] 0 false) s = parseS s := by
  by_cases h : ∃ xs, showS xs = (s, 0)
  · obtain ⟨xs, hx⟩ := h
    obtain ⟨h1, h2, h3⟩ := showS_ok hx
    rw [wparse_back xs [] 256 0 (fun a ha => MayP.of (List.all_eq_true.1 h2 a ha)) h1 (by simpa using h1) (by rw [h3, L_S]; rfl), parseS_shown hx]
    unfold resP
    rw [if_pos ⟨rfl, hx⟩]; rfl
  · rw [resP_none h]
    unfold parseS
    rw [dif_neg h]
end Go.AM
