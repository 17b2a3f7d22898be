import Derived.Test.YtbgidagbogpfkaaDoorR8O
/- Plain: what is shown is taken again. -/
namespace Go.AM
set_option linter.unusedVariables false
set_option linter.unusedSimpArgs false
set_option maxRecDepth 100000
theorem dec_eq (k : Nat) : Lib.decDigits k = (if k < 10 then [] else Lib.decDigits (k / 10)) ++ [UInt8.ofNat (48 + k % 10)] := by
  rw [Lib.decDigits]
  by_cases hk : k < 10
  · rw [dif_pos hk, if_pos hk, Nat.mod_eq_of_lt hk]; rfl
  · rw [dif_neg hk, if_neg hk]
theorem dec_digit : ∀ (n : Nat) (c : UInt8), c ∈ Lib.decDigits n → 48 ≤ c.toNat ∧ c.toNat ≤ 57 := by
  intro n
  induction n using Nat.strongRecOn with
  | _ n ih =>
    intro c hc
    rw [dec_eq] at hc
    rw [List.mem_append] at hc
    rcases hc with hc | hc
    · by_cases h : n < 10
      · rw [if_pos h] at hc; cases hc
      · rw [if_neg h] at hc; exact ih _ (by omega) c hc
    · rw [List.mem_singleton] at hc
      subst hc
      rw [UInt8.toNat_ofNat']
      omega
theorem parse_append : ∀ (a b : List UInt8) (acc v : Nat), Lib.parseUint10 acc a = .ok v → Lib.parseUint10 acc (a ++ b) = Lib.parseUint10 v b
  | [], b, acc, v, h => by simp only [Lib.parseUint10] at h; injection h with h; subst h; rfl
  | c :: a, b, acc, v, h => by
    simp only [Lib.parseUint10, List.cons_append] at h ⊢
    split
    · rename_i h1
      rw [if_pos h1] at h
      split
      · rename_i h2; rw [if_pos h2] at h; cases h
      · rename_i h2
        rw [if_neg h2] at h
        split
        · rename_i h3; rw [if_pos h3] at h; cases h
        · rename_i h3
          rw [if_neg h3] at h
          exact parse_append a b _ v h
    · rename_i h1; rw [if_neg h1] at h; cases h
theorem parse_dec : ∀ n : Nat, n ≤ 1000000 → Lib.parseUint10 0 (Lib.decDigits n) = .ok n := by
  intro n
  induction n using Nat.strongRecOn with
  | _ n ih =>
    intro hn
    have hd : (UInt8.ofNat (48 + n % 10)).toNat = 48 + n % 10 := by rw [UInt8.toNat_ofNat']; omega
    have last : ∀ acc : Nat, acc ≤ 1000000 → Lib.parseUint10 acc [UInt8.ofNat (48 + n % 10)] = .ok (acc * 10 + n % 10) := fun acc ha => by
      simp only [Lib.parseUint10, hd]
      rw [if_pos (by omega), if_neg (by omega), if_neg (by omega)]
      congr 1; omega
    rw [dec_eq]
    by_cases h : n < 10
    · rw [if_pos h, List.nil_append, last 0 (by omega)]; congr 1; omega
    · rw [if_neg h, parse_append _ _ _ _ (ih (n / 10) (by omega) (by omega)), last _ (by omega)]; congr 1; omega
theorem atoi_dec {n : Nat} (hn : n ≤ 1000) : Lib.atoiAll (Lib.decDigits n) = .ok (n : Int) := by
  have hne := (decDigits_len hn).2
  have hp := parse_dec n (by omega)
  have hd := dec_digit n
  generalize Lib.decDigits n = l at *
  cases l with
  | nil => exact absurd rfl hne
  | cons c r =>
    obtain ⟨h1, h2⟩ := hd c (by simp)
    simp only [Lib.atoiAll]
    rw [if_neg (by omega : ¬ (c.toNat = 43 ∨ c.toNat = 45))]
    simp only [Lib.parseMag]
    rw [if_neg (by simp), hp]
    simp only
    rw [if_neg (by omega), if_neg (by omega), if_neg (by omega)]
theorem index_at (a b : List UInt8) (c : UInt8) (h : ∀ x ∈ a, x ≠ c) : Lib.indexByte (a ++ c :: b) c = a.length := by
  induction a with
  | nil => simp [Lib.indexByte]
  | cons x a ih =>
    have hx := h x (by simp)
    have ih := ih fun y hy => h y (by simp [hy])
    simp only [List.cons_append, Lib.indexByte]
    rw [if_neg (by simpa using hx), ih, if_neg (by first | (simp; done) | (simp; omega))]
    simp
theorem cut_at (a b : List UInt8) (c : UInt8) (h : ∀ x ∈ a, x ≠ c) : cutL (a ++ c :: b) c = (a, b, true) := by
  unfold cutL
  rw [index_at a b c h, if_pos (by omega), Int.toNat_natCast]
  rw [List.take_left' rfl, List.drop_append]
  simp
theorem num_back {n : Nat} (hn : n ≤ 1000) (c : UInt8) (hc : c.toNat < 48 ∨ 57 < c.toNat) (r : List UInt8) (bad : Bool) : numF c (Lib.decDigits n ++ c :: r) bad = ((n : Int), r, bad) := by
  have hcut := cut_at (Lib.decDigits n) r c fun x hx e => by
    subst e
    have := dec_digit n x hx
    omega
  unfold numF
  rw [hcut]
  simp only [atoi_dec hn]
  rw [show decide ((n : Int) < 0) = false by rw [decide_eq_false_iff_not]; omega]
  simp
theorem text_back {w : ByteArray} (hw : w.size ≤ 512) (r : List UInt8) : textF (textL w ++ r) false = (L w, r, false) := by
  have h1 : textL w ++ r = Lib.decDigits w.size ++ 58 :: (L w ++ r) := by simp [textL]
  have hl : (L w).length = w.size := L_length w
  unfold textF
  rw [h1, num_back (by omega) 58 (by decide)]
  simp only
  rw [if_neg (by rw [List.length_append]; simp; omega), Int.toNat_natCast, List.take_left' hl, List.drop_left' hl]
theorem num_back32 {n : Nat} (hn : n ≤ 1000) (r : List UInt8) : numF 32 (numL n ++ r) false = ((n : Int), r, false) := by
  have h1 : numL n ++ r = Lib.decDigits n ++ 32 :: r := by simp [numL]
  rw [h1, num_back hn 32 (by decide)]
theorem act_back {a : Ac} (hm : MayP a) (r : List UInt8) : actF (oneL a ++ r) false = ⟨a, r, false⟩ := by
  obtain ⟨k, n, p, t, pa, tx, c, ke, to, at_⟩ := a
  have h1 := hm.kind; have h2 := hm.cut; have h3 := hm.at_; have h4 := hm.torn
  obtain ⟨w1, w2, w3, w4, w5⟩ := hm.words
  have w6 := hm.keep
  simp only at h1 h2 h3 h4 w1 w2 w3 w4 w5 w6
  have e : oneL ⟨k, n, p, t, pa, tx, c, ke, to, at_⟩ ++ r = numL k.toNat ++ (numL c.toNat ++ (numL at_.toNat ++ (numL (to + 1).toNat ++ (textL n ++ (textL p ++ (textL t ++ (textL pa ++ (textL tx ++ (textL ke ++ r))))))))) := by
    simp [oneL, numsA, textsA]
  rw [e]
  unfold actF
  simp only [iterS, stepN, setN, num_back32 (show k.toNat ≤ 1000 by omega), num_back32 (show c.toNat ≤ 1000 by omega), num_back32 (show at_.toNat ≤ 1000 by omega), num_back32 (show (to + 1).toNat ≤ 1000 by omega), mid, stepT, setT,
    text_back (show n.size ≤ 512 by omega), text_back (show p.size ≤ 512 by omega), text_back (show t.size ≤ 512 by omega), text_back (show pa.size ≤ 512 by omega), text_back (show tx.size ≤ 512 by omega), text_back (show ke.size ≤ 512 by omega), S_L]
  have e1 : ((k.toNat : Nat) : Int) = k := by omega
  have e2 : ((c.toNat : Nat) : Int) = c := by omega
  have e3 : ((at_.toNat : Nat) : Int) = at_ := by omega
  have e4 : IntKind.i64.wrap ((((to + 1).toNat : Nat) : Int) - 1) = to := by rw [wrap_i64 (by omega) (by omega)]; omega
  rw [e1, e2, e3, e4]
theorem oneL_ne (a : Ac) : oneL a ≠ [] := by
  intro h
  have := congrArg List.length h
  simp [oneL, numsA, numL] at this
theorem parse_back : ∀ (xs out : List Ac) (m : Nat), (∀ a ∈ xs, MayP a) → xs.length ≤ m → out.length + xs.length ≤ 256 → parseF (m + 1) out (showL xs) false = (out ++ xs, false)
  | [], out, m, _, _, _ => by
    simp only [parseF, showL, List.flatMap_nil]
    rw [if_neg (by simp)]; simp
  | a :: xs, out, m + 1, h, hm, hl => by
    have hs : showL (a :: xs) = oneL a ++ showL xs := by simp [showL]
    simp only [List.length_cons] at hm hl
    rw [hs]
    unfold parseF
    rw [if_pos ⟨by intro e; exact oneL_ne a (List.append_eq_nil_iff.1 e).1, rfl, by omega⟩, act_back (h a (by simp))]
    simp only
    rw [parse_back xs (out ++ [a]) m (fun b hb => h b (by simp [hb])) (by omega) (by simp; omega)]
    simp
  | a :: xs, out, 0, h, hm, hl => by simp at hm
theorem showS_ok {xs : List Ac} {s : ByteArray} (h : showS xs = (s, 0)) : xs.length ≤ 256 ∧ xs.all mayB = true ∧ s = S (showL xs) := by
  unfold showS at h
  split at h
  · rename_i hc
    exact ⟨hc.1, hc.2, (congrArg Prod.fst h).symm⟩
  · cases h
theorem parse_shown {xs : List Ac} {s : ByteArray} (h : showS xs = (s, 0)) : parseF 257 [] (L s) false = (xs, false) := by
  obtain ⟨h1, h2, rfl⟩ := showS_ok h
  rw [L_S]
  have := parse_back xs [] 256 (fun a ha => MayP.of (List.all_eq_true.1 h2 a ha)) h1 (by simpa using h1)
  simpa using this
theorem resP_shown {xs : List Ac} {s : ByteArray} (h : showS xs = (s, 0)) : resP (parseF 257 [] (L s) false) s = (xs, 0) := by
  rw [parse_shown h]
  unfold resP
  rw [if_pos ⟨rfl, h⟩]
theorem resP_none {q : List Ac × Bool} {s : ByteArray} (h : ¬ ∃ xs, showS xs = (s, 0)) : resP q s = ([], 2400) := by
  unfold resP
  rw [if_neg fun hc => h ⟨_, hc.2⟩]
open Classical in
/-- How parsing ends. -/
noncomputable def parseS (s : ByteArray) : List Ac × Int := if h : ∃ xs, showS xs = (s, 0) then (h.choose, 0) else ([], 2400)
theorem parse_spec (s : ByteArray) : resP (parseF 257 [] (L s) false) s = parseS s := by
  unfold parseS
  split
  · rename_i h; exact resP_shown h.choose_spec
  · rename_i h; exact resP_none h
theorem parseS_shown {xs : List Ac} {s : ByteArray} (h : showS xs = (s, 0)) : parseS s = (xs, 0) := by rw [← parse_spec, resP_shown h]
theorem parseS_ok {s : ByteArray} (h : (parseS s).2 = 0) : showS (parseS s).1 = (s, 0) := by
  unfold parseS at h ⊢
  split
  · rename_i hx; exact hx.choose_spec
  · rename_i hx; rw [dif_neg hx] at h; cases h
theorem parseS_bad {s : ByteArray} (h : (parseS s).2 ≠ 0) : parseS s = ([], 2400) := by
  unfold parseS at h ⊢
  split
  · rename_i hx; rw [dif_pos hx] at h; exact absurd rfl h
  · rfl
theorem show_inj {xs ys : List Ac} {s : ByteArray} (h : showS xs = (s, 0)) (g : showS ys = (s, 0)) : xs = ys := by
  have h1 := parseS_shown h
  rw [parseS_shown g] at h1
  exact (congrArg Prod.fst h1).symm
end Go.AM
