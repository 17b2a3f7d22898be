import Derived.Test.YtbgidagbogpfkaaAg2
import Derived.Lib.Bytealg
/- The order of texts. -/
namespace Go.AM
set_option linter.unusedVariables false
def cmpT (a b : ByteArray) : Int := Lib.compareBytes (L a) (L b)
def lssL : List UInt8 → List UInt8 → Bool
  | _, [] => false
  | [], _ :: _ => true
  | a :: x, b :: y => decide (a < b) || (a == b && lssL x y)
theorem lssL_eq : ∀ x y, Op.bytesLess x y = lssL x y
  | [], [] => rfl
  | _ :: _, [] => rfl
  | [], _ :: _ => rfl
  | a :: x, b :: y => by simp only [Op.bytesLess, lssL, lssL_eq x y]
theorem toL (s : ByteArray) : s.toList = L s := by
  have : ∀ (n i : Nat) (r : List UInt8), n = s.size - i → ByteArray.toList.loop s i r = r.reverse ++ (L s).drop i := by
    intro n
    induction n with
    | zero =>
      intro i r h
      unfold ByteArray.toList.loop
      rw [if_neg (by omega), List.drop_eq_nil_of_le (by rw [L_length]; omega), List.append_nil]
    | succ n ih =>
      intro i r h
      unfold ByteArray.toList.loop
      rw [if_pos (by omega), ih (i + 1) _ (by omega)]
      have hi : i < (L s).length := by rw [L_length]; omega
      rw [List.drop_eq_getElem_cons hi]
      have hg : s.get! i = (L s)[i] := by
        have e : s.get! i = s.data[i]! := by cases s; rfl
        rw [e, getElem!_pos s.data i (by rw [L_length] at hi; exact hi)]; rfl
      simp [hg]
  have := this s.size 0 [] (by omega)
  simpa [ByteArray.toList] using this
theorem bLess_eq (a b : ByteArray) : bLess a b = lssL (L a) (L b) := by unfold bLess; rw [lssL_eq, toL, toL]
theorem cmp_cases : ∀ x y : List UInt8, (Lib.compareBytes x y < 0 ↔ lssL x y = true) ∧ (Lib.compareBytes x y = 0 ↔ x = y)
  | [], [] => by simp [Lib.compareBytes, lssL]
  | _ :: _, [] => by simp [Lib.compareBytes, lssL]
  | [], _ :: _ => by simp [Lib.compareBytes, lssL]
  | a :: x, b :: y => by
    obtain ⟨h1, h2⟩ := cmp_cases x y
    by_cases c1 : a < b
    · have : a ≠ b := fun e => by subst e; exact absurd c1 (by simp)
      simp [Lib.compareBytes, lssL, c1, this]
    · by_cases c2 : b < a
      · have : a ≠ b := fun e => by subst e; exact absurd c2 (by simp)
        simp [Lib.compareBytes, lssL, c1, c2, this]
      · have : a = b := by
          have := UInt8.le_antisymm (UInt8.not_lt.1 c2) (UInt8.not_lt.1 c1)
          exact this
        subst this
        simp [Lib.compareBytes, lssL, h1, h2]
theorem lssL_irrefl : ∀ x, lssL x x = false
  | [] => rfl
  | a :: x => by simp [lssL, lssL_irrefl x]
theorem lssL_trans : ∀ {x y z : List UInt8}, lssL x y = true → lssL y z = true → lssL x z = true
  | _, _, [], _, h => by cases ‹List UInt8› <;> simp [lssL] at h
  | [], _, _ :: _, _, _ => rfl
  | _ :: _, [], _, h, _ => by simp [lssL] at h
  | a :: x, b :: y, c :: z, h1, h2 => by
    simp only [lssL, Bool.or_eq_true, decide_eq_true_eq, Bool.and_eq_true, beq_iff_eq] at h1 h2 ⊢
    rcases h1 with h1 | ⟨rfl, h1⟩
    · rcases h2 with h2 | ⟨rfl, h2⟩
      · exact .inl (UInt8.lt_trans h1 h2)
      · exact .inl h1
    · rcases h2 with h2 | ⟨rfl, h2⟩
      · exact .inl h2
      · exact .inr ⟨rfl, lssL_trans h1 h2⟩
theorem lssL_total : ∀ {x y : List UInt8}, lssL x y = false → x ≠ y → lssL y x = true
  | [], [], _, h => absurd rfl h
  | [], _ :: _, h, _ => by simp [lssL] at h
  | _ :: _, [], _, _ => rfl
  | a :: x, b :: y, h1, h2 => by
    simp only [lssL, Bool.or_eq_false_iff, decide_eq_false_iff_not, Bool.and_eq_false_iff, beq_eq_false_iff_ne, Bool.or_eq_true, decide_eq_true_eq, Bool.and_eq_true, beq_iff_eq] at h1 ⊢
    by_cases e : a = b
    · subst e
      rcases h1.2 with h | h
      · exact absurd rfl h
      · exact .inr ⟨rfl, lssL_total h fun e => h2 (by rw [e])⟩
    · left
      rcases UInt8.lt_or_lt_of_ne e with h | h
      · exact absurd h h1.1
      · exact h
/-- One text ahead of another. -/
def Ls (a b : ByteArray) : Prop := lssL (L a) (L b) = true
instance (a b : ByteArray) : Decidable (Ls a b) := by unfold Ls; infer_instance
theorem Ls.irrefl (a : ByteArray) : ¬ Ls a a := by unfold Ls; rw [lssL_irrefl]; decide
theorem Ls.trans {a b c : ByteArray} (h : Ls a b) (k : Ls b c) : Ls a c := lssL_trans h k
theorem Ls.ne {a b : ByteArray} (h : Ls a b) : a ≠ b := fun e => by subst e; exact Ls.irrefl _ h
theorem Ls.total {a b : ByteArray} (h : ¬ Ls a b) (k : a ≠ b) : Ls b a := lssL_total (by simpa [Ls] using h) fun e => k (L_inj e)
theorem Ls.asymm {a b : ByteArray} (h : Ls a b) : ¬ Ls b a := fun k => Ls.irrefl _ (h.trans k)
theorem bLess_ls (a b : ByteArray) : bLess a b = decide (Ls a b) := by
  rw [bLess_eq]
  by_cases h : Ls a b
  · rw [decide_eq_true h]; exact h
  · rw [decide_eq_false h]; simpa [Ls] using h
theorem cmpT_lt (a b : ByteArray) : cmpT a b < 0 ↔ Ls a b := (cmp_cases _ _).1
theorem cmpT_eq (a b : ByteArray) : cmpT a b = 0 ↔ a = b := (cmp_cases _ _).2.trans ⟨fun h => L_inj h, fun h => by rw [h]⟩
end Go.AM
