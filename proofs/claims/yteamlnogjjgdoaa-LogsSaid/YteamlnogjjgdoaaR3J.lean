/- Plain laws: the document's scan and the scanner agree. -/
import Derived.Test.YteamlnogjjgdoaaR3I
namespace Go.AM
open Go.Proofs
set_option linter.unusedVariables false
set_option linter.unusedSimpArgs false
set_option maxRecDepth 100000
attribute [-simp] ByteArray.size_eq_zero_iff
/-- A scanner within a transaction that begins at a place, k records on. -/
structure Agree (S : Sc) (is : List Img) (k : Nat) : Prop where
  opn : S.opn = is
  part : S.part = k % 4
  some_ : k % 4 ≠ 0 → is ≠ []
  full : k % 4 ≠ 0 → ∀ x, is.getLast? = some x → (S.full = true ↔ x.2.size = k % 4 * 24) ∧ x.2.size ≤ k % 4 * 24
theorem agree {seq : Int} {a : Nat} : ∀ (ts : List ByteArray) (S : Sc) (is : List Img) (k : Nat), Agree S is k →
    (∀ is' n, oneGo (seq + a) is k ts = some (is', n) → ∃ j fl, n = k + (j + 1) ∧ j < ts.length ∧ scanGo seq S (a + k) ts = scanGo seq ⟨S.done ++ [is'], a + n, [], 0, fl⟩ (a + n) (ts.drop (j + 1))) ∧
    (oneGo (seq + a) is k ts = none → (scanGo seq S (a + k) ts).done = S.done ∧ (scanGo seq S (a + k) ts).used = S.used)
  | [], S, is, k, h => ⟨fun is' n hn => by simp [oneGo] at hn, fun _ => ⟨rfl, rfl⟩⟩
  | t :: ts, S, is, k, h => by
    have hm := @getR_may t
    rw [oneGo, scanGo]
    generalize getR t = x at *
    obtain ⟨q, pg, p, d, er⟩ := x
    simp only at hm ⊢
    by_cases c1 : er = 0 ∧ q = seq + a + k
    · have c1' : er = 0 ∧ q = seq + ((a + k : Nat) : Int) := ⟨c1.1, by rw [c1.2]; omega⟩
      rw [if_pos c1, if_pos c1']
      have hmay := hm c1.1
      have hdz := RMay_size hmay
      obtain ⟨m, hm4⟩ : ∃ m, m = k % 4 := ⟨_, rfl⟩
      have hpart := h.part
      have hfull := h.full
      have hsome := h.some_
      rw [← hm4] at hpart hfull hsome ⊢
      have hm4l : m < 4 := by omega
      have goOn : ∀ (S' : Sc) (is2 : List Img), takeS S (q, pg, p, d) (a + k) = some S' → S'.done = S.done → S'.used = S.used → Agree S' is2 (k + 1) →
          (∀ is' n, oneGo (seq + a) is2 (k + 1) ts = some (is', n) → ∃ j fl, n = k + (j + 1) ∧ j < (t :: ts).length ∧ (match takeS S (q, pg, p, d) (a + k) with | some S' => scanGo seq S' (a + k + 1) ts | none => S) = scanGo seq ⟨S.done ++ [is'], a + n, [], 0, fl⟩ (a + n) ((t :: ts).drop (j + 1))) ∧
          (oneGo (seq + a) is2 (k + 1) ts = none → (match takeS S (q, pg, p, d) (a + k) with | some S' => scanGo seq S' (a + k + 1) ts | none => S).done = S.done ∧ (match takeS S (q, pg, p, d) (a + k) with | some S' => scanGo seq S' (a + k + 1) ts | none => S).used = S.used) := fun S' is2 htk hd hu hA => by
        obtain ⟨g1, g2⟩ := agree (seq := seq) (a := a) ts S' is2 (k + 1) hA
        rw [htk]
        simp only
        refine ⟨fun is' n hn => ?_, fun hn => ?_⟩
        · obtain ⟨j, fl, e1, e2, e3⟩ := g1 is' n hn
          refine ⟨j + 1, fl, by omega, by simp; omega, ?_⟩
          rw [show a + k + 1 = a + (k + 1) by omega, e3, hd, List.drop_succ_cons]
        · have := g2 hn
          rw [show a + k + 1 = a + (k + 1) by omega, this.1, this.2, hd, hu]
          exact ⟨rfl, rfl⟩
      have stop : takeS S (q, pg, p, d) (a + k) = none → (match takeS S (q, pg, p, d) (a + k) with | some S' => scanGo seq S' (a + k + 1) ts | none => S).done = S.done ∧ (match takeS S (q, pg, p, d) (a + k) with | some S' => scanGo seq S' (a + k + 1) ts | none => S).used = S.used := fun htk => by rw [htk]; exact ⟨rfl, rfl⟩
      by_cases c2 : p = 4 ∧ m = 0
      · rw [if_pos c2]
        have htk : takeS S (q, pg, p, d) (a + k) = some (commitS S (a + k)) := by
          unfold takeS; simp only; rw [if_pos c2.1, if_pos (by omega)]
        refine ⟨fun is' n hn => ?_, fun hn => by cases hn⟩
        cases hn
        refine ⟨0, S.full, rfl, by simp, ?_⟩
        rw [htk]
        simp only [commitS, h.opn]
        rw [show a + (k + 1) = a + k + 1 by omega, show S.part = 0 by omega]
        rfl
      · rw [if_neg c2]
        by_cases c3 : p = (m : Int)
        · rw [if_pos c3]
          have hp4 : ¬ p = 4 := by omega
          have hps : p = (S.part : Int) := by omega
          have emp : (⟨#[]⟩ : ByteArray) ++ d = d := by apply L_inj; rw [L_append, L_nil, List.nil_append]
          have newA : m = 0 → Agree (putS S S.opn (pg, ⟨#[]⟩) (q, pg, p, d)) (is ++ [(pg, d)]) (k + 1) := fun hm0 => by
            refine ⟨?_, ?_, fun _ => by simp, fun _ y hy => ?_⟩
            · simp only [putS, h.opn, emp]
            · simp only [putS]; omega
            · rw [List.getLast?_concat] at hy; cases hy
              rw [show (k + 1) % 4 = 1 by omega]
              exact ⟨by simp [putS], hdz⟩
          cases hgl : is.getLast? with
          | none =>
            simp only
            by_cases hm0 : m = 0
            · rw [if_pos hm0]
              refine goOn (putS S S.opn (pg, ⟨#[]⟩) (q, pg, p, d)) _ ?_ rfl rfl (newA hm0)
              unfold takeS; simp only
              rw [if_neg hp4, if_neg (fun e => e hps), h.opn, hgl]
              simp only
              rw [if_pos (by omega)]
            · have := hsome hm0
              rw [List.getLast?_eq_none_iff] at hgl
              exact absurd hgl this
          | some x =>
            simp only
            by_cases hm0 : m = 0
            · rw [if_pos hm0]
              by_cases hle : pg ≤ x.1
              · rw [if_pos hle]
                refine ⟨fun is' n hn => (by cases hn), fun _ => stop ?_⟩
                unfold takeS; simp only
                rw [if_neg hp4, if_neg (fun e => e hps), h.opn, hgl]
                simp only
                rw [if_pos (by omega), if_pos hle]
              · rw [if_neg hle]
                refine goOn (putS S S.opn (pg, ⟨#[]⟩) (q, pg, p, d)) _ ?_ rfl rfl (newA hm0)
                unfold takeS; simp only
                rw [if_neg hp4, if_neg (fun e => e hps), h.opn, hgl]
                simp only
                rw [if_pos (by omega), if_neg hle]
            · rw [if_neg hm0]
              obtain ⟨hf1, hf2⟩ := hfull hm0 x hgl
              have hcond : (x.1 ≠ pg ∨ (d.size ≠ 0 ∧ x.2.size ≠ m * 24)) ↔ (x.1 ≠ pg ∨ (S.full = false ∧ d.size ≠ 0)) := by
                constructor
                · rintro (h1 | ⟨h1, h2⟩)
                  · exact .inl h1
                  · refine .inr ⟨?_, h1⟩
                    cases hS : S.full
                    · rfl
                    · exact absurd (hf1.1 hS) h2
                · rintro (h1 | ⟨h1, h2⟩)
                  · exact .inl h1
                  · refine .inr ⟨h2, fun h3 => ?_⟩
                    rw [hf1.2 h3] at h1; cases h1
              by_cases hc : x.1 ≠ pg ∨ (d.size ≠ 0 ∧ x.2.size ≠ m * 24)
              · rw [if_pos hc]
                refine ⟨fun is' n hn => (by cases hn), fun _ => stop ?_⟩
                unfold takeS; simp only
                rw [if_neg hp4, if_neg (fun e => e hps), h.opn, hgl]
                simp only
                rw [if_neg (by omega), if_pos (hcond.1 hc)]
              · rw [if_neg hc]
                refine goOn (putS S S.opn.dropLast x (q, pg, p, d)) _ ?_ rfl rfl ?_
                · unfold takeS; simp only
                  rw [if_neg hp4, if_neg (fun e => e hps), h.opn, hgl]
                  simp only
                  rw [if_neg (by omega), if_neg (fun hh => hc (hcond.2 hh))]
                · refine ⟨?_, ?_, fun _ => by simp, fun hk1 y hy => ?_⟩
                  · simp only [putS, h.opn]
                  · simp only [putS]; omega
                  · rw [List.getLast?_concat] at hy; cases hy
                    have e1 : (k + 1) % 4 = m + 1 := by omega
                    rw [e1]
                    simp only [putS, size_append, decide_eq_true_eq]
                    have hno : ¬ (d.size ≠ 0 ∧ x.2.size ≠ m * 24) := fun hh => hc (.inr hh)
                    omega
        · rw [if_neg c3]
          refine ⟨fun is' n hn => (by cases hn), fun _ => stop ?_⟩
          unfold takeS; simp only
          by_cases hp4 : p = 4
          · rw [if_pos hp4, if_neg (fun h0 => c2 ⟨hp4, by omega⟩)]
          · rw [if_neg hp4, if_pos (fun e => c3 (by rw [e, hpart]))]
    · have c1' : ¬ (er = 0 ∧ q = seq + ((a + k : Nat) : Int)) := fun hh => c1 ⟨hh.1, by rw [hh.2]; omega⟩
      rw [if_neg c1, if_neg c1']
      exact ⟨fun is' n hn => (by cases hn), fun _ => ⟨rfl, rfl⟩⟩
end Go.AM
