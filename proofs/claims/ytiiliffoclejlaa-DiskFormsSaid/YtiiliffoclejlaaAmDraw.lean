/- AM: regions whose order is drawn. -/
import Derived.Test.YtiiliffoclejlaaAmReg
namespace Go.AM
set_option linter.unusedVariables false
set_option linter.unusedSimpArgs false

/-! ### changing the abstract heap where nothing looks -/
theorem RelH.reheap {ρ : Rho} {H G : Heap} {w : World} (h : RelH ρ H w) (hn : H.next ≤ G.next) (hb : ∀ b L, ρ b = some L → G.blk b = H.blk b) : RelH ρ G w :=
  ⟨fun b L hL => by have := h.dom b L hL; omega, fun b L B hL hB => by rw [hb b L hL] at hB; exact h.blk b L B hL hB, fun b1 b2 L1 L2 B1 B2 g1 g2 g3 g4 g5 g6 => by
    rw [hb b1 L1 g1] at g3; rw [hb b2 L2 g2] at g4; exact h.inj b1 b2 L1 L2 B1 B2 g1 g2 g3 g4 g5 g6⟩
theorem Adv.reheap {base : Nat} {ρ ρ' : Rho} {H H' G : Heap} {w w' : World} (a : Adv base ρ H w ρ' H' w') (hn : H.next ≤ G.next) (hd : ∀ b L, ρ' b = some L → b < G.next) (hb : ∀ b, (∃ L, ρ' b = some L) ∨ b < base → G.blk b = H'.blk b) : Adv base ρ H w ρ' G w' :=
  { a with
    rel := ⟨fun b L hL => hd b L hL, fun b L B hL hB => by rw [hb b (.inl ⟨L, hL⟩)] at hB; exact a.rel.blk b L B hL hB, fun b1 b2 L1 L2 B1 B2 g1 g2 g3 g4 g5 g6 => by
      rw [hb b1 (.inl ⟨L1, g1⟩)] at g3; rw [hb b2 (.inl ⟨L2, g2⟩)] at g4; exact a.rel.inj b1 b2 L1 L2 B1 B2 g1 g2 g3 g4 g5 g6⟩
    ghost := fun b hbb h0 => by obtain ⟨p, q⟩ := a.ghost b hbb h0; exact ⟨p, (hb b (.inr hbb)).trans q⟩
    next := hn
    back := fun b L B' hL hB' => by rw [hb b (.inl ⟨L, a.ext b L hL⟩)] at hB'; exact a.back b L B' hL hB' }
theorem Adv.src {base : Nat} {ρ ρ' : Rho} {H H' G : Heap} {w w' : World} (a : Adv base ρ H w ρ' H' w') (hn : G.next ≤ H'.next) (hb : ∀ b, (∃ L, ρ b = some L) ∨ b < base → G.blk b = H.blk b) : Adv base ρ G w ρ' H' w' :=
  { a with
    keep := fun cb hcb hno => a.keep cb hcb fun b L B hL hB hro => hno b L B hL (by rw [hb b (.inl ⟨L, hL⟩)]; exact hB) hro
    ghost := fun b hbb h0 => by obtain ⟨p, q⟩ := a.ghost b hbb h0; exact ⟨p, q.trans (hb b (.inr hbb)).symm⟩
    fresh := fun b L h0 h1 => by
      obtain ⟨p, q⟩ := a.fresh b L h0 h1
      refine ⟨p, q.imp id ?_⟩
      rintro ⟨b0, L0, B0, q1, q2, q3, q4⟩
      exact ⟨b0, L0, B0, q1, (hb b0 (.inl ⟨L0, q1⟩)).trans q2, q3, q4⟩
    next := hn
    back := fun b L B' hL hB' => by
      obtain ⟨B, q1, q2⟩ := a.back b L B' hL hB'
      exact ⟨B, (hb b (.inl ⟨L, hL⟩)).trans q1, q2⟩ }

/-! ### what the check gives -/
def Closed (ops : Array Oper) (S : Nat → Prop) : Prop := ∀ k, S k → ∀ e ∈ edgesAt ops k, S e
/-- Whoever has k's edges has i. -/
def Dep (ops : Array Oper) (k i : Nat) : Prop := ∀ S : Nat → Prop, Closed ops S → (∀ e ∈ edgesAt ops k, S e) → S i
theorem orM_bit {M : Nat → Nat} : ∀ (es : List Nat) {i : Nat}, (orM M es).testBit i = true → ∃ e ∈ es, i = e ∨ (M e).testBit i = true
  | [], i, h => by simp [orM] at h
  | e :: es, i, h => by
    simp only [orM, Nat.testBit_or, Bool.or_eq_true] at h
    rcases h with (h | h) | h
    · refine ⟨e, by simp, .inl ?_⟩
      rw [Nat.testBit_two_pow] at h
      simpa using (of_decide_eq_true h).symm
    · exact ⟨e, by simp, .inr h⟩
    · obtain ⟨e', h1, h2⟩ := orM_bit es h; exact ⟨e', by simp [h1], h2⟩
theorem maskM_sound {ops : Array Oper} : ∀ (ks : List Nat) (M : Nat → Nat), (∀ k i, (M k).testBit i = true → Dep ops k i) → ∀ k i, (maskM ops ks M k).testBit i = true → Dep ops k i
  | [], M, h => h
  | x :: ks, M, h => maskM_sound ks _ fun k i hb => by
    unfold setM at hb
    by_cases e : k = x
    · subst e
      rw [if_pos rfl] at hb
      obtain ⟨e, he, h2⟩ := orM_bit _ hb
      intro S hc hs
      rcases h2 with rfl | h2
      · exact hs _ he
      · exact h e i h2 S hc fun e' he' => hc e (hs e he) e' he'
    · rw [if_neg e] at hb; exact h k i hb
structure Facts (P : Program) (ops : Array Oper) (order : List Nat) (is : List Ir) (ch : List (Nat × Nat)) : Prop where
  len : order.length = ops.size
  ilen : is.length = ops.size
  lt : ∀ (p k : Nat), order[p]? = some k → k < ops.size
  inj : ∀ (p q k : Nat), order[p]? = some k → order[q]? = some k → p = q
  surj : ∀ k, k < ops.size → ∃ p : Nat, order[p]? = some k
  edge : ∀ (p k : Nat), order[p]? = some k → ∀ e ∈ edgesAt ops k, ∃ q : Nat, q < p ∧ order[q]? = some e
  code : ∀ (p k : Nat), order[p]? = some k → ∃ o i, ops[k]? = some o ∧ is[p]? = some i ∧ cOper P ops o = some i
  pair : ∀ (p q op oq : Nat) (i j : Ir), p < q → order[p]? = some op → order[q]? = some oq → is[p]? = some i → is[q]? = some j →
    Dep ops oq op ∨ (i.apart j = true ∧ isEff i.ins = false ∧ (isRd i.ins = true → isEff j.ins = true → (p, q) ∈ ch))
theorem ordOk_facts {ops : Array Oper} : ∀ (ks done : List Nat), ordOk ops done ks = true →
    (∀ (p k : Nat), ks[p]? = some k → k < ops.size ∧ k ∉ done ∧ (∀ q, q < p → ks[q]? ≠ some k) ∧ ∀ e ∈ edgesAt ops k, e ∈ done ∨ ∃ q, q < p ∧ ks[q]? = some e)
  | [], done, _ => fun p k h => by simp at h
  | x :: ks, done, h => by
    simp only [ordOk, Bool.and_eq_true, decide_eq_true_eq, Bool.not_eq_true', List.contains_eq_mem, decide_eq_false_iff_not, List.all_eq_true] at h
    obtain ⟨⟨⟨h1, h2⟩, h3⟩, h4⟩ := h
    have ih := ordOk_facts ks (done ++ [x]) h4
    intro p k hp
    cases p with
    | zero =>
      simp at hp; subst hp
      exact ⟨h1, h2, fun q hq => by omega, fun e he => .inl (by simpa using h3 e he)⟩
    | succ p =>
      obtain ⟨g1, g2, g3, g4⟩ := ih p k (by simpa using hp)
      refine ⟨g1, fun hm => g2 (by simp [hm]), fun q hq => ?_, fun e he => ?_⟩
      · cases q with
        | zero => simp; intro e; subst e; exact g2 (by simp)
        | succ q => simpa using g3 q (by omega)
      · rcases g4 e he with hm | ⟨q, hq, hqe⟩
        · simp only [List.mem_append, List.mem_singleton] at hm
          rcases hm with hm | rfl
          · exact .inl hm
          · exact .inr ⟨0, by omega, rfl⟩
        · exact .inr ⟨q + 1, by omega, by simpa using hqe⟩
theorem pickL_get {is : List Ir} : ∀ (ks : List Nat) {l : List Ir}, pickL is ks = some l → ∀ (p k : Nat), ks[p]? = some k → l[p]? = is[k]? ∧ (is[k]?).isSome
  | [], l, h, p, k, hp => by simp at hp
  | x :: ks, l, h, p, k, hp => by
    simp only [pickL] at h
    split at h
    · rename_i i l' h1 h2; cases h
      cases p with
      | zero => simp at hp; subst hp; simp [h1]
      | succ p => simpa using pickL_get ks h2 p k (by simpa using hp)
    · cases h
theorem cOpers_get {P : Program} {ops : Array Oper} : ∀ (os : List Oper) {is : List Ir}, cOpers P ops os = some is → ∀ (k : Nat), k < os.length → ∃ o i, os[k]? = some o ∧ is[k]? = some i ∧ cOper P ops o = some i
  | [], is, h, k, hk => by simp at hk
  | o :: os, is, h, k, hk => by
    simp only [cOpers] at h
    split at h
    · rename_i i l h1 h2; cases h
      cases k with
      | zero => exact ⟨o, i, rfl, rfl, h1⟩
      | succ k => simpa using cOpers_get os h2 k (by simpa using hk)
    · cases h
theorem facts_of {P : Program} {ops : Array Oper} {order : List Nat} {is0 is : List Ir} {ch : List (Nat × Nat)} (h0 : cOpers P ops ops.toList = some is0) (h1 : pickL is0 order = some is) (h2 : drawOk ops order is ch = true) : Facts P ops order is ch := by
  simp only [drawOk, Bool.and_eq_true, decide_eq_true_eq] at h2
  obtain ⟨⟨⟨⟨l1, l2⟩, l3⟩, l4⟩, l5⟩ := h2
  have of := ordOk_facts order [] l4
  refine ⟨l1, l2, fun p k h => (of p k h).1, fun p q k hp hq => ?_, fun k hk => ?_, fun p k h e he => ?_, fun p k h => ?_, fun p q op oq i j hpq hop hoq hi hj => ?_⟩
  · rcases Nat.lt_trichotomy p q with h | h | h
    · exact absurd hp ((of q k hq).2.2.1 p h)
    · exact h
    · exact absurd hq ((of p k hp).2.2.1 q h)
  · have := List.all_eq_true.1 l3 k (by simpa using hk)
    rw [List.contains_eq_mem] at this
    exact List.mem_iff_getElem?.1 (of_decide_eq_true this)
  · rcases (of p k h).2.2.2 e he with h | h
    · simp at h
    · exact h
  · obtain ⟨g1, g2⟩ := pickL_get order h1 p k h
    obtain ⟨o, i, q1, q2, q3⟩ := cOpers_get ops.toList h0 k (by rw [Array.length_toList]; exact (of p k h).1)
    exact ⟨o, i, by simpa using q1, by rw [g1, q2], q3⟩
  · have hq : q < is.length := (List.getElem?_eq_some_iff.1 hj).1
    have hp := List.all_eq_true.1 (List.all_eq_true.1 l5 q (by simpa using hq)) p (by simpa using hpq)
    simp only [pairOk, hop, hoq, hi, hj, Bool.or_eq_true, Bool.and_eq_true] at hp
    rcases hp with hp | hp
    · exact .inl (maskM_sound order _ (fun k i h => by simp at h) oq op hp)
    · right
      obtain ⟨⟨a1, a2⟩, a3⟩ := hp
      refine ⟨a1, by simpa using a2, fun r1 r2 => ?_⟩
      rcases a3 with a3 | a3
      · simp [r1, r2] at a3
      · rw [List.contains_eq_mem] at a3; exact of_decide_eq_true a3

/-! ### the states of our own order -/
theorem tr_states {P : Program} {C : CallF} : ∀ (is : List Ir) {e : Env} {H : Heap} {tr : List (Env × Heap)}, runTr P C is e H = some tr →
    tr.length = is.length + 1 ∧ tr[0]? = some (e, H) ∧ ∀ (p : Nat) (i : Ir), is[p]? = some i → ∃ s s', tr[p]? = some s ∧ tr[p + 1]? = some s' ∧ stepIr P C i s.1 s.2 = some s'
  | [], e, H, tr, h => by cases h; exact ⟨rfl, rfl, fun p i h => by simp at h⟩
  | x :: is, e, H, tr, h => by
    simp only [runTr] at h
    split at h
    · rename_i e1 H1 hs
      split at h
      · rename_i l hl; cases h
        obtain ⟨g1, g2, g3⟩ := tr_states is hl
        refine ⟨by simp [g1], rfl, fun p i hp => ?_⟩
        cases p with
        | zero => simp at hp; subst hp; exact ⟨(e, H), (e1, H1), rfl, by simpa using g2, hs⟩
        | succ p => obtain ⟨s, s', q1, q2, q3⟩ := g3 p i (by simpa using hp); exact ⟨s, s', by simpa using q1, by simpa using q2, q3⟩
      · cases h
    · cases h

/-! ### reading elsewhere -/
/-- The block that a reader reads. -/
def rdBlk (i : Ins) (e : Env) : Option Nat :=
  match i with
  | .ld x => (match ev e x with | .pointer (some a) => some a.block | _ => none)
  | .ldn _ x => (match ev e x with | .pointer (some a) => some a.block | _ => none)
  | .b2s x => (match ev e x with | .slice (some a) _ _ => some a.block | _ => none)
  | .slv _ x _ _ _ => (match ev e x with | .slice (some a) _ _ => some a.block | _ => none)
  | _ => none
theorem row_agree {H G : Heap} {b : Nat} (h : H.blk b ≠ none → G.blk b = H.blk b) : ∀ (n o : Nat) {u : List Value}, H.row b o n = some u → G.row b o n = some u
  | 0, _, _, hu => hu
  | n + 1, o, u, hu => by
    have hne : H.blk b ≠ none := by
      intro hn
      simp [Heap.row, Heap.cell, hn] at hu
    have e := h hne
    simp only [Heap.row, Heap.cell, e] at hu ⊢
    split at hu
    · rename_i v hv
      split at hu
      · rename_i vs hvs; cases hu; rw [row_agree h n (o + 1) hvs]
      · cases hu
    · cases hu
theorem rd_agree {P : Program} {C D : CallF} {i : Ins} {e : Env} {H G : Heap} {v : Value} {H' : Heap} (h1 : isAl i = false) (h2 : isEff i = false) (hs : step P C i e H = some (v, H')) (hb : ∀ b, rdBlk i e = some b → H.blk b ≠ none → G.blk b = H.blk b) : step P D i e G = some (v, G) := by
  cases i <;> simp [isAl, isEff] at h1 h2 <;> simp only [step] at hs ⊢
  case ld x =>
    split at hs
    · rename_i b o hx
      have := hb b (by simp [rdBlk, hx])
      split at hs
      · rename_i u hu; cases hs
        have hne : H.blk b ≠ none := by intro hn; simp [Heap.cell, hn] at hu
        have hu' : G.cell b o = some v := by simp only [Heap.cell, this hne]; exact hu
        rw [hu']
      · cases hs
    · cases hs
  case ldn n x =>
    split at hs
    · rename_i b o hx
      have := hb b (by simp [rdBlk, hx])
      split at hs
      · rename_i u hu; cases hs; rw [row_agree this _ _ hu]
      · cases hs
    · cases hs
  case b2s x =>
    split at hs
    · cases hs; rfl
    · rename_i b o n c hx
      have := hb b (by simp [rdBlk, hx])
      split at hs
      · rename_i u hu
        rw [row_agree this _ _ hu]
        simp only at hs ⊢
        split at hs
        · rename_i l hl; cases hs; rfl
        · cases hs
      · cases hs
    · cases hs
  case slv esz x lo hi mx =>
    split at hs
    case h_2 => cases hs
    rename_i u hu
    cases hs
    have : slvV G esz (ev e x) (lo.map (ev e)) (hi.map (ev e)) (mx.map (ev e)) = some v := by
      have hb' : ∀ b o n c, ev e x = .slice (some ⟨b, o, none⟩) n c → H.eszIs b esz = true → G.eszIs b esz = true := by
        intro b o n c hx he
        have hne : H.blk b ≠ none := by intro hn; simp [Heap.eszIs, hn] at he
        have := hb b (by simp [rdBlk, hx]) hne
        simp only [Heap.eszIs, this]; exact he
      revert hu hb'
      generalize ev e x = xv
      intro hu hb'
      unfold slvV at hu ⊢
      cases xv <;> try (cases hu; done)
      rename_i a n c
      simp only at hu ⊢
      cases h1 : bound (c / 2) (mx.map (ev e)) with
      | none => rw [h1] at hu; cases hu
      | some m =>
        rw [h1] at hu
        simp only at hu ⊢
        cases h2 : bound n (hi.map (ev e)) with
        | none => rw [h2] at hu; cases hu
        | some hv =>
          rw [h2] at hu
          simp only at hu ⊢
          cases h3 : bound 0 (lo.map (ev e)) with
          | none => rw [h3] at hu; cases hu
          | some l =>
            rw [h3] at hu
            simp only at hu ⊢
            split at hu
            case isFalse => cases hu
            rename_i hc
            rw [if_pos hc]
            cases a with
            | none => exact hu
            | some ad =>
              obtain ⟨b, o, sp⟩ := ad
              cases sp with
              | some sp => cases hu
              | none =>
                simp only at hu ⊢
                split at hu
                case isFalse => cases hu
                rename_i hz
                have hz' : (l == 0 || G.eszIs b esz) = true := by
                  simp only [Bool.or_eq_true] at hz ⊢
                  exact hz.imp id (hb' b o n c rfl)
                rw [if_pos hz']; exact hu
    rw [this]
  all_goals first
    | (cases hs; rfl; done)
    | (repeat' split at hs
       all_goals first | (cases hs; simp [*]; done) | (cases hs; done))
end Go.AM
