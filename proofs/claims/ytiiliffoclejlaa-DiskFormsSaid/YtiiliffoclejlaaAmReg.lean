/- AM: regions in the text's order. -/
import Derived.Test.YtiiliffoclejlaaAmNext
namespace Go.AM
set_option linter.unusedVariables false
set_option linter.unusedSimpArgs false
section
variable {P : Program} {w : World}
theorem EnvR.put {ρ : Rho} {e : Env} {a : Act} {N : Nat} (h : EnvR ρ e a N) {v v' : Value} (hv : V3 ρ v v') {d : Option Nat} (hd : ∀ t, d = some t → t < N) : EnvR ρ (put d v e) (a.put d v') N := by
  cases d with
  | none => exact h
  | some t =>
    have ht := hd t rfl
    refine ⟨h.defers, by simp [Act.put, h.size], fun s => ?_⟩
    simp only [AM.put, upd, Act.put]
    by_cases e1 : s = t
    · subst e1
      rw [if_pos rfl]
      have : (a.tmps.setIfInBounds s v').getD s undef = v' := by
        simp [Array.getD_eq_getD_getElem?, Array.getElem?_setIfInBounds_self_of_lt (show s < a.tmps.size by rw [h.size]; exact ht)]
      rw [this]; exact hv
    · rw [if_neg e1]
      have : (a.tmps.setIfInBounds t v').getD s undef = a.tmps.getD s undef := by
        simp [Array.getD_eq_getD_getElem?, Array.getElem?_setIfInBounds_ne (show t ≠ s by omega)]
      rw [this]; exact h.slot s
theorem V3.bool_of {ρ : Rho} {v : Value} {b : Bool} (h : V3 ρ v (.bool b)) : v = .bool b := by
  cases v
  case bool c => have := h.bool_inv; cases this; rfl
  case pointer a => cases a <;> first | (cases h.2; done) | (obtain ⟨_, _, _, h⟩ := h; cases h)
  case slice a n c => cases a <;> first | (cases h.2; done) | (obtain ⟨_, _, _, _, _, h, _⟩ := h; cases h)
  case func fn first cap => obtain ⟨_, _, _, h, _⟩ := h; cases h
  case agg cs => obtain ⟨_, h, _⟩ := h; cases h
  case tuple cs => obtain ⟨_, h, _⟩ := h; cases h
  all_goals (cases h.2)
/-- The guard says the same on both sides. -/
theorem wanted_sound {ρ : Rho} {e : Env} {a : Act} {N : Nat} (h : EnvR ρ e a N) {ops : Array Oper} {o : Oper} {i : Ir} (hc : cOper P ops o = some i) : Region.wanted o (yielded ops a.tmps) = wanted i e := by
  unfold cOper at hc
  simp only at hc
  unfold Region.wanted
  cases hg : o.guard with
  | none => rw [hg] at hc; cases hc; rfl
  | some p =>
    obtain ⟨j, wt⟩ := p
    rw [hg] at hc
    simp only at hc
    split at hc
    · rename_i d hd; cases hc
      simp only [wanted, yielded, hd, Option.bind_some]
      have hv := h.slot d
      rw [Array.getD_eq_getD_getElem?] at hv
      cases hx : a.tmps[d]? with
      | none =>
        rw [hx] at hv
        simp only [Option.getD_none] at hv
        cases he : e d with
        | bool b => rw [he] at hv; have := hv.bool_inv; cases this
        | _ => simp
      | some x =>
        rw [hx] at hv
        simp only [Option.getD_some] at hv
        cases he : e d with
        | bool b => rw [he] at hv; have := hv.bool_inv; subst this; simp
        | _ =>
          cases x with
          | bool b => rw [he] at hv; have := hv.bool_of; cases this
          | _ => simp
    · cases hc
theorem cOper_ins {ops : Array Oper} {o : Oper} {i : Ir} (hc : cOper P ops o = some i) : i.dst = o.dst ∧ (cOp P o.op = some i.ins ∨ i.ins = .bad) := by
  unfold cOper at hc
  simp only at hc
  cases hg : o.guard with
  | none => rw [hg] at hc; cases hc; exact ⟨rfl, by cases cOp P o.op <;> simp⟩
  | some p =>
    obtain ⟨j, wt⟩ := p
    rw [hg] at hc
    simp only at hc
    split at hc
    · cases hc; exact ⟨rfl, by cases cOp P o.op <;> simp⟩
    · cases hc
/-- What stands over calls. -/
structure COk (P : Program) (C : CallF) : Prop where
  call : CallOk P C
  able : ∀ f args H r, C f args H = some r → Callable P f
  next : NextOk C
theorem ins_sound {C : CallF} (hC : COk P C) {ρ : Rho} {e : Env} {a : Act} {H H' : Heap} {ops : Array Oper} {o : Oper} {i : Ir} {v : Value} (hc : cOper P ops o = some i) (hs : step P C i.ins e H = some (v, H'))
    (ha : ArgR ρ e a.eval) (hw : Hw H) (hr : RelH ρ H w) (K : Act → World → Prop) (Q : Exit → Act → World → Prop) (hK : ∀ v' w' ρ', V3 ρ' v v' → Adv H.next ρ H w ρ' H' w' → K (a.put o.dst v') w') : o.wp P a w K Q := by
  obtain ⟨_, hc2⟩ := cOper_ins hc
  rcases hc2 with hc2 | hbad
  · by_cases h2 : isEff i.ins = true
    · exact eff_sound (N := 0) hC.call hC.able hc2 h2 hs ha hw hr K Q hK
    · have h2' : isEff i.ins = false := by simpa using h2
      by_cases h1 : isAl i.ins = true
      · obtain ⟨g, B, h3, rfl, rfl⟩ := step_alc h1 hs
        obtain ⟨hro, v', w', L, c, t, fr, m⟩ := al_sound (P := P) (w := w) hc2 h3 ha
        refine wp_value m.run (hK v' w' (rset ρ H.next L) (m.val _ _ (by simp [rset])) ?_)
        exact Adv.alloc hr H.next (hr.none_ge (Nat.le_refl _)) (Nat.le_refl _) (by simp [Heap.add]) (by simp [Heap.add]) B (by simp [Heap.add]) (fun k hk => by simp [Heap.add, hk]) L c t fr m.heap m.blk m.size m.esz m.fr m.cells m.os m.tape m.output
      · obtain ⟨rfl, v', h3, h4⟩ := rd_sound (P := P) (w := w) hc2 (by simpa using h1) h2' hs ha hr
        exact wp_value h3 (hK v' w ρ h4 (Adv.refl hr))
  · rw [hbad] at hs; cases hs
def SlotsIn (N : Nat) (is : List Ir) : Prop := ∀ i ∈ is, ∀ d, i.dst = some d → d < N
theorem seq_sound {C : CallF} (hC : COk P C) {ops : Array Oper} {N : Nat} {Q : Exit → Act → World → Prop} : ∀ (l : List Oper) (k : Nat) (is : List Ir) {e e' : Env} {H H' : Heap} {a : Act} {w : World} {ρ : Rho} {base : Nat}, (∀ j, l[j]? = ops[k + j]?) → cOpers P ops l = some is → SlotsIn N is →
    runIr P C is e H = some (e', H') → EnvR ρ e a N → Hw H → RelH ρ H w → base ≤ H.next → (∀ a' w' ρ', EnvR ρ' e' a' N → Adv base ρ H w ρ' H' w' → Q .normal a' w') → wpOps P ops Q (List.range' k l.length) a w
  | [], k, is, e, e', H, H', a, w, ρ, base, hl, hc, hn, hs, he, hwf, hr, hb, hQ => by
    cases hc; cases hs
    exact hQ a w ρ he (Adv.refl hr)
  | o :: l, k, is, e, e', H, H', a, w, ρ, base, hl, hc, hn, hs, he, hwf, hr, hb, hQ => by
    simp only [cOpers] at hc
    split at hc
    case h_2 => cases hc
    rename_i i is' h1 h2
    cases hc
    have ho : ops[k]? = some o := by have := hl 0; simpa using this.symm
    have hl' : ∀ j, l[j]? = ops[k + 1 + j]? := fun j => by have := hl (j + 1); rw [show k + 1 + j = k + (j + 1) by omega]; simpa using this
    simp only [List.length_cons, List.range'_succ]
    simp only [wpOps, ho]
    rw [wanted_sound he h1]
    simp only [runIr] at hs
    split at hs
    case h_2 => cases hs
    rename_i e1 H1 hst
    have hwf1 := (stepIr_next hC.next hst hwf).1
    obtain ⟨hd, _⟩ := cOper_ins h1
    have hN : ∀ d, o.dst = some d → d < N := fun d h => hn i (by simp) d (hd.trans h)
    have hn' : SlotsIn N is' := fun j hj => hn j (by simp [hj])
    unfold stepIr at hst
    by_cases hw : wanted i e = true
    · rw [if_pos hw] at hst ⊢
      split at hst
      case h_2 => cases hst
      rename_i v H2 hstep
      cases hst
      refine .inl (ins_sound hC h1 hstep he.arg hwf hr _ _ fun v' w' ρ' hv hadv => ?_)
      have he1 : EnvR ρ' (put i.dst v e) (a.put o.dst v') N := by rw [hd]; exact (he.mono hadv.ext).put hv hN
      refine seq_sound hC l (k + 1) is' (base := base) hl' h2 hn' hs he1 hwf1 hadv.rel (Nat.le_trans hb hadv.next) fun a2 w2 ρ2 he2 hadv2 => ?_
      exact hQ a2 w2 ρ2 he2 ((hadv.base hb).trans hadv2)
    · rw [if_neg hw] at hst ⊢
      cases hst
      have he1 : EnvR ρ (put i.dst undef e) (a.put o.dst undef) N := by rw [hd]; exact he.put V3.undef hN
      exact seq_sound hC l (k + 1) is' (base := base) hl' h2 hn' hs he1 hwf hr hb hQ
theorem reg_sound {C : CallF} (hC : COk P C) {ops : Array Oper} {N id : Nat} {Q : Exit → Act → World → Prop} {is : List Ir} {e e' : Env} {H H' : Heap} {a : Act} {ρ : Rho} (hc : cOpers P ops ops.toList = some is) (hn : SlotsIn N is)
    (hs : runIr P C is e H = some (e', H')) (he : EnvR ρ e a N) (hw : Hw H) (hr : RelH ρ H w) (hQ : ∀ a' w' ρ', EnvR ρ' e' a' N → Adv H.next ρ H w ρ' H' w' → Q .normal a' w') : (Code.region id ops false).wp P Q a w := by
  refine wp_region ?_
  have := seq_sound (Q := Q) hC ops.toList 0 is (ops := ops) (base := H.next) (fun j => by simp) hc hn hs he hw hr (Nat.le_refl _) hQ
  rw [List.range_eq_range', Array.length_toList] at *
  exact this
end
end Go.AM
