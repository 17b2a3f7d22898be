import Derived.Test.YtiiliffoclejlaaAm1
import Derived.LoopN
section TextAmNext
/- AM: block numbers only grow; nothing stands past the next one; what an instruction looks at. -/
namespace Go.AM
set_option linter.unusedVariables false
set_option linter.unusedSimpArgs false
def NextOk (C : CallF) : Prop := ∀ f args H v H', C f args H = some (v, H') → Hw H → Hw H' ∧ H.next ≤ H'.next
theorem Hw.add {H : Heap} (h : Hw H) (B : Blk) : Hw (H.add B) := fun b hb => by
  have h1 : H.next + 1 ≤ b := hb
  simp only [Heap.add]
  rw [if_neg (by omega)]; exact h b (by omega)
theorem Hw.set {H : Heap} (h : Hw H) {b : Nat} {f : Option Blk} (hb : b < H.next ∨ f = none) : Hw (H.set b f) := fun k hk => by
  have h1 : H.next ≤ k := hk
  simp only [Heap.set]
  by_cases e : k = b
  · rw [if_pos e]; rcases hb with hb | hb
    · omega
    · exact hb
  · rw [if_neg e]; exact h k h1
theorem Hw.lt {H : Heap} (h : Hw H) {b : Nat} {B : Blk} (hb : H.blk b = some B) : b < H.next := by
  by_cases hl : b < H.next
  · exact hl
  · rw [h b (by omega)] at hb; cases hb
theorem store_next {H H' : Heap} {b o : Nat} {vs : List Value} (h : H.store b o vs = some H') : (Hw H → Hw H') ∧ H'.next = H.next := by
  unfold Heap.store at h
  split at h
  · cases h; exact ⟨id, rfl⟩
  · split at h
    · rename_i B hB
      split at h
      · cases h; exact ⟨fun hw => hw.set (.inl (hw.lt hB)), rfl⟩
      · cases h
    · cases h
theorem app_next {H H' : Heap} {esz bytes k : Nat} {x v : Value} {ys : List Value} (h : appV H esz bytes k x ys = some (v, H')) (hw : Hw H) : Hw H' ∧ H.next ≤ H'.next := by
  unfold appV at h
  split at h
  · split at h
    · cases h; exact ⟨hw, Nat.le_refl _⟩
    · cases h
  split at h
  · split at h
    · cases h; exact ⟨hw.add _, Nat.le_succ _⟩
    · cases h
  · split at h
    · split at h
      · rename_i H1 hst; cases h
        have := store_next hst
        exact ⟨this.1 hw, by rw [this.2]; exact Nat.le_refl _⟩
      · cases h
    · split at h
      · split at h
        · split at h
          · cases h; exact ⟨hw.add _, Nat.le_succ _⟩
          · split at h
            · split at h
              · cases h; exact ⟨(hw.set (.inr rfl)).add _, Nat.le_succ _⟩
              · cases h
            · cases h
        · cases h
      · cases h
  · cases h
theorem step_same {P : Program} {C : CallF} {i : Ins} {e : Env} {H H' : Heap} {v : Value} (h1 : isAl i = false) (h2 : isEff i = false) (h : step P C i e H = some (v, H')) : H' = H := by
  cases i <;> simp [isAl, isEff] at h1 h2 <;> simp only [step] at h
  all_goals first
    | (cases h; rfl; done)
    | (repeat' split at h
       all_goals first | (cases h; rfl; done) | (cases h; done))
theorem step_alc {P : Program} {C : CallF} {i : Ins} {e : Env} {H H' : Heap} {v : Value} (h1 : isAl i = true) (h : step P C i e H = some (v, H')) : ∃ g B, alc i e = some (g, B) ∧ v = g H.next ∧ H' = H.add B := by
  cases i <;> simp [isAl] at h1 <;> simp only [step] at h <;> (split at h; rename_i g B hg; cases h; exact ⟨g, B, hg, rfl, rfl⟩; cases h)
theorem step_next {P : Program} {C : CallF} (hC : NextOk C) {i : Ins} {e : Env} {H H' : Heap} {v : Value} (h : step P C i e H = some (v, H')) (hw : Hw H) : Hw H' ∧ H.next ≤ H'.next := by
  by_cases h2 : isEff i = true
  · cases i <;> simp [isEff] at h2 <;> simp only [step] at h
    case st n a x =>
      repeat' split at h
      all_goals first | (cases h; done) | skip
      rename_i hst; cases h
      have := store_next hst
      exact ⟨this.1 hw, by rw [this.2]; exact Nat.le_refl _⟩
    case call f xs => exact hC _ _ _ _ _ h hw
    case callV x xs =>
      repeat' split at h
      all_goals first | (cases h; done) | exact hC _ _ _ _ _ h hw
    case app esz bytes x y =>
      repeat' split at h
      all_goals first | (cases h; done) | exact app_next h hw
    case copy esz x y =>
      repeat' split at h
      all_goals first | (cases h; done) | skip
      · rename_i hst; cases h
        have := store_next hst
        exact ⟨this.1 hw, by rw [this.2]; exact Nat.le_refl _⟩
      · cases h; exact ⟨hw, Nat.le_refl _⟩
    case clr z x =>
      repeat' split at h
      all_goals first | (cases h; done) | skip
      · cases h; exact ⟨hw, Nat.le_refl _⟩
      · rename_i hst; cases h
        have := store_next hst
        exact ⟨this.1 hw, by rw [this.2]; exact Nat.le_refl _⟩
    case bad => cases h
  · have h2' : isEff i = false := by simpa using h2
    by_cases h1 : isAl i = true
    · obtain ⟨g, B, _, _, rfl⟩ := step_alc h1 h
      exact ⟨hw.add B, Nat.le_succ _⟩
    · obtain rfl := step_same (by simpa using h1) h2' h
      exact ⟨hw, Nat.le_refl _⟩
theorem stepIr_next {P : Program} {C : CallF} (hC : NextOk C) {i : Ir} {e e' : Env} {H H' : Heap} (h : stepIr P C i e H = some (e', H')) (hw : Hw H) : Hw H' ∧ H.next ≤ H'.next := by
  unfold stepIr at h
  split at h
  · split at h
    · rename_i v H1 hs; cases h; exact step_next hC hs hw
    · cases h
  · cases h; exact ⟨hw, Nat.le_refl _⟩
theorem runIr_next {P : Program} {C : CallF} (hC : NextOk C) : ∀ (is : List Ir) {e e' : Env} {H H' : Heap}, runIr P C is e H = some (e', H') → Hw H → Hw H' ∧ H.next ≤ H'.next
  | [], e, e', H, H', h, hw => by cases h; exact ⟨hw, Nat.le_refl _⟩
  | i :: is, e, e', H, H', h, hw => by
    simp only [runIr] at h
    split at h
    · rename_i e1 H1 hs
      have a := stepIr_next hC hs hw
      have b := runIr_next hC is h a.1
      exact ⟨b.1, by omega⟩
    · cases h
theorem runTr_next {P : Program} {C : CallF} (hC : NextOk C) : ∀ (is : List Ir) {e : Env} {H : Heap} {l : List (Env × Heap)} {r : Env × Heap}, runTr P C is e H = some l → l.getLast? = some r → Hw H → Hw r.2 ∧ H.next ≤ r.2.next
  | [], e, H, l, r, h, hr, hw => by cases h; cases hr; exact ⟨hw, Nat.le_refl _⟩
  | i :: is, e, H, l, r, h, hr, hw => by
    simp only [runTr] at h
    split at h
    · rename_i e1 H1 hs
      split at h
      · rename_i l' hl; cases h
        have a := stepIr_next hC hs hw
        cases l' with
        | nil => exfalso; cases is <;> simp only [runTr] at hl <;> (repeat' split at hl) <;> cases hl
        | cons x xs =>
          rw [List.getLast?_cons_cons] at hr
          have b := runTr_next hC is hl hr a.1
          exact ⟨b.1, by omega⟩
      · cases h
    · cases h
theorem nxt_inv {r : Option (IEx × Env × Heap)} {f : Env → Heap → Option (IEx × Env × Heap)} {x : IEx} {e : Env} {H : Heap} (h : nxt r f = some (x, e, H)) : (∃ e1 H1, r = some (.norm, e1, H1) ∧ f e1 H1 = some (x, e, H)) ∨ (r = some (x, e, H) ∧ x ≠ .norm) := by
  cases r with
  | none => cases h
  | some q =>
    obtain ⟨y, e1, H1⟩ := q
    cases y
    · exact .inl ⟨e1, H1, rfl, h⟩
    · right; cases h; exact ⟨rfl, by simp⟩
    · right; cases h; exact ⟨rfl, by simp⟩
theorem iter_next {f : Env → Heap → Option (IEx × Env × Heap)} (hf : ∀ e H x e' H', f e H = some (x, e', H') → Hw H → Hw H' ∧ H.next ≤ H'.next) : ∀ (n : Nat) {e : Env} {H : Heap} {x : IEx} {e' : Env} {H' : Heap}, iter f n e H = some (x, e', H') → Hw H → Hw H' ∧ H.next ≤ H'.next
  | 0, _, _, _, _, _, h, _ => by cases h
  | n + 1, e, H, x, e', H', h, hw => by
    rcases nxt_inv h with ⟨e1, H1, h1, h2⟩ | ⟨h1, _⟩
    · have a := hf _ _ _ _ _ h1 hw
      have b := iter_next hf n h2 a.1
      exact ⟨b.1, by omega⟩
    · exact hf _ _ _ _ _ h1 hw
theorem exec_next {P : Program} {C : CallF} (hC : NextOk C) (n : Nat) : ∀ (c : IC) {e : Env} {H : Heap} {x : IEx} {e' : Env} {H' : Heap}, exec P C n c e H = some (x, e', H') → Hw H → Hw H' ∧ H.next ≤ H'.next := by
  intro c
  induction c with
  | skip => intro e H x e' H' h hw; cases h; exact ⟨hw, Nat.le_refl _⟩
  | exit id => intro e H x e' H' h hw; cases h; exact ⟨hw, Nat.le_refl _⟩
  | ret => intro e H x e' H' h hw; cases h; exact ⟨hw, Nat.le_refl _⟩
  | reg is =>
    intro e H x e' H' h hw
    simp only [exec] at h
    cases hs : runIr P C is e H with
    | none => rw [hs] at h; cases h
    | some q => rw [hs] at h; cases h; exact runIr_next hC is hs hw
  | regd is ch =>
    intro e H x e' H' h hw
    simp only [exec] at h
    cases hs : runD P C is ch e H with
    | none => rw [hs] at h; cases h
    | some q =>
      rw [hs] at h; cases h
      unfold runD at hs
      split at hs
      · rename_i tr ht
        split at hs
        · exact runTr_next hC is ht hs hw
        · cases hs
      · cases hs
  | seq a b iha ihb =>
    intro e H x e' H' h hw
    rcases nxt_inv h with ⟨e1, H1, h1, h2⟩ | ⟨h1, _⟩
    · have p := iha h1 hw
      have q := ihb h2 p.1
      exact ⟨q.1, by omega⟩
    · exact iha h1 hw
  | cond c a b iha ihb =>
    intro e H x e' H' h hw
    simp only [exec] at h
    split at h
    · exact iha h hw
    · exact ihb h hw
    · cases h
  | block id a iha =>
    intro e H x e' H' h hw
    simp only [exec] at h
    cases hs : exec P C n a e H with
    | none => rw [hs] at h; cases h
    | some q =>
      obtain ⟨y, e1, H1⟩ := q
      rw [hs] at h
      have p := iha hs hw
      cases y <;> simp only [unblock] at h
      · cases h; exact p
      · split at h <;> cases h <;> exact p
      · cases h; exact p
  | loop a iha =>
    intro e H x e' H' h hw
    exact iter_next (fun _ _ _ _ _ h hw => iha h hw) n h hw
theorem finish_inv {F : IFn} {r : Option (IEx × Env × Heap)} {v : Value} {H : Heap} (h : finish F r = some (v, H)) : ∃ x e, r = some (x, e, H) ∧ isEnd x = true ∧ resAll H e F.res = some v := by
  unfold finish at h
  split at h
  · rename_i x e H'
    split at h
    · rename_i hx
      split at h
      · rename_i u hu; cases h; exact ⟨x, e, rfl, hx, hu⟩
      · cases h
    · cases h
  · cases h
theorem quiet_inv {H H' : Heap} {r : Option (Value × Heap)} {v : Value} (h : quiet H r = some (v, H')) : H' = H ∧ flat v = true ∧ ∃ H1, r = some (v, H1) := by
  unfold quiet at h
  split at h
  · rename_i u H1
    split at h
    · rename_i hf; cases h; exact ⟨rfl, hf, H1, rfl⟩
    · cases h
  · cases h
theorem callN_next (K : Cfg) (hX : ∀ f g, K.X f = some g → ∀ args H v H', g args H = some (v, H') → Hw H → Hw H' ∧ H.next ≤ H'.next) : ∀ n, NextOk (callN K n)
  | 0, _, _, _, _, _, h, _ => by cases h
  | n + 1, f, args, H, v, H', h, hw => by
    simp only [callN] at h
    split at h
    · rename_i g hg; exact hX f g hg _ _ _ _ h hw
    · split at h
      · cases h
      · rename_i F hF
        split at h
        · split at h
          · obtain ⟨rfl, _, _⟩ := quiet_inv h; exact ⟨hw, Nat.le_refl _⟩
          · obtain ⟨x, e, h1, _, _⟩ := finish_inv h
            exact exec_next (callN_next K hX n) n _ h1 hw
        · cases h

/-! ### what an instruction looks at -/
theorem ev_congr {e e' : Env} {a : Arg} (h : ∀ t ∈ a.tmps, e t = e' t) : ev e a = ev e' a := by
  cases a with
  | t n => exact h n (by simp [Arg.tmps])
  | c v => rfl
theorem map_congr {e e' : Env} {xs : List Arg} (h : ∀ t ∈ xs.flatMap Arg.tmps, e t = e' t) : xs.map (ev e) = xs.map (ev e') :=
  List.map_congr_left fun a ha => ev_congr fun t ht => h t (List.mem_flatMap.2 ⟨a, ha, ht⟩)
theorem parts_congr {e e' : Env} {ps : List (Nat × Nat × Arg)} (h : ∀ t ∈ ps.flatMap (fun p => p.2.2.tmps), e t = e' t) : (ps.map fun p => (p.1, p.2.1, ev e p.2.2)) = ps.map fun p => (p.1, p.2.1, ev e' p.2.2) :=
  List.map_congr_left fun a ha => by rw [ev_congr fun t ht => h t (List.mem_flatMap.2 ⟨a, ha, ht⟩)]
theorem opt_congr {e e' : Env} {x : Option Arg} (h : ∀ t ∈ optT x, e t = e' t) : x.map (ev e) = x.map (ev e') := by
  cases x with
  | none => rfl
  | some a => simp only [Option.map_some]; rw [ev_congr h]
theorem alc_congr {e e' : Env} {i : Ins} (h : ∀ t ∈ i.tmps, e t = e' t) : alc i e = alc i e' := by
  cases i <;> simp only [Ins.tmps, List.mem_append] at h <;> simp only [alc]
  case box n x => rw [ev_congr h]
  case mkrow a b c ps => rw [parts_congr h]
  case s2b x => rw [ev_congr h]
  case mks a b c l m => rw [ev_congr fun t ht => h t (.inl ht), ev_congr fun t ht => h t (.inr ht)]
theorem step_congr {P : Program} {C : CallF} {e e' : Env} {i : Ins} {H : Heap} (h : ∀ t ∈ i.tmps, e t = e' t) : step P C i e H = step P C i e' H := by
  by_cases ha : isAl i = true
  · have := alc_congr h
    cases i <;> simp [isAl] at ha <;> simp only [step, this]
  · cases i <;> (first | (simp [isAl] at ha; done) | skip) <;> simp only [Ins.tmps, List.mem_append] at h <;> simp only [step]
    case mov x => rw [ev_congr h]
    case pick a b c => rw [ev_congr (a := a) fun t ht => h t (.inl (.inl ht)), ev_congr (a := b) fun t ht => h t (.inl (.inr ht)), ev_congr (a := c) fun t ht => h t (.inr ht)]
    case build z ps => rw [parts_congr h]
    case ld x => rw [ev_congr h]
    case ldn n x => rw [ev_congr h]
    case st n a x => rw [ev_congr (a := a) fun t ht => h t (.inl ht), ev_congr (a := x) fun t ht => h t (.inr ht)]
    case nilck x => rw [ev_congr h]
    case bin op t a x => rw [ev_congr (a := a) fun t ht => h t (.inl ht), ev_congr (a := x) fun t ht => h t (.inr ht)]
    case un op x => rw [ev_congr h]
    case ii k x => rw [ev_congr h]
    case b2s x => rw [ev_congr h]
    case clos f xs => rw [map_congr h]
    case sls x lo hi => rw [ev_congr (a := x) fun t ht => h t (.inl (.inl ht)), opt_congr (x := lo) fun t ht => h t (.inl (.inr ht)), opt_congr (x := hi) fun t ht => h t (.inr ht)]
    case slv n x lo hi mx => rw [ev_congr (a := x) fun t ht => h t (.inl (.inl (.inl ht))), opt_congr (x := lo) fun t ht => h t (.inl (.inl (.inr ht))), opt_congr (x := hi) fun t ht => h t (.inl (.inr ht)), opt_congr (x := mx) fun t ht => h t (.inr ht)]
    case fadr n x => rw [ev_congr h]
    case iadrS n a x => rw [ev_congr (a := a) fun t ht => h t (.inl ht), ev_congr (a := x) fun t ht => h t (.inr ht)]
    case iadrA m n a x => rw [ev_congr (a := a) fun t ht => h t (.inl ht), ev_congr (a := x) fun t ht => h t (.inr ht)]
    case fld a b c x => rw [ev_congr h]
    case idxA l m g a x => rw [ev_congr (a := a) fun t ht => h t (.inl ht), ev_congr (a := x) fun t ht => h t (.inr ht)]
    case idxS a x => rw [ev_congr (a := a) fun t ht => h t (.inl ht), ev_congr (a := x) fun t ht => h t (.inr ht)]
    case ext n x => rw [ev_congr h]
    case call f xs => rw [map_congr h]
    case callV x xs => rw [ev_congr (a := x) fun t ht => h t (.inl ht), map_congr fun t ht => h t (.inr ht)]
    case app m n a x => rw [ev_congr (a := a) fun t ht => h t (.inl ht), ev_congr (a := x) fun t ht => h t (.inr ht)]
    case lenV x => rw [ev_congr h]
    case lenS x => rw [ev_congr h]
    case copy n a x => rw [ev_congr (a := a) fun t ht => h t (.inl ht), ev_congr (a := x) fun t ht => h t (.inr ht)]
    case eqa b ss a x => rw [ev_congr (a := a) fun t ht => h t (.inl ht), ev_congr (a := x) fun t ht => h t (.inr ht)]
    case mm b a x => rw [ev_congr (a := a) fun t ht => h t (.inl ht), ev_congr (a := x) fun t ht => h t (.inr ht)]
    case clr z x => rw [ev_congr h]
    case capV x => rw [ev_congr h]
theorem wanted_congr {e e' : Env} {i : Ir} (h : ∀ t ∈ i.looks, e t = e' t) : wanted i e = wanted i e' := by
  unfold wanted
  cases hg : i.guard with
  | none => rfl
  | some p => obtain ⟨d, w⟩ := p; simp only; rw [h d (by simp [Ir.looks, hg])]
end Go.AM
end TextAmNext
section TextAmReg
/- AM: regions in the text's order. -/
namespace Go.AM
set_option linter.unusedVariables false
set_option linter.unusedSimpArgs false
section
variable {P : Program} {w : World}
theorem EnvR.put {ρ : Rho} {e : Env} {a : Act} {N : Nat} (h : EnvR ρ e a N) {v v' : Value} (hv : V3 ρ v v') {d : Option Nat} (hd : ∀ t, d = some t → t < N) : EnvR ρ (put d v e) (a.put d v') N := by
  cases d with
  | none => exact h
  | some t =>
    have ht := hd t rfl
    refine ⟨h.defers, by simp [Act.put, h.size], fun s => ?_⟩
    simp only [AM.put, upd, Act.put]
    by_cases e1 : s = t
    · subst e1
      rw [if_pos rfl]
      have : (a.tmps.setIfInBounds s v').getD s undef = v' := by
        simp [Array.getD_eq_getD_getElem?, Array.getElem?_setIfInBounds_self_of_lt (show s < a.tmps.size by rw [h.size]; exact ht)]
      rw [this]; exact hv
    · rw [if_neg e1]
      have : (a.tmps.setIfInBounds t v').getD s undef = a.tmps.getD s undef := by
        simp [Array.getD_eq_getD_getElem?, Array.getElem?_setIfInBounds_ne (show t ≠ s by omega)]
      rw [this]; exact h.slot s
theorem V3.bool_of {ρ : Rho} {v : Value} {b : Bool} (h : V3 ρ v (.bool b)) : v = .bool b := by
  cases v
  case bool c => have := h.bool_inv; cases this; rfl
  case pointer a => cases a <;> first | (cases h.2; done) | (obtain ⟨_, _, _, h⟩ := h; cases h)
  case slice a n c => cases a <;> first | (cases h.2; done) | (obtain ⟨_, _, _, _, _, h, _⟩ := h; cases h)
  case func fn first cap => obtain ⟨_, _, _, h, _⟩ := h; cases h
  case agg cs => obtain ⟨_, h, _⟩ := h; cases h
  case tuple cs => obtain ⟨_, h, _⟩ := h; cases h
  all_goals (cases h.2)
/-- The guard says the same on both sides. -/
theorem wanted_sound {ρ : Rho} {e : Env} {a : Act} {N : Nat} (h : EnvR ρ e a N) {ops : Array Oper} {o : Oper} {i : Ir} (hc : cOper P ops o = some i) : Region.wanted o (yielded ops a.tmps) = wanted i e := by
  unfold cOper at hc
  simp only at hc
  unfold Region.wanted
  cases hg : o.guard with
  | none => rw [hg] at hc; cases hc; rfl
  | some p =>
    obtain ⟨j, wt⟩ := p
    rw [hg] at hc
    simp only at hc
    split at hc
    · rename_i d hd; cases hc
      simp only [wanted, yielded, hd, Option.bind_some]
      have hv := h.slot d
      rw [Array.getD_eq_getD_getElem?] at hv
      cases hx : a.tmps[d]? with
      | none =>
        rw [hx] at hv
        simp only [Option.getD_none] at hv
        cases he : e d with
        | bool b => rw [he] at hv; have := hv.bool_inv; cases this
        | _ => simp
      | some x =>
        rw [hx] at hv
        simp only [Option.getD_some] at hv
        cases he : e d with
        | bool b => rw [he] at hv; have := hv.bool_inv; subst this; simp
        | _ =>
          cases x with
          | bool b => rw [he] at hv; have := hv.bool_of; cases this
          | _ => simp
    · cases hc
theorem cOper_ins {ops : Array Oper} {o : Oper} {i : Ir} (hc : cOper P ops o = some i) : i.dst = o.dst ∧ (cOp P o.op = some i.ins ∨ i.ins = .bad) := by
  unfold cOper at hc
  simp only at hc
  cases hg : o.guard with
  | none => rw [hg] at hc; cases hc; exact ⟨rfl, by cases cOp P o.op <;> simp⟩
  | some p =>
    obtain ⟨j, wt⟩ := p
    rw [hg] at hc
    simp only at hc
    split at hc
    · cases hc; exact ⟨rfl, by cases cOp P o.op <;> simp⟩
    · cases hc
/-- What stands over calls. -/
structure COk (P : Program) (C : CallF) : Prop where
  call : CallOk P C
  able : ∀ f args H r, C f args H = some r → Callable P f
  next : NextOk C
theorem ins_sound {C : CallF} (hC : COk P C) {ρ : Rho} {e : Env} {a : Act} {H H' : Heap} {ops : Array Oper} {o : Oper} {i : Ir} {v : Value} (hc : cOper P ops o = some i) (hs : step P C i.ins e H = some (v, H'))
    (ha : ArgR ρ e a.eval) (hw : Hw H) (hr : RelH ρ H w) (K : Act → World → Prop) (Q : Exit → Act → World → Prop) (hK : ∀ v' w' ρ', V3 ρ' v v' → Adv H.next ρ H w ρ' H' w' → K (a.put o.dst v') w') : o.wp P a w K Q := by
  obtain ⟨_, hc2⟩ := cOper_ins hc
  rcases hc2 with hc2 | hbad
  · by_cases h2 : isEff i.ins = true
    · exact eff_sound (N := 0) hC.call hC.able hc2 h2 hs ha hw hr K Q hK
    · have h2' : isEff i.ins = false := by simpa using h2
      by_cases h1 : isAl i.ins = true
      · obtain ⟨g, B, h3, rfl, rfl⟩ := step_alc h1 hs
        obtain ⟨hro, v', w', L, c, t, fr, m⟩ := al_sound (P := P) (w := w) hc2 h3 ha
        refine wp_value m.run (hK v' w' (rset ρ H.next L) (m.val _ _ (by simp [rset])) ?_)
        exact Adv.alloc hr H.next (hr.none_ge (Nat.le_refl _)) (Nat.le_refl _) (by simp [Heap.add]) (by simp [Heap.add]) B (by simp [Heap.add]) (fun k hk => by simp [Heap.add, hk]) L c t fr m.heap m.blk m.size m.esz m.fr m.cells m.os m.tape m.output
      · obtain ⟨rfl, v', h3, h4⟩ := rd_sound (P := P) (w := w) hc2 (by simpa using h1) h2' hs ha hr
        exact wp_value h3 (hK v' w ρ h4 (Adv.refl hr))
  · rw [hbad] at hs; cases hs
def SlotsIn (N : Nat) (is : List Ir) : Prop := ∀ i ∈ is, ∀ d, i.dst = some d → d < N
theorem seq_sound {C : CallF} (hC : COk P C) {ops : Array Oper} {N : Nat} {Q : Exit → Act → World → Prop} : ∀ (l : List Oper) (k : Nat) (is : List Ir) {e e' : Env} {H H' : Heap} {a : Act} {w : World} {ρ : Rho} {base : Nat}, (∀ j, l[j]? = ops[k + j]?) → cOpers P ops l = some is → SlotsIn N is →
    runIr P C is e H = some (e', H') → EnvR ρ e a N → Hw H → RelH ρ H w → base ≤ H.next → (∀ a' w' ρ', EnvR ρ' e' a' N → Adv base ρ H w ρ' H' w' → Q .normal a' w') → wpOps P ops Q (List.range' k l.length) a w
  | [], k, is, e, e', H, H', a, w, ρ, base, hl, hc, hn, hs, he, hwf, hr, hb, hQ => by
    cases hc; cases hs
    exact hQ a w ρ he (Adv.refl hr)
  | o :: l, k, is, e, e', H, H', a, w, ρ, base, hl, hc, hn, hs, he, hwf, hr, hb, hQ => by
    simp only [cOpers] at hc
    split at hc
    case h_2 => cases hc
    rename_i i is' h1 h2
    cases hc
    have ho : ops[k]? = some o := by have := hl 0; simpa using this.symm
    have hl' : ∀ j, l[j]? = ops[k + 1 + j]? := fun j => by have := hl (j + 1); rw [show k + 1 + j = k + (j + 1) by omega]; simpa using this
    simp only [List.length_cons, List.range'_succ]
    simp only [wpOps, ho]
    rw [wanted_sound he h1]
    simp only [runIr] at hs
    split at hs
    case h_2 => cases hs
    rename_i e1 H1 hst
    have hwf1 := (stepIr_next hC.next hst hwf).1
    obtain ⟨hd, _⟩ := cOper_ins h1
    have hN : ∀ d, o.dst = some d → d < N := fun d h => hn i (by simp) d (hd.trans h)
    have hn' : SlotsIn N is' := fun j hj => hn j (by simp [hj])
    unfold stepIr at hst
    by_cases hw : wanted i e = true
    · rw [if_pos hw] at hst ⊢
      split at hst
      case h_2 => cases hst
      rename_i v H2 hstep
      cases hst
      refine .inl (ins_sound hC h1 hstep he.arg hwf hr _ _ fun v' w' ρ' hv hadv => ?_)
      have he1 : EnvR ρ' (put i.dst v e) (a.put o.dst v') N := by rw [hd]; exact (he.mono hadv.ext).put hv hN
      refine seq_sound hC l (k + 1) is' (base := base) hl' h2 hn' hs he1 hwf1 hadv.rel (Nat.le_trans hb hadv.next) fun a2 w2 ρ2 he2 hadv2 => ?_
      exact hQ a2 w2 ρ2 he2 ((hadv.base hb).trans hadv2)
    · rw [if_neg hw] at hst ⊢
      cases hst
      have he1 : EnvR ρ (put i.dst undef e) (a.put o.dst undef) N := by rw [hd]; exact he.put V3.undef hN
      exact seq_sound hC l (k + 1) is' (base := base) hl' h2 hn' hs he1 hwf hr hb hQ
theorem reg_sound {C : CallF} (hC : COk P C) {ops : Array Oper} {N id : Nat} {Q : Exit → Act → World → Prop} {is : List Ir} {e e' : Env} {H H' : Heap} {a : Act} {ρ : Rho} (hc : cOpers P ops ops.toList = some is) (hn : SlotsIn N is)
    (hs : runIr P C is e H = some (e', H')) (he : EnvR ρ e a N) (hw : Hw H) (hr : RelH ρ H w) (hQ : ∀ a' w' ρ', EnvR ρ' e' a' N → Adv H.next ρ H w ρ' H' w' → Q .normal a' w') : (Code.region id ops false).wp P Q a w := by
  refine wp_region ?_
  have := seq_sound (Q := Q) hC ops.toList 0 is (ops := ops) (base := H.next) (fun j => by simp) hc hn hs he hw hr (Nat.le_refl _) hQ
  rw [List.range_eq_range', Array.length_toList] at *
  exact this
end
end Go.AM
end TextAmReg
section TextAmDraw
/- AM: regions whose order is drawn. -/
namespace Go.AM
set_option linter.unusedVariables false
set_option linter.unusedSimpArgs false

/-! ### changing the abstract heap where nothing looks -/
theorem RelH.reheap {ρ : Rho} {H G : Heap} {w : World} (h : RelH ρ H w) (hn : H.next ≤ G.next) (hb : ∀ b L, ρ b = some L → G.blk b = H.blk b) : RelH ρ G w :=
  ⟨fun b L hL => by have := h.dom b L hL; omega, fun b L B hL hB => by rw [hb b L hL] at hB; exact h.blk b L B hL hB, fun b1 b2 L1 L2 B1 B2 g1 g2 g3 g4 g5 g6 => by
    rw [hb b1 L1 g1] at g3; rw [hb b2 L2 g2] at g4; exact h.inj b1 b2 L1 L2 B1 B2 g1 g2 g3 g4 g5 g6⟩
theorem Adv.reheap {base : Nat} {ρ ρ' : Rho} {H H' G : Heap} {w w' : World} (a : Adv base ρ H w ρ' H' w') (hn : H.next ≤ G.next) (hd : ∀ b L, ρ' b = some L → b < G.next) (hb : ∀ b, (∃ L, ρ' b = some L) ∨ b < base → G.blk b = H'.blk b) : Adv base ρ H w ρ' G w' :=
  { a with
    rel := ⟨fun b L hL => hd b L hL, fun b L B hL hB => by rw [hb b (.inl ⟨L, hL⟩)] at hB; exact a.rel.blk b L B hL hB, fun b1 b2 L1 L2 B1 B2 g1 g2 g3 g4 g5 g6 => by
      rw [hb b1 (.inl ⟨L1, g1⟩)] at g3; rw [hb b2 (.inl ⟨L2, g2⟩)] at g4; exact a.rel.inj b1 b2 L1 L2 B1 B2 g1 g2 g3 g4 g5 g6⟩
    ghost := fun b hbb h0 => by obtain ⟨p, q⟩ := a.ghost b hbb h0; exact ⟨p, (hb b (.inr hbb)).trans q⟩
    next := hn
    back := fun b L B' hL hB' => by rw [hb b (.inl ⟨L, a.ext b L hL⟩)] at hB'; exact a.back b L B' hL hB' }
theorem Adv.src {base : Nat} {ρ ρ' : Rho} {H H' G : Heap} {w w' : World} (a : Adv base ρ H w ρ' H' w') (hn : G.next ≤ H'.next) (hb : ∀ b, (∃ L, ρ b = some L) ∨ b < base → G.blk b = H.blk b) : Adv base ρ G w ρ' H' w' :=
  { a with
    keep := fun cb hcb hno => a.keep cb hcb fun b L B hL hB hro => hno b L B hL (by rw [hb b (.inl ⟨L, hL⟩)]; exact hB) hro
    ghost := fun b hbb h0 => by obtain ⟨p, q⟩ := a.ghost b hbb h0; exact ⟨p, q.trans (hb b (.inr hbb)).symm⟩
    fresh := fun b L h0 h1 => by
      obtain ⟨p, q⟩ := a.fresh b L h0 h1
      refine ⟨p, q.imp id ?_⟩
      rintro ⟨b0, L0, B0, q1, q2, q3, q4⟩
      exact ⟨b0, L0, B0, q1, (hb b0 (.inl ⟨L0, q1⟩)).trans q2, q3, q4⟩
    next := hn
    back := fun b L B' hL hB' => by
      obtain ⟨B, q1, q2⟩ := a.back b L B' hL hB'
      exact ⟨B, (hb b (.inl ⟨L, hL⟩)).trans q1, q2⟩ }

/-! ### what the check gives -/
def Closed (ops : Array Oper) (S : Nat → Prop) : Prop := ∀ k, S k → ∀ e ∈ edgesAt ops k, S e
/-- Whoever has k's edges has i. -/
def Dep (ops : Array Oper) (k i : Nat) : Prop := ∀ S : Nat → Prop, Closed ops S → (∀ e ∈ edgesAt ops k, S e) → S i
theorem orM_bit {M : Nat → Nat} : ∀ (es : List Nat) {i : Nat}, (orM M es).testBit i = true → ∃ e ∈ es, i = e ∨ (M e).testBit i = true
  | [], i, h => by simp [orM] at h
  | e :: es, i, h => by
    simp only [orM, Nat.testBit_or, Bool.or_eq_true] at h
    rcases h with (h | h) | h
    · refine ⟨e, by simp, .inl ?_⟩
      rw [Nat.testBit_two_pow] at h
      simpa using (of_decide_eq_true h).symm
    · exact ⟨e, by simp, .inr h⟩
    · obtain ⟨e', h1, h2⟩ := orM_bit es h; exact ⟨e', by simp [h1], h2⟩
theorem maskM_sound {ops : Array Oper} : ∀ (ks : List Nat) (M : Nat → Nat), (∀ k i, (M k).testBit i = true → Dep ops k i) → ∀ k i, (maskM ops ks M k).testBit i = true → Dep ops k i
  | [], M, h => h
  | x :: ks, M, h => maskM_sound ks _ fun k i hb => by
    unfold setM at hb
    by_cases e : k = x
    · subst e
      rw [if_pos rfl] at hb
      obtain ⟨e, he, h2⟩ := orM_bit _ hb
      intro S hc hs
      rcases h2 with rfl | h2
      · exact hs _ he
      · exact h e i h2 S hc fun e' he' => hc e (hs e he) e' he'
    · rw [if_neg e] at hb; exact h k i hb
structure Facts (P : Program) (ops : Array Oper) (order : List Nat) (is : List Ir) (ch : List (Nat × Nat)) : Prop where
  len : order.length = ops.size
  ilen : is.length = ops.size
  lt : ∀ (p k : Nat), order[p]? = some k → k < ops.size
  inj : ∀ (p q k : Nat), order[p]? = some k → order[q]? = some k → p = q
  surj : ∀ k, k < ops.size → ∃ p : Nat, order[p]? = some k
  edge : ∀ (p k : Nat), order[p]? = some k → ∀ e ∈ edgesAt ops k, ∃ q : Nat, q < p ∧ order[q]? = some e
  code : ∀ (p k : Nat), order[p]? = some k → ∃ o i, ops[k]? = some o ∧ is[p]? = some i ∧ cOper P ops o = some i
  pair : ∀ (p q op oq : Nat) (i j : Ir), p < q → order[p]? = some op → order[q]? = some oq → is[p]? = some i → is[q]? = some j →
    Dep ops oq op ∨ (i.apart j = true ∧ isEff i.ins = false ∧ (isRd i.ins = true → isEff j.ins = true → (p, q) ∈ ch))
theorem ordOk_facts {ops : Array Oper} : ∀ (ks done : List Nat), ordOk ops done ks = true →
    (∀ (p k : Nat), ks[p]? = some k → k < ops.size ∧ k ∉ done ∧ (∀ q, q < p → ks[q]? ≠ some k) ∧ ∀ e ∈ edgesAt ops k, e ∈ done ∨ ∃ q, q < p ∧ ks[q]? = some e)
  | [], done, _ => fun p k h => by simp at h
  | x :: ks, done, h => by
    simp only [ordOk, Bool.and_eq_true, decide_eq_true_eq, Bool.not_eq_true', List.contains_eq_mem, decide_eq_false_iff_not, List.all_eq_true] at h
    obtain ⟨⟨⟨h1, h2⟩, h3⟩, h4⟩ := h
    have ih := ordOk_facts ks (done ++ [x]) h4
    intro p k hp
    cases p with
    | zero =>
      simp at hp; subst hp
      exact ⟨h1, h2, fun q hq => by omega, fun e he => .inl (by simpa using h3 e he)⟩
    | succ p =>
      obtain ⟨g1, g2, g3, g4⟩ := ih p k (by simpa using hp)
      refine ⟨g1, fun hm => g2 (by simp [hm]), fun q hq => ?_, fun e he => ?_⟩
      · cases q with
        | zero => simp; intro e; subst e; exact g2 (by simp)
        | succ q => simpa using g3 q (by omega)
      · rcases g4 e he with hm | ⟨q, hq, hqe⟩
        · simp only [List.mem_append, List.mem_singleton] at hm
          rcases hm with hm | rfl
          · exact .inl hm
          · exact .inr ⟨0, by omega, rfl⟩
        · exact .inr ⟨q + 1, by omega, by simpa using hqe⟩
theorem pickL_get {is : List Ir} : ∀ (ks : List Nat) {l : List Ir}, pickL is ks = some l → ∀ (p k : Nat), ks[p]? = some k → l[p]? = is[k]? ∧ (is[k]?).isSome
  | [], l, h, p, k, hp => by simp at hp
  | x :: ks, l, h, p, k, hp => by
    simp only [pickL] at h
    split at h
    · rename_i i l' h1 h2; cases h
      cases p with
      | zero => simp at hp; subst hp; simp [h1]
      | succ p => simpa using pickL_get ks h2 p k (by simpa using hp)
    · cases h
theorem cOpers_get {P : Program} {ops : Array Oper} : ∀ (os : List Oper) {is : List Ir}, cOpers P ops os = some is → ∀ (k : Nat), k < os.length → ∃ o i, os[k]? = some o ∧ is[k]? = some i ∧ cOper P ops o = some i
  | [], is, h, k, hk => by simp at hk
  | o :: os, is, h, k, hk => by
    simp only [cOpers] at h
    split at h
    · rename_i i l h1 h2; cases h
      cases k with
      | zero => exact ⟨o, i, rfl, rfl, h1⟩
      | succ k => simpa using cOpers_get os h2 k (by simpa using hk)
    · cases h
theorem facts_of {P : Program} {ops : Array Oper} {order : List Nat} {is0 is : List Ir} {ch : List (Nat × Nat)} (h0 : cOpers P ops ops.toList = some is0) (h1 : pickL is0 order = some is) (h2 : drawOk ops order is ch = true) : Facts P ops order is ch := by
  simp only [drawOk, Bool.and_eq_true, decide_eq_true_eq] at h2
  obtain ⟨⟨⟨⟨l1, l2⟩, l3⟩, l4⟩, l5⟩ := h2
  have of := ordOk_facts order [] l4
  refine ⟨l1, l2, fun p k h => (of p k h).1, fun p q k hp hq => ?_, fun k hk => ?_, fun p k h e he => ?_, fun p k h => ?_, fun p q op oq i j hpq hop hoq hi hj => ?_⟩
  · rcases Nat.lt_trichotomy p q with h | h | h
    · exact absurd hp ((of q k hq).2.2.1 p h)
    · exact h
    · exact absurd hq ((of p k hp).2.2.1 q h)
  · have := List.all_eq_true.1 l3 k (by simpa using hk)
    rw [List.contains_eq_mem] at this
    exact List.mem_iff_getElem?.1 (of_decide_eq_true this)
  · rcases (of p k h).2.2.2 e he with h | h
    · simp at h
    · exact h
  · obtain ⟨g1, g2⟩ := pickL_get order h1 p k h
    obtain ⟨o, i, q1, q2, q3⟩ := cOpers_get ops.toList h0 k (by rw [Array.length_toList]; exact (of p k h).1)
    exact ⟨o, i, by simpa using q1, by rw [g1, q2], q3⟩
  · have hq : q < is.length := (List.getElem?_eq_some_iff.1 hj).1
    have hp := List.all_eq_true.1 (List.all_eq_true.1 l5 q (by simpa using hq)) p (by simpa using hpq)
    simp only [pairOk, hop, hoq, hi, hj, Bool.or_eq_true, Bool.and_eq_true] at hp
    rcases hp with hp | hp
    · exact .inl (maskM_sound order _ (fun k i h => by simp at h) oq op hp)
    · right
      obtain ⟨⟨a1, a2⟩, a3⟩ := hp
      refine ⟨a1, by simpa using a2, fun r1 r2 => ?_⟩
      rcases a3 with a3 | a3
      · simp [r1, r2] at a3
      · rw [List.contains_eq_mem] at a3; exact of_decide_eq_true a3

/-! ### the states of our own order -/
theorem tr_states {P : Program} {C : CallF} : ∀ (is : List Ir) {e : Env} {H : Heap} {tr : List (Env × Heap)}, runTr P C is e H = some tr →
    tr.length = is.length + 1 ∧ tr[0]? = some (e, H) ∧ ∀ (p : Nat) (i : Ir), is[p]? = some i → ∃ s s', tr[p]? = some s ∧ tr[p + 1]? = some s' ∧ stepIr P C i s.1 s.2 = some s'
  | [], e, H, tr, h => by cases h; exact ⟨rfl, rfl, fun p i h => by simp at h⟩
  | x :: is, e, H, tr, h => by
    simp only [runTr] at h
    split at h
    · rename_i e1 H1 hs
      split at h
      · rename_i l hl; cases h
        obtain ⟨g1, g2, g3⟩ := tr_states is hl
        refine ⟨by simp [g1], rfl, fun p i hp => ?_⟩
        cases p with
        | zero => simp at hp; subst hp; exact ⟨(e, H), (e1, H1), rfl, by simpa using g2, hs⟩
        | succ p => obtain ⟨s, s', q1, q2, q3⟩ := g3 p i (by simpa using hp); exact ⟨s, s', by simpa using q1, by simpa using q2, q3⟩
      · cases h
    · cases h

/-! ### reading elsewhere -/
/-- The block that a reader reads. -/
def rdBlk (i : Ins) (e : Env) : Option Nat :=
  match i with
  | .ld x => (match ev e x with | .pointer (some a) => some a.block | _ => none)
  | .ldn _ x => (match ev e x with | .pointer (some a) => some a.block | _ => none)
  | .b2s x => (match ev e x with | .slice (some a) _ _ => some a.block | _ => none)
  | .slv _ x _ _ _ => (match ev e x with | .slice (some a) _ _ => some a.block | _ => none)
  | _ => none
theorem row_agree {H G : Heap} {b : Nat} (h : H.blk b ≠ none → G.blk b = H.blk b) : ∀ (n o : Nat) {u : List Value}, H.row b o n = some u → G.row b o n = some u
  | 0, _, _, hu => hu
  | n + 1, o, u, hu => by
    have hne : H.blk b ≠ none := by
      intro hn
      simp [Heap.row, Heap.cell, hn] at hu
    have e := h hne
    simp only [Heap.row, Heap.cell, e] at hu ⊢
    split at hu
    · rename_i v hv
      split at hu
      · rename_i vs hvs; cases hu; rw [row_agree h n (o + 1) hvs]
      · cases hu
    · cases hu
theorem rd_agree {P : Program} {C D : CallF} {i : Ins} {e : Env} {H G : Heap} {v : Value} {H' : Heap} (h1 : isAl i = false) (h2 : isEff i = false) (hs : step P C i e H = some (v, H')) (hb : ∀ b, rdBlk i e = some b → H.blk b ≠ none → G.blk b = H.blk b) : step P D i e G = some (v, G) := by
  cases i <;> simp [isAl, isEff] at h1 h2 <;> simp only [step] at hs ⊢
  case ld x =>
    split at hs
    · rename_i b o hx
      have := hb b (by simp [rdBlk, hx])
      split at hs
      · rename_i u hu; cases hs
        have hne : H.blk b ≠ none := by intro hn; simp [Heap.cell, hn] at hu
        have hu' : G.cell b o = some v := by simp only [Heap.cell, this hne]; exact hu
        rw [hu']
      · cases hs
    · cases hs
  case ldn n x =>
    split at hs
    · rename_i b o hx
      have := hb b (by simp [rdBlk, hx])
      split at hs
      · rename_i u hu; cases hs; rw [row_agree this _ _ hu]
      · cases hs
    · cases hs
  case b2s x =>
    split at hs
    · cases hs; rfl
    · rename_i b o n c hx
      have := hb b (by simp [rdBlk, hx])
      split at hs
      · rename_i u hu
        rw [row_agree this _ _ hu]
        simp only at hs ⊢
        split at hs
        · rename_i l hl; cases hs; rfl
        · cases hs
      · cases hs
    · cases hs
  case slv esz x lo hi mx =>
    split at hs
    case h_2 => cases hs
    rename_i u hu
    cases hs
    have : slvV G esz (ev e x) (lo.map (ev e)) (hi.map (ev e)) (mx.map (ev e)) = some v := by
      have hb' : ∀ b o n c, ev e x = .slice (some ⟨b, o, none⟩) n c → H.eszIs b esz = true → G.eszIs b esz = true := by
        intro b o n c hx he
        have hne : H.blk b ≠ none := by intro hn; simp [Heap.eszIs, hn] at he
        have := hb b (by simp [rdBlk, hx]) hne
        simp only [Heap.eszIs, this]; exact he
      revert hu hb'
      generalize ev e x = xv
      intro hu hb'
      unfold slvV at hu ⊢
      cases xv <;> try (cases hu; done)
      rename_i a n c
      simp only at hu ⊢
      cases h1 : bound (c / 2) (mx.map (ev e)) with
      | none => rw [h1] at hu; cases hu
      | some m =>
        rw [h1] at hu
        simp only at hu ⊢
        cases h2 : bound n (hi.map (ev e)) with
        | none => rw [h2] at hu; cases hu
        | some hv =>
          rw [h2] at hu
          simp only at hu ⊢
          cases h3 : bound 0 (lo.map (ev e)) with
          | none => rw [h3] at hu; cases hu
          | some l =>
            rw [h3] at hu
            simp only at hu ⊢
            split at hu
            case isFalse => cases hu
            rename_i hc
            rw [if_pos hc]
            cases a with
            | none => exact hu
            | some ad =>
              obtain ⟨b, o, sp⟩ := ad
              cases sp with
              | some sp => cases hu
              | none =>
                simp only at hu ⊢
                split at hu
                case isFalse => cases hu
                rename_i hz
                have hz' : (l == 0 || G.eszIs b esz) = true := by
                  simp only [Bool.or_eq_true] at hz ⊢
                  exact hz.imp id (hb' b o n c rfl)
                rw [if_pos hz']; exact hu
    rw [this]
  all_goals first
    | (cases hs; rfl; done)
    | (repeat' split at hs
       all_goals first | (cases hs; simp [*]; done) | (cases hs; done))
end Go.AM
end TextAmDraw
section TextAmDraw2
/- AM: regions whose order is drawn: whatever the order, the states of our own order come out. -/
namespace Go.AM
set_option linter.unusedVariables false
set_option linter.unusedSimpArgs false

/-- What stays fixed while a region runs. -/
structure Ctx where
  P : Program
  C : CallF
  ops : Array Oper
  order : List Nat
  is : List Ir
  ch : List (Nat × Nat)
  N : Nat
  E : Nat → Env
  Hp : Nat → Heap
  ρ0 : Rho
  w0 : World
structure Good (X : Ctx) : Prop where
  ok : COk X.P X.C
  facts : Facts X.P X.ops X.order X.is X.ch
  slots : SlotsIn X.N X.is
  tr : ∀ (p : Nat) (i : Ir), X.is[p]? = some i → stepIr X.P X.C i (X.E p) (X.Hp p) = some (X.E (p + 1), X.Hp (p + 1))
  chk : ∀ p q, (p, q) ∈ X.ch → ∀ i, X.is[p]? = some i → wanted i (X.E p) = true → (step X.P (fun _ _ _ => none) i.ins (X.E p) (X.Hp (q + 1))).map Prod.fst = (step X.P (fun _ _ _ => none) i.ins (X.E p) (X.Hp p)).map Prod.fst
  hw : Hw (X.Hp 0)
section
variable {X : Ctx}
def Ctx.n (X : Ctx) : Nat := X.ops.size
def Ctx.L (X : Ctx) (listed : Array Bool) (p : Nat) : Prop := ∃ k, X.order[p]? = some k ∧ listed.getD k false = true
def Ctx.Al (X : Ctx) (p : Nat) : Prop := ∃ i, X.is[p]? = some i ∧ isAl i.ins = true ∧ wanted i (X.E p) = true
def Ctx.idn (X : Ctx) (p : Nat) : Nat := (X.Hp p).next
theorem Good.is_lt (g : Good X) {p : Nat} (h : p < X.n) : ∃ i, X.is[p]? = some i := ⟨_, List.getElem?_eq_getElem (by rw [g.facts.ilen]; exact h)⟩
theorem Good.lt_is (g : Good X) {p : Nat} {i : Ir} (h : X.is[p]? = some i) : p < X.n := by have := (List.getElem?_eq_some_iff.1 h).1; rw [g.facts.ilen] at this; exact this
theorem Good.order_lt (g : Good X) {p : Nat} (h : p < X.n) : ∃ k, X.order[p]? = some k := ⟨_, List.getElem?_eq_getElem (by rw [g.facts.len]; exact h)⟩
theorem Good.hwp (g : Good X) : ∀ p, p ≤ X.n → Hw (X.Hp p)
  | 0, _ => g.hw
  | p + 1, h => by
    obtain ⟨i, hi⟩ := g.is_lt (show p < X.n by omega)
    exact (stepIr_next g.ok.next (g.tr p i hi) (g.hwp p (by omega))).1
theorem Good.next1 (g : Good X) {p : Nat} (h : p < X.n) : (X.Hp p).next ≤ (X.Hp (p + 1)).next := by
  obtain ⟨i, hi⟩ := g.is_lt h
  exact (stepIr_next g.ok.next (g.tr p i hi) (g.hwp p (by omega))).2
theorem Good.next_le (g : Good X) {p q : Nat} (hpq : p ≤ q) (hq : q ≤ X.n) : (X.Hp p).next ≤ (X.Hp q).next := by
  induction q with
  | zero => obtain rfl : p = 0 := by omega
            exact Nat.le_refl _
  | succ q ih =>
    rcases Nat.lt_or_ge p (q + 1) with h | h
    · exact Nat.le_trans (ih (by omega) (by omega)) (g.next1 (by omega))
    · obtain rfl : p = q + 1 := by omega
      exact Nat.le_refl _
theorem Good.al (g : Good X) {p : Nat} (h : X.Al p) : ∃ i f B, X.is[p]? = some i ∧ wanted i (X.E p) = true ∧ isAl i.ins = true ∧ alc i.ins (X.E p) = some (f, B) ∧ X.Hp (p + 1) = (X.Hp p).add B ∧ X.E (p + 1) = put i.dst (f (X.Hp p).next) (X.E p) := by
  obtain ⟨i, hi, h1, h2⟩ := h
  have ht := g.tr p i hi
  unfold stepIr at ht
  rw [if_pos h2] at ht
  split at ht
  · rename_i v H' hs
    obtain ⟨f, B, q1, rfl, rfl⟩ := step_alc h1 hs
    have h3 : put i.dst (f (X.Hp p).next) (X.E p) = X.E (p + 1) ∧ (X.Hp p).add B = X.Hp (p + 1) := by simpa using ht
    exact ⟨i, f, B, hi, h2, h1, q1, h3.2.symm, h3.1.symm⟩
  · cases ht
theorem Good.al_next (g : Good X) {p : Nat} (h : X.Al p) : (X.Hp (p + 1)).next = (X.Hp p).next + 1 := by
  obtain ⟨i, f, B, _, _, _, _, h1, _⟩ := g.al h
  rw [h1]; rfl
theorem Good.al_lt (g : Good X) {p : Nat} (h : X.Al p) : p < X.n := by obtain ⟨i, hi, _⟩ := h; exact g.lt_is hi
theorem Good.idn_lt (g : Good X) {p q : Nat} (h : X.Al p) (hpq : p < q) (hq : q ≤ X.n) : X.idn p < (X.Hp q).next := by
  have := g.al_next h
  have := g.next_le (show p + 1 ≤ q by omega) hq
  show (X.Hp p).next < _
  omega
theorem Good.idn_inj (g : Good X) {p q : Nat} (hp : X.Al p) (hq : X.Al q) (h : X.idn p = X.idn q) : p = q := by
  rcases Nat.lt_trichotomy p q with hl | hl | hl
  · have := g.idn_lt hp hl (Nat.le_of_lt (g.al_lt hq)); unfold Ctx.idn at h this; omega
  · exact hl
  · have := g.idn_lt hq hl (Nat.le_of_lt (g.al_lt hp)); unfold Ctx.idn at h this; omega
/-- A step that is neither an effect nor a making. -/
theorem Good.still (g : Good X) {p : Nat} (hp : p < X.n) (h : ∀ i, X.is[p]? = some i → wanted i (X.E p) = true → isEff i.ins = false ∧ isAl i.ins = false) : X.Hp (p + 1) = X.Hp p := by
  obtain ⟨i, hi⟩ := g.is_lt hp
  have ht := g.tr p i hi
  unfold stepIr at ht
  by_cases hw : wanted i (X.E p) = true
  · rw [if_pos hw] at ht
    obtain ⟨h1, h2⟩ := h i hi hw
    split at ht
    · rename_i v H' hs
      obtain rfl := step_same h2 h1 hs
      have h3 : put i.dst v (X.E p) = X.E (p + 1) ∧ X.Hp p = X.Hp (p + 1) := by simpa using ht
      exact h3.2.symm
    · cases ht
  · rw [if_neg hw] at ht
    have h3 : put i.dst undef (X.E p) = X.E (p + 1) ∧ X.Hp p = X.Hp (p + 1) := by simpa using ht
    exact h3.2.symm
def Ctx.NoEff (X : Ctx) (r m : Nat) : Prop := ∀ q, r ≤ q → q < m → ∀ i, X.is[q]? = some i → isEff i.ins = false
theorem Good.keep1 (g : Good X) {p : Nat} (hp : p < X.n) (h : ∀ i, X.is[p]? = some i → isEff i.ins = false) : ∀ b, b < (X.Hp p).next → (X.Hp (p + 1)).blk b = (X.Hp p).blk b := by
  intro b hb
  by_cases ha : X.Al p
  · obtain ⟨i, f, B, _, _, _, _, h1, _⟩ := g.al ha
    rw [h1]; simp only [Heap.add]; rw [if_neg (by omega)]
  · rw [g.still hp fun i hi hw => ⟨h i hi, by
      cases hx : isAl i.ins
      · rfl
      · exact absurd ⟨i, hi, hx, hw⟩ ha⟩]
theorem Good.keep (g : Good X) {r m : Nat} (hrm : r ≤ m) (hm : m ≤ X.n) (h : X.NoEff r m) : ∀ b, b < (X.Hp r).next → (X.Hp m).blk b = (X.Hp r).blk b := by
  induction m with
  | zero => obtain rfl : r = 0 := by omega
            intro b _; rfl
  | succ m ih =>
    rcases Nat.lt_or_ge r (m + 1) with hl | hl
    · intro b hb
      rw [g.keep1 (show m < X.n by omega) (fun i hi => h m (by omega) (by omega) i hi) b (by have := g.next_le (show r ≤ m by omega) (by omega); omega)]
      exact ih (by omega) (by omega) (fun q h1 h2 => h q h1 (by omega)) b hb
    · obtain rfl : r = m + 1 := by omega
      intro b _; rfl

/-- The state of affairs while the region runs in whatever order. -/
structure Inv (X : Ctx) (listed : Array Bool) (m : Nat) (ρ : Rho) (G : Heap) (Y : Env) (a : Act) (w : World) : Prop where
  size : listed.size = X.n
  closed : Closed X.ops fun k => listed.getD k false = true
  mle : m ≤ X.n
  eff : ∀ p i, X.is[p]? = some i → isEff i.ins = true → (X.L listed p ↔ p < m)
  env : EnvR ρ Y a X.N
  xval : ∀ t p, p ≤ X.n → (∀ q i, X.is[q]? = some i → i.dst = some t → (X.L listed q ↔ q < p)) → Y t = X.E p t
  gnext : G.next = (X.Hp X.n).next
  g1 : ∀ b, b < (X.Hp m).next → G.blk b = (X.Hp m).blk b
  g2 : ∀ p, m ≤ p → X.L listed p → X.Al p → G.blk (X.idn p) = (X.Hp (p + 1)).blk (X.idn p)
  dom : ∀ b Lc, ρ b = some Lc → b < (X.Hp m).next ∨ ∃ p, m ≤ p ∧ X.L listed p ∧ X.Al p ∧ b = X.idn p
  ghost : ∀ p, X.Al p → ¬ X.L listed p → ρ (X.idn p) = none ∧ (p < m → (X.Hp m).blk (X.idn p) = (X.Hp (p + 1)).blk (X.idn p))
  adv : Adv (X.Hp 0).next X.ρ0 (X.Hp 0) X.w0 ρ G w
/-- The mark may move over what is no effect. -/
theorem Inv.move (g : Good X) {listed : Array Bool} {m j : Nat} {ρ : Rho} {G : Heap} {Y : Env} {a : Act} {w : World} (v : Inv X listed m ρ G Y a w) (hmj : m ≤ j) (hj : j ≤ X.n) (hno : X.NoEff m j) : ∃ G', Inv X listed j ρ G' Y a w := by
  have hk := g.keep hmj hj hno
  have hnx := g.next_le hmj hj
  let G' : Heap := { next := G.next, blk := fun b => if b < (X.Hp j).next then (X.Hp j).blk b else G.blk b }
  have hsame : ∀ b, (∃ L, ρ b = some L) ∨ b < (X.Hp 0).next → G'.blk b = G.blk b := by
    intro b hb
    show (if b < (X.Hp j).next then (X.Hp j).blk b else G.blk b) = G.blk b
    by_cases hlt : b < (X.Hp j).next
    · rw [if_pos hlt]
      have hlow : b < (X.Hp m).next → (X.Hp j).blk b = G.blk b := fun h => by rw [hk b h, v.g1 b h]
      rcases hb with ⟨L, hL⟩ | hb
      · rcases v.dom b L hL with h | ⟨p, p1, p2, p3, rfl⟩
        · exact hlow h
        · have hpj : p < j := by
            rcases Nat.lt_or_ge p j with h | h
            · exact h
            · have := g.next_le h (Nat.le_of_lt (g.al_lt p3)); unfold Ctx.idn at hlt; omega
          rw [v.g2 p p1 p2 p3]
          exact g.keep (show p + 1 ≤ j by omega) hj (fun q h1 h2 => hno q (by omega) h2) _ (by have := g.al_next p3; unfold Ctx.idn; omega)
      · exact hlow (by have := g.next_le (Nat.zero_le m) v.mle; omega)
    · rw [if_neg hlt]
  refine ⟨G', v.size, v.closed, hj, ?_, v.env, v.xval, v.gnext, ?_, ?_, ?_, ?_, ?_⟩
  · intro p i hi he
    rw [v.eff p i hi he]
    constructor
    · intro h; omega
    · intro h
      rcases Nat.lt_or_ge p m with h1 | h1
      · exact h1
      · have := hno p h1 h i hi; rw [he] at this; cases this
  · intro b hb
    show (if b < (X.Hp j).next then (X.Hp j).blk b else G.blk b) = _
    rw [if_pos hb]
  · intro p hp hl ha
    show (if X.idn p < (X.Hp j).next then (X.Hp j).blk (X.idn p) else G.blk (X.idn p)) = _
    rw [if_neg (by have := g.next_le hp (Nat.le_of_lt (g.al_lt ha)); unfold Ctx.idn; omega)]
    exact v.g2 p (by omega) hl ha
  · intro b L hL
    rcases v.dom b L hL with h | ⟨p, p1, p2, p3, p4⟩
    · exact .inl (by omega)
    · rcases Nat.lt_or_ge p j with h | h
      · left; rw [p4]; exact g.idn_lt p3 h hj
      · exact .inr ⟨p, h, p2, p3, p4⟩
  · intro p ha hl
    obtain ⟨q1, q2⟩ := v.ghost p ha hl
    refine ⟨q1, fun hp => ?_⟩
    rcases Nat.lt_or_ge p m with h | h
    · rw [hk _ (g.idn_lt ha h v.mle)]; exact q2 h
    · exact g.keep (show p + 1 ≤ j by omega) hj (fun q h1 h2 => hno q (by omega) h2) _ (by have := g.al_next ha; unfold Ctx.idn; omega)
  · exact v.adv.reheap (G := G') (by have := v.adv.next; exact this) (fun b L hL => v.adv.rel.dom b L hL) hsame
/-- Dependence, seen from the positions. -/
theorem Good.dep (g : Good X) {listed : Array Bool} (hc : Closed X.ops fun k => listed.getD k false = true) {p q op oq : Nat} (hop : X.order[p]? = some op) (hoq : X.order[q]? = some oq) (hd : Dep X.ops oq op) (hl : ∀ e ∈ edgesAt X.ops oq, listed.getD e false = true) : X.L listed p :=
  ⟨op, hop, hd _ hc hl⟩
theorem L_set {listed : Array Bool} (g : Good X) (hs : listed.size = X.n) {j k p : Nat} (hk : X.order[j]? = some k) : X.L (listed.setIfInBounds k true) p ↔ X.L listed p ∨ p = j := by
  have hkn : k < listed.size := by rw [hs]; exact g.facts.lt j k hk
  constructor
  · rintro ⟨k', h1, h2⟩
    by_cases e : k' = k
    · subst e; exact .inr (g.facts.inj p j k' h1 hk)
    · left; refine ⟨k', h1, ?_⟩
      rw [Array.getD_eq_getD_getElem?, Array.getElem?_setIfInBounds_ne (by omega)] at h2
      rw [Array.getD_eq_getD_getElem?]; exact h2
  · rintro (⟨k', h1, h2⟩ | rfl)
    · refine ⟨k', h1, ?_⟩
      rw [Array.getD_eq_getD_getElem?] at h2 ⊢
      by_cases e : k' = k
      · subst e; simp [Array.getElem?_setIfInBounds_self_of_lt hkn]
      · rw [Array.getElem?_setIfInBounds_ne (by omega)]; exact h2
    · exact ⟨k, hk, by simp [Array.getD_eq_getD_getElem?, Array.getElem?_setIfInBounds_self_of_lt hkn]⟩
/-- Two that share a slot (one writes it) stand in an order. -/
theorem apart_no {i j : Ir} (h : i.apart j = true) {t : Nat} : (i.dst = some t → t ∈ j.looks → False) ∧ (i.dst = some t → j.dst = some t → False) ∧ (j.dst = some t → t ∈ i.looks → False) := by
  unfold Ir.apart at h
  simp only [Bool.and_eq_true] at h
  obtain ⟨h1, h2⟩ := h
  refine ⟨fun e hm => ?_, fun e e2 => ?_, fun e hm => ?_⟩
  · rw [e] at h1; simp at h1; exact h1.1 hm
  · rw [e] at h1; simp at h1; exact h1.2 e2
  · rw [e] at h2; simp at h2; exact h2 hm
structure Ready (X : Ctx) (listed : Array Bool) (k j : Nat) (o : Oper) (i : Ir) : Prop where
  pos : X.order[j]? = some k
  op : X.ops[k]? = some o
  ir : X.is[j]? = some i
  code : cOper X.P X.ops o = some i
  free : ¬ X.L listed j
  edges : ∀ e ∈ edgesAt X.ops k, listed.getD e false = true
/-- What a ready one looks at is what it looked at in our own order. -/
theorem Inv.look (g : Good X) {listed : Array Bool} {m : Nat} {ρ : Rho} {G : Heap} {Y : Env} {a : Act} {w : World} (v : Inv X listed m ρ G Y a w) {k j : Nat} {o : Oper} {i : Ir} (r : Ready X listed k j o i) : ∀ t ∈ i.looks, Y t = X.E j t := by
  intro t ht
  refine v.xval t j (Nat.le_of_lt (g.lt_is r.ir)) fun q iq hq hdq => ?_
  obtain ⟨oq, hoq⟩ := g.order_lt (g.lt_is hq)
  rcases Nat.lt_trichotomy q j with h | h | h
  · refine ⟨fun _ => h, fun _ => ?_⟩
    rcases g.facts.pair q j oq k iq i h hoq r.pos hq r.ir with hd | ⟨ha, _⟩
    · exact g.dep v.closed hoq r.pos hd r.edges
    · exact ((apart_no ha).1 hdq ht).elim
  · subst h; exact ⟨fun hl => absurd hl r.free, fun h => by omega⟩
  · refine ⟨fun hl => ?_, fun h' => by omega⟩
    exfalso
    rcases g.facts.pair j q k oq i iq h r.pos hoq r.ir hq with hd | ⟨ha, _⟩
    · obtain ⟨oq', h1, h2⟩ := hl
      rw [hoq] at h1; cases h1
      exact r.free (g.dep v.closed r.pos hoq hd fun e he => v.closed oq h2 e he)
    · exact (apart_no ha).2.2 hdq ht
theorem E_const (g : Good X) {t r p : Nat} (hrp : r ≤ p) (hp : p ≤ X.n) (h : ∀ q i, r ≤ q → q < p → X.is[q]? = some i → i.dst ≠ some t) : X.E p t = X.E r t := by
  induction p with
  | zero => obtain rfl : r = 0 := by omega
            rfl
  | succ p ih =>
    rcases Nat.lt_or_ge r (p + 1) with hl | hl
    · rw [← ih (by omega) (by omega) fun q i h1 h2 => h q i h1 (by omega)]
      obtain ⟨i, hi⟩ := g.is_lt (show p < X.n by omega)
      have hd := h p i (by omega) (by omega) hi
      have ht := g.tr p i hi
      have hput : ∀ (x : Value) (e : Env), put i.dst x e t = e t := fun x e => by
        cases hdd : i.dst with
        | none => rfl
        | some d => simp only [put, upd]; rw [if_neg (fun e => hd (by rw [hdd, e]))]
      unfold stepIr at ht
      split at ht
      · split at ht
        · rename_i x H' hs
          have h3 : put i.dst x (X.E p) = X.E (p + 1) ∧ H' = X.Hp (p + 1) := by simpa using ht
          rw [← h3.1, hput]
        · cases ht
      · have h3 : put i.dst undef (X.E p) = X.E (p + 1) ∧ X.Hp p = X.Hp (p + 1) := by simpa using ht
        rw [← h3.1, hput]
    · obtain rfl : r = p + 1 := by omega
      rfl
/-- The slots after a ready one has run. -/
theorem Inv.xval' (g : Good X) {listed : Array Bool} {m : Nat} {ρ : Rho} {G : Heap} {Y : Env} {a : Act} {w : World} (v : Inv X listed m ρ G Y a w) {k j : Nat} {o : Oper} {i : Ir} (r : Ready X listed k j o i) {x : Value} (hx : X.E (j + 1) = put i.dst x (X.E j)) :
    ∀ t p, p ≤ X.n → (∀ q iq, X.is[q]? = some iq → iq.dst = some t → (X.L (listed.setIfInBounds k true) q ↔ q < p)) → put i.dst x Y t = X.E p t := by
  intro t p hp hq
  by_cases hd : i.dst = some t
  · have hjp : j < p := (hq j i r.ir hd).1 ((L_set g v.size r.pos).2 (.inr rfl))
    have h1 : put i.dst x Y t = x := by rw [hd]; simp [put, upd]
    have h2 : X.E (j + 1) t = x := by rw [hx, hd]; simp [put, upd]
    rw [h1, ← h2]
    refine (E_const g (by omega) hp fun q iq q1 q2 hiq hdq => ?_).symm
    have hl := (L_set g v.size r.pos).1 ((hq q iq hiq hdq).2 q2)
    rcases hl with hl | hl
    · obtain ⟨oq, hoq, hlq⟩ := hl
      rcases g.facts.pair j q k oq i iq (by omega) r.pos hoq r.ir hiq with hdd | ⟨ha, _⟩
      · exact r.free (g.dep v.closed r.pos hoq hdd fun e he => v.closed oq hlq e he)
      · exact (apart_no ha).2.1 hd hdq
    · omega
  · have h1 : put i.dst x Y t = Y t := by
      cases hdd : i.dst with
      | none => rfl
      | some d => simp only [put, upd]; rw [if_neg (fun e => hd (by rw [hdd, e]))]
    rw [h1]
    refine v.xval t p hp fun q iq hiq hdq => ?_
    rw [← hq q iq hiq hdq, L_set g v.size r.pos]
    constructor
    · intro h; exact .inl h
    · rintro (h | rfl)
      · exact h
      · rw [r.ir] at hiq; cases hiq; exact absurd hdq hd
theorem closed_set {listed : Array Bool} (hs : listed.size = X.n) (hc : Closed X.ops fun k => listed.getD k false = true) {k : Nat} (hk : k < X.n) (he : ∀ e ∈ edgesAt X.ops k, listed.getD e false = true) : Closed X.ops fun j => (listed.setIfInBounds k true).getD j false = true := by
  have up : ∀ e, listed.getD e false = true → (listed.setIfInBounds k true).getD e false = true := fun e h => by
    rw [Array.getD_eq_getD_getElem?] at h ⊢
    by_cases e1 : e = k
    · subst e1; simp [Array.getElem?_setIfInBounds_self_of_lt (show e < listed.size by omega)]
    · rw [Array.getElem?_setIfInBounds_ne (by omega)]; exact h
  intro j hj e hje
  by_cases e1 : j = k
  · subst e1; exact up e (he e hje)
  · have : listed.getD j false = true := by
      have hj' : (listed.setIfInBounds k true).getD j false = true := hj
      rw [Array.getD_eq_getD_getElem?, Array.getElem?_setIfInBounds_ne (by omega)] at hj'
      rw [Array.getD_eq_getD_getElem?]; exact hj'
    exact up e (hc j this e hje)
/-- A step that changes neither heap nor blocks. -/
theorem Inv.still (g : Good X) {listed : Array Bool} {m : Nat} {ρ : Rho} {G : Heap} {Y : Env} {a : Act} {w : World} (v : Inv X listed m ρ G Y a w) {k j : Nat} {o : Oper} {i : Ir} (r : Ready X listed k j o i) {x x' : Value} (hx : X.E (j + 1) = put i.dst x (X.E j)) (hv : V3 ρ x x')
    (hna : ¬ X.Al j) (he : isEff i.ins = false) : Inv X (listed.setIfInBounds k true) m ρ G (put i.dst x Y) (a.put i.dst x') w := by
  have hL := fun p => L_set (p := p) g v.size r.pos
  refine ⟨by simp [v.size], closed_set v.size v.closed (g.facts.lt j k r.pos) r.edges, v.mle, ?_, v.env.put hv (g.slots i (List.mem_of_getElem? r.ir)), v.xval' g r hx, v.gnext, v.g1, ?_, ?_, ?_, v.adv⟩
  · intro p ip hp hep
    rw [hL, ← v.eff p ip hp hep]
    constructor
    · rintro (h | rfl)
      · exact h
      · rw [r.ir] at hp; cases hp; rw [he] at hep; cases hep
    · exact .inl
  · intro p h1 h2 h3
    rcases (hL p).1 h2 with h | rfl
    · exact v.g2 p h1 h h3
    · exact absurd h3 hna
  · intro b L hL'
    rcases v.dom b L hL' with h | ⟨p, p1, p2, p3, p4⟩
    · exact .inl h
    · exact .inr ⟨p, p1, (hL p).2 (.inl p2), p3, p4⟩
  · intro p h1 h2
    exact v.ghost p h1 fun h => h2 ((hL p).2 (.inl h))
/-- A step that makes a block. -/
theorem Inv.made (g : Good X) {listed : Array Bool} {m : Nat} {ρ : Rho} {G : Heap} {Y : Env} {a : Act} {w w' : World} (v : Inv X listed m ρ G Y a w) {k j : Nat} {o : Oper} {i : Ir} (r : Ready X listed k j o i) {f : Nat → Value} {B : Blk} (ha : X.Al j)
    (hx : X.E (j + 1) = put i.dst (f (X.idn j)) (X.E j)) (hH : X.Hp (j + 1) = (X.Hp j).add B) {s : Sem Next} {v' : Value} {L : Loc} {c : Array Value} {t : TypeId} {fr : Nat × Nat} (hro : B.ro = false) (md : Made X.P w ρ s f B v' w' L c t fr) :
    ∃ ρ' G', Inv X (listed.setIfInBounds k true) m ρ' G' (put i.dst (f (X.idn j)) Y) (a.put i.dst v') w' := by
  have hL := fun p => L_set (p := p) g v.size r.pos
  obtain ⟨hfree, hgh⟩ := v.ghost j ha r.free
  have hjn := g.al_lt ha
  have hbase : (X.Hp 0).next ≤ X.idn j := g.next_le (Nat.zero_le j) (Nat.le_of_lt hjn)
  have hidn : X.idn j < (X.Hp X.n).next := g.idn_lt ha hjn (Nat.le_refl _)
  let G' : Heap := { next := G.next, blk := fun b => if b = X.idn j then some B else G.blk b }
  have hB : (X.Hp (j + 1)).blk (X.idn j) = some B := by rw [hH]; simp [Heap.add, Ctx.idn]
  have adv : Adv (X.Hp 0).next ρ G w (rset ρ (X.idn j) L) G' w' :=
    Adv.alloc (H' := G') v.adv.rel (X.idn j) hfree hbase (by show X.idn j < G.next; rw [v.gnext]; exact hidn) (Nat.le_refl _) B (by simp [G']) (fun b hb => by simp [G', hb]) L c t fr md.heap md.blk md.size md.esz md.fr md.cells md.os md.tape md.output
  have heff : isEff i.ins = false := by
    obtain ⟨i', hi', h1, _⟩ := ha
    rw [r.ir] at hi'; cases hi'
    cases hii : i.ins <;> rw [hii] at h1 <;> simp [isAl] at h1 <;> rfl
  refine ⟨rset ρ (X.idn j) L, G', by simp [v.size], closed_set v.size v.closed (g.facts.lt j k r.pos) r.edges, v.mle, ?_, (v.env.mono adv.ext).put (md.val _ _ (by simp [rset])) (g.slots i (List.mem_of_getElem? r.ir)), v.xval' g r hx, v.gnext, ?_, ?_, ?_, ?_, v.adv.trans adv⟩
  · intro p ip hp hep
    rw [hL, ← v.eff p ip hp hep]
    constructor
    · rintro (h | rfl)
      · exact h
      · rw [r.ir] at hp; cases hp; rw [heff] at hep; cases hep
    · exact .inl
  · intro b hb
    show (if b = X.idn j then some B else G.blk b) = _
    by_cases e : b = X.idn j
    · rw [if_pos e, e, hgh ?_, hB]
      rcases Nat.lt_or_ge j m with h | h
      · exact h
      · have := g.next_le h (Nat.le_of_lt hjn); rw [e] at hb; unfold Ctx.idn at hb; omega
    · rw [if_neg e]; exact v.g1 b hb
  · intro p h1 h2 h3
    show (if X.idn p = X.idn j then some B else G.blk (X.idn p)) = _
    by_cases e : X.idn p = X.idn j
    · obtain rfl := g.idn_inj h3 ha e
      rw [if_pos rfl, hB]
    · rw [if_neg e]
      rcases (hL p).1 h2 with h | rfl
      · exact v.g2 p h1 h h3
      · exact absurd rfl e
  · intro b M hM
    unfold rset at hM
    by_cases e : b = X.idn j
    · rcases Nat.lt_or_ge j m with h | h
      · left; rw [e]; exact g.idn_lt ha h v.mle
      · exact .inr ⟨j, h, (hL j).2 (.inr rfl), ha, e⟩
    · rw [if_neg e] at hM
      rcases v.dom b M hM with h | ⟨p, p1, p2, p3, p4⟩
      · exact .inl h
      · exact .inr ⟨p, p1, (hL p).2 (.inl p2), p3, p4⟩
  · intro p h1 h2
    have hnj : p ≠ j := fun e => h2 ((hL p).2 (.inr e))
    have hne : X.idn p ≠ X.idn j := fun e => hnj (g.idn_inj h1 ha e)
    obtain ⟨q1, q2⟩ := v.ghost p h1 fun h => h2 ((hL p).2 (.inl h))
    exact ⟨by unfold rset; rw [if_neg hne]; exact q1, q2⟩
/-- An effect: all that stands behind it in our order waits for it. -/
theorem Inv.effect (g : Good X) {listed : Array Bool} {ρ ρ' : Rho} {G : Heap} {Y : Env} {a : Act} {w w' : World} {k j : Nat} (v : Inv X listed j ρ G Y a w) {o : Oper} {i : Ir} (r : Ready X listed k j o i) {x x' : Value} (hx : X.E (j + 1) = put i.dst x (X.E j)) (he : isEff i.ins = true)
    (hv : V3 ρ' x x') (adv : Adv (X.Hp j).next ρ (X.Hp j) w ρ' (X.Hp (j + 1)) w') : ∃ G', Inv X (listed.setIfInBounds k true) (j + 1) ρ' G' (put i.dst x Y) (a.put i.dst x') w' := by
  have hL := fun p => L_set (p := p) g v.size r.pos
  have hjn := g.lt_is r.ir
  have hna : ¬ X.Al j := fun ⟨i', hi', h1, _⟩ => by
    rw [r.ir] at hi'; cases hi'
    cases hii : i.ins <;> rw [hii] at h1 he <;> simp [isAl, isEff] at h1 he
  -- nothing behind it is listed
  have later : ∀ p, j < p → ¬ X.L listed p := fun p hp hl => by
    obtain ⟨op, hop, hlp⟩ := hl
    have hpn : p < X.n := by have := (List.getElem?_eq_some_iff.1 hop).1; rw [g.facts.len] at this; exact this
    obtain ⟨ip, hip⟩ := g.is_lt hpn
    rcases g.facts.pair j p k op i ip hp r.pos hop r.ir hip with hd | ⟨_, h2, _⟩
    · exact r.free (g.dep v.closed r.pos hop hd fun e he => v.closed op hlp e he)
    · rw [he] at h2; cases h2
  have hdom : ∀ b L, ρ b = some L → b < (X.Hp j).next := fun b L hL' => by
    rcases v.dom b L hL' with h | ⟨p, p1, p2, p3, p4⟩
    · exact h
    · rcases Nat.lt_or_ge j p with h | h
      · exact absurd p2 (later p h)
      · obtain rfl : p = j := by omega
        exact absurd p3 hna
  have hle := g.next_le (Nat.zero_le j) (Nat.le_of_lt hjn)
  let G' : Heap := { next := (X.Hp X.n).next, blk := (X.Hp (j + 1)).blk }
  have hn1 := g.next_le (show j + 1 ≤ X.n by omega) (Nat.le_refl _)
  have a1 : Adv (X.Hp 0).next ρ (X.Hp j) w ρ' G' w' := (adv.base hle).reheap (G := G') (by have := g.next1 hjn; show _ ≤ (X.Hp X.n).next; omega) (fun b L h => by have := adv.rel.dom b L h; show b < (X.Hp X.n).next; omega) (fun b _ => rfl)
  have a2 : Adv (X.Hp 0).next ρ G w ρ' G' w' := a1.src (by rw [v.gnext]; exact Nat.le_refl _) fun b hb => v.g1 b (by
    rcases hb with ⟨L, h⟩ | h
    · exact hdom b L h
    · omega)
  refine ⟨G', by simp [v.size], closed_set v.size v.closed (g.facts.lt j k r.pos) r.edges, by omega, ?_, (v.env.mono adv.ext).put hv (g.slots i (List.mem_of_getElem? r.ir)), v.xval' g r hx, rfl, fun b _ => rfl, ?_, ?_, ?_, v.adv.trans a2⟩
  · intro p ip hp hep
    rw [hL, v.eff p ip hp hep]
    constructor
    · rintro (h | rfl) <;> omega
    · intro h; omega
  · intro p h1 h2 h3
    rcases (hL p).1 h2 with h | rfl
    · exact absurd h (later p (by omega))
    · omega
  · intro b L hL'
    exact .inl (adv.rel.dom b L hL')
  · intro p h1 h2
    have hnj : p ≠ j := fun e => h2 ((hL p).2 (.inr e))
    obtain ⟨q1, q2⟩ := v.ghost p h1 fun h => h2 ((hL p).2 (.inl h))
    rcases Nat.lt_or_ge p j with h | h
    · obtain ⟨s1, s2⟩ := adv.ghost (X.idn p) (g.idn_lt h1 h (Nat.le_of_lt hjn)) q1
      exact ⟨s1, fun _ => s2.trans (q2 h)⟩
    · have hpj : j < p := by omega
      refine ⟨?_, fun h' => by omega⟩
      cases hr : ρ' (X.idn p) with
      | none => rfl
      | some L =>
        have := adv.rel.dom _ L hr
        have h5 := g.next_le (show j + 1 ≤ p by omega) (Nat.le_of_lt (g.al_lt h1))
        unfold Ctx.idn at this; omega
/-- A reader reads where things stand what it read in our own order. -/
theorem Inv.reads (g : Good X) {listed : Array Bool} {m : Nat} {ρ : Rho} {G : Heap} {Y : Env} {a : Act} {w : World} (v : Inv X listed m ρ G Y a w) {k j : Nat} {o : Oper} {i : Ir} (r : Ready X listed k j o i) {x : Value} (h1 : isAl i.ins = false) (h2 : isEff i.ins = false) (hw : wanted i (X.E j) = true)
    (hs : step X.P X.C i.ins (X.E j) (X.Hp j) = some (x, X.Hp j)) (hjm : j ≤ m) (hdomr : ∀ b, rdBlk i.ins (X.E j) = some b → ∃ L, ρ b = some L) : step X.P X.C i.ins Y G = some (x, G) := by
  have hlook := v.look g r
  rw [step_congr (e := Y) (e' := X.E j) fun t ht => hlook t (by simp [Ir.looks, ht])]
  -- the last effect between j and m
  have key : ∃ q, q ≤ m ∧ j ≤ q ∧ X.NoEff q m ∧ ∃ H', step X.P (fun _ _ _ => none) i.ins (X.E j) (X.Hp q) = some (x, H') := by
    have base : step X.P (fun _ _ _ => none) i.ins (X.E j) (X.Hp j) = some (x, X.Hp j) := rd_agree h1 h2 hs fun b _ _ => rfl
    have ind : ∀ d, ∀ q, q + d = m → j ≤ q → X.NoEff q m → ∃ q, q ≤ m ∧ j ≤ q ∧ X.NoEff q m ∧ ∃ H', step X.P (fun _ _ _ => none) i.ins (X.E j) (X.Hp q) = some (x, H') := by
      intro d
      intro q hq hjq hno
      clear hq d
      induction q with
      | zero => obtain rfl : j = 0 := by omega
                exact ⟨0, by omega, Nat.le_refl _, hno, _, base⟩
      | succ q ih =>
        rcases Nat.lt_or_ge j (q + 1) with hl | hl
        · by_cases hqm : q < m
          · obtain ⟨iq, hiq⟩ := g.is_lt (show q < X.n by have := v.mle; omega)
            by_cases heq : isEff iq.ins = true
            · have hne : q ≠ j := fun e => by subst e; rw [r.ir] at hiq; cases hiq; rw [h2] at heq; cases heq
              have hlq : X.L listed q := (v.eff q iq hiq heq).2 hqm
              obtain ⟨oq, hoq, hlo⟩ := hlq
              rcases g.facts.pair j q k oq i iq (by omega) r.pos hoq r.ir hiq with hd | ⟨_, _, hch⟩
              · exact absurd (g.dep v.closed r.pos hoq hd fun e he => v.closed oq hlo e he) r.free
              · by_cases hrd : isRd i.ins = true
                · have hc := g.chk j q (hch hrd heq) i r.ir hw
                  rw [base] at hc
                  cases hst : step X.P (fun _ _ _ => none) i.ins (X.E j) (X.Hp (q + 1)) with
                  | none => rw [hst] at hc; cases hc
                  | some p =>
                    rw [hst] at hc
                    simp only [Option.map_some, Option.some.injEq] at hc
                    obtain ⟨px, pH⟩ := p
                    simp only at hc
                    subst hc
                    exact ⟨q + 1, by omega, by omega, hno, pH, hst⟩
                · -- it reads nothing
                  have hnb : rdBlk i.ins (X.E j) = none := by
                    cases hii : i.ins <;> rw [hii] at hrd <;> simp [isRd] at hrd <;> rfl
                  exact ⟨q + 1, by omega, by omega, hno, _, rd_agree h1 h2 base fun b hb _ => by rw [hnb] at hb; cases hb⟩
            · exact ih (by omega) fun q' s1 s2 => by
                rcases Nat.lt_or_ge q q' with h | h
                · exact hno q' (by omega) s2
                · obtain rfl : q' = q := by omega
                  intro i' hi'
                  rw [hiq] at hi'; cases hi'
                  simpa using heq
          · exact ih (by omega) fun q' s1 s2 => by omega
        · obtain rfl : j = q + 1 := by omega
          by_cases hjm' : q + 1 ≤ m
          · exact ⟨q + 1, hjm', Nat.le_refl _, hno, _, base⟩
          · omega
    exact ind 0 m (by omega) hjm fun q s1 s2 => by omega
  obtain ⟨q, q1, q2, q3, H', q4⟩ := key
  refine rd_agree h1 h2 q4 fun b hb hne => ?_
  obtain ⟨L, hL⟩ := hdomr b hb
  have hqn : q ≤ X.n := by have := v.mle; omega
  have hbq : b < (X.Hp q).next := by
    rcases Nat.lt_or_ge b (X.Hp q).next with h | h
    · exact h
    · exact absurd (g.hwp q hqn b h) hne
  rw [v.g1 b (by have := g.next_le q1 v.mle; omega)]
  exact g.keep q1 v.mle q3 b hbq
end
end Go.AM
end TextAmDraw2
section TextAmDraw3
/- AM: regions whose order is drawn: the theorem. -/
namespace Go.AM
set_option linter.unusedVariables false
set_option linter.unusedSimpArgs false
section
variable {X : Ctx}
theorem cOp_rdArg {P : Program} {op : Op} {i : Ins} (hc : cOp P op = some i) : (∀ x, i = .ld x → ∃ y, cArg y = some x) ∧ (∀ n x, i = .ldn n x → ∃ y, cArg y = some x) ∧ (∀ x, i = .b2s x → ∃ y, cArg y = some x) ∧ (∀ n x lo hi mx, i = .slv n x lo hi mx → ∃ y, cArg y = some x) := by
  refine ⟨fun x e => ?_, fun n x e => ?_, fun x e => ?_, fun n x lo hi mx e => ?_⟩ <;> subst e
  all_goals
    cases op
    case call c =>
      obtain ⟨callee, args, argTypes⟩ := c
      simp only [cOp] at hc
      cases callee
      case value g => cases g <;> simp at hc
      case invoke => cases hc
      case builtin b =>
        simp only at hc
        split at hc <;> try (cases hc; done)
        cases b <;> simp only [cBuiltin, cLen, cApp, cCopy, cClear, cCap, cMM] at hc <;> try (cases hc; done)
        all_goals (repeat' split at hc)
        all_goals first | (cases hc; done) | (simp at hc; done)
    case makeFunc fn first cap =>
      cases fn <;> simp only [cOp] at hc <;> try (cases hc; done)
      split at hc
      · simp at hc
      · cases hc
    all_goals first
      | (simp only [cOp] at hc; cases hc; done)
      | (simp [cOp] at hc; done)
      | (simp only [cOp, cBin] at hc; repeat' split at hc
         all_goals first | (cases hc; done) | (simp at hc; done) | (cases hc; exact ⟨_, ‹_›⟩))
theorem rdBlk_congr {e e' : Env} {i : Ins} (h : ∀ t ∈ i.tmps, e t = e' t) : rdBlk i e = rdBlk i e' := by
  cases i <;> simp only [Ins.tmps, List.mem_append] at h <;> simp only [rdBlk]
  case ld x => rw [ev_congr h]
  case ldn n x => rw [ev_congr h]
  case b2s x => rw [ev_congr h]
  case slv n x lo hi mx => rw [ev_congr (a := x) fun t ht => h t (.inl (.inl (.inl ht)))]
theorem rd_dom {P : Program} {ρ : Rho} {e : Env} {f : Operand → Value} (ha : ArgR ρ e f) {op : Op} {i : Ins} (hc : cOp P op = some i) {b : Nat} (h : rdBlk i e = some b) : ∃ L, ρ b = some L := by
  obtain ⟨c1, c2, c3, c4⟩ := cOp_rdArg hc
  have ptr : ∀ x, (∃ y, cArg y = some x) → (match ev e x with | .pointer (some a) => some a.block | _ => none) = some b → ∃ L, ρ b = some L := by
    rintro x ⟨y, hy⟩ hx
    have hv := ha y x hy
    cases hxv : ev e x <;> rw [hxv] at hx <;> try (cases hx; done)
    rename_i ad
    cases ad with
    | none => cases hx
    | some ad =>
      simp only [Option.some.injEq] at hx
      subst hx
      rw [hxv] at hv
      obtain ⟨L, h1, _⟩ := hv
      exact ⟨L, h1⟩
  have sl : ∀ x, (∃ y, cArg y = some x) → (match ev e x with | .slice (some a) _ _ => some a.block | _ => none) = some b → ∃ L, ρ b = some L := by
    rintro x ⟨y, hy⟩ hx
    have hv := ha y x hy
    cases hxv : ev e x <;> rw [hxv] at hx <;> try (cases hx; done)
    rename_i ad n c
    cases ad with
    | none => cases hx
    | some ad =>
      simp only [Option.some.injEq] at hx
      subst hx
      rw [hxv] at hv
      obtain ⟨L, o', c', h1, _⟩ := hv
      exact ⟨L, h1⟩
  cases i <;> simp only [rdBlk] at h <;> try (cases h; done)
  case ld x => exact ptr x (c1 x rfl) h
  case ldn n x => exact ptr x (c2 n x rfl) h
  case b2s x => exact sl x (c3 x rfl) h
  case slv n x lo hi mx => exact sl x (c4 n x lo hi mx rfl) h
/-- Effects that stand ahead in our order are listed, if one is ready. -/
theorem Inv.noEff (g : Good X) {listed : Array Bool} {m : Nat} {ρ : Rho} {G : Heap} {Y : Env} {a : Act} {w : World} (v : Inv X listed m ρ G Y a w) {k j : Nat} {o : Oper} {i : Ir} (r : Ready X listed k j o i) : X.NoEff m j := by
  intro p h1 h2 ip hip
  cases he : isEff ip.ins with
  | false => rfl
  | true =>
    exfalso
    obtain ⟨op, hop⟩ := g.order_lt (g.lt_is hip)
    rcases g.facts.pair p j op k ip i h2 hop r.pos hip r.ir with hd | ⟨_, h3, _⟩
    · have := (v.eff p ip hip he).1 (g.dep v.closed hop r.pos hd r.edges); omega
    · rw [he] at h3; cases h3
theorem Inv.below (g : Good X) {listed : Array Bool} {ρ : Rho} {G : Heap} {Y : Env} {a : Act} {w : World} {k j : Nat} (v : Inv X listed j ρ G Y a w) {o : Oper} {i : Ir} (r : Ready X listed k j o i) (he : isEff i.ins = true) : ∀ b L, ρ b = some L → b < (X.Hp j).next := by
  intro b L hL
  rcases v.dom b L hL with h | ⟨p, p1, p2, p3, p4⟩
  · exact h
  · exfalso
    rcases Nat.lt_or_ge j p with h | h
    · obtain ⟨op, hop, hlp⟩ := p2
      obtain ⟨ip, hip⟩ := g.is_lt (g.al_lt p3)
      rcases g.facts.pair j p k op i ip h r.pos hop r.ir hip with hd | ⟨_, h2, _⟩
      · exact r.free (g.dep v.closed r.pos hop hd fun e he => v.closed op hlp e he)
      · rw [he] at h2; cases h2
    · obtain rfl : p = j := by omega
      exact r.free p2
/-- All have run. -/
theorem Inv.done (g : Good X) {listed : Array Bool} {m : Nat} {ρ : Rho} {G : Heap} {Y : Env} {a : Act} {w : World} (v : Inv X listed m ρ G Y a w) (hall : ∀ p, p < X.n → X.L listed p) : EnvR ρ (X.E X.n) a X.N ∧ Adv (X.Hp 0).next X.ρ0 (X.Hp 0) X.w0 ρ (X.Hp X.n) w := by
  obtain ⟨G', v'⟩ := v.move g v.mle (Nat.le_refl _) (fun p h1 h2 ip hip => by
    cases he : isEff ip.ins with
    | false => rfl
    | true => have := (v.eff p ip hip he).1 (hall p h2); omega)
  have hY : Y = X.E X.n := funext fun t => v'.xval t X.n (Nat.le_refl _) fun q iq hiq hd => ⟨fun _ => g.lt_is hiq, fun h => hall q h⟩
  have hd : ∀ b L, ρ b = some L → b < (X.Hp X.n).next := fun b L hL => by
    rcases v'.dom b L hL with h | ⟨p, p1, _, p3, _⟩
    · exact h
    · have := g.al_lt p3; omega
  refine ⟨hY ▸ v'.env, v'.adv.reheap (by have := v'.adv.next; rw [v'.gnext] at this; exact this) hd fun b hb => (v'.g1 b ?_).symm⟩
  rcases hb with ⟨L, h⟩ | h
  · exact hd b L h
  · have := g.next_le (Nat.zero_le X.n) (Nat.le_refl _); omega
theorem mem_ready {listed : Array Bool} {k : Nat} : k ∈ Region.ready .any X.ops listed ↔ k < X.ops.size ∧ listed.getD k true = false ∧ ∃ o, X.ops[k]? = some o ∧ ∀ e ∈ edgesAt X.ops k, listed.getD e false = true := by
  unfold Region.ready
  simp only [List.mem_filter, List.mem_range, Bool.and_eq_true, Bool.not_eq_true']
  constructor
  · rintro ⟨h1, h2, h3⟩
    cases ho : X.ops[k]? with
    | none => rw [ho] at h3; simp at h3
    | some o =>
      rw [ho] at h3
      simp only [Option.map_some, Option.getD_some] at h3
      refine ⟨h1, h2, o, rfl, fun e he => ?_⟩
      simp only [edgesAt, ho, edgesOf, List.mem_map, List.mem_filter] at he
      obtain ⟨ed, ⟨he1, he2⟩, rfl⟩ := he
      rw [Array.all_eq_true_iff_forall_mem] at h3
      have := h3 ed (by simpa using he1)
      simpa [he2] using this
  · rintro ⟨h1, h2, o, ho, h3⟩
    refine ⟨h1, h2, ?_⟩
    rw [ho]
    simp only [Option.map_some, Option.getD_some]
    rw [Array.all_eq_true_iff_forall_mem]
    intro ed hed
    by_cases hb : Region.binds .any ed = true
    · have := h3 ed.on (by simp only [edgesAt, ho, edgesOf, List.mem_map, List.mem_filter]; exact ⟨ed, ⟨by simpa using hed, hb⟩, rfl⟩)
      simp [this]
    · simp [hb]
theorem getD_two {l : Array Bool} {k : Nat} (hk : k < l.size) : l.getD k true = l.getD k false := by
  simp [Array.getD_eq_getD_getElem?, hk]
theorem draw_any (g : Good X) {Q : Exit → Act → World → Prop} (hQ : ∀ a' w' ρ', EnvR ρ' (X.E X.n) a' X.N → Adv (X.Hp 0).next X.ρ0 (X.Hp 0) X.w0 ρ' (X.Hp X.n) w' → Q .normal a' w') :
    ∀ (fuel : Nat) (listed : Array Bool) (left : List Nat) {m : Nat} {ρ : Rho} {G : Heap} {Y : Env} {a : Act} {w : World}, Inv X listed m ρ G Y a w → left.length ≤ fuel → (∀ p, p < X.n → ¬ X.L listed p → p ∈ left) → wpAny X.P .any X.ops Q fuel listed a w := by
  intro fuel
  induction fuel with
  | zero =>
    intro listed left m ρ G Y a w v hl hleft
    have hnil : left = [] := List.length_eq_zero_iff.1 (by omega)
    have hall : ∀ p, p < X.n → X.L listed p := fun p hp => Classical.byContradiction fun h => by
      have := hleft p hp h
      rw [hnil] at this; cases this
    obtain ⟨h1, h2⟩ := v.done g hall
    refine ⟨?_, hQ a w ρ h1 h2⟩
    cases hr : Region.ready .any X.ops listed with
    | nil => rfl
    | cons k ks =>
      exfalso
      have hk : k ∈ Region.ready .any X.ops listed := by rw [hr]; simp
      obtain ⟨q1, q2, _⟩ := mem_ready.1 hk
      obtain ⟨p, hp⟩ := g.facts.surj k q1
      have hpn : p < X.n := by have := (List.getElem?_eq_some_iff.1 hp).1; rw [g.facts.len] at this; exact this
      obtain ⟨k', h3, h4⟩ := hall p hpn
      rw [hp] at h3; cases h3
      rw [getD_two (by rw [v.size]; exact q1), h4] at q2
      cases q2
  | succ fuel ih =>
    intro listed left m ρ G Y a w v hl hleft
    refine ⟨fun hr => ?_, fun k hk => ?_⟩
    · -- none is ready: all have run
      have hall : ∀ p, p < X.n → X.L listed p := by
        intro p
        induction p using Nat.strongRecOn with
        | _ p ihp =>
          intro hp
          refine Classical.byContradiction fun hno => ?_
          obtain ⟨k, hk⟩ := g.order_lt hp
          obtain ⟨o, i, ho, _, _⟩ := g.facts.code p k hk
          have hkn := g.facts.lt p k hk
          have : k ∈ Region.ready .any X.ops listed := by
            refine mem_ready.2 ⟨hkn, ?_, o, ho, fun e he => ?_⟩
            · rw [getD_two (by rw [v.size]; exact hkn)]
              cases hx : listed.getD k false with
              | false => rfl
              | true => exact absurd ⟨k, hk, hx⟩ hno
            · obtain ⟨q, hq, hqe⟩ := g.facts.edge p k hk e he
              obtain ⟨e', h1, h2⟩ := ihp q hq (by omega)
              rw [hqe] at h1; cases h1
              exact h2
          rw [hr] at this; cases this
      obtain ⟨h1, h2⟩ := v.done g hall
      exact hQ a w ρ h1 h2
    · obtain ⟨hkn, hfree, o, ho, hedges⟩ := mem_ready.1 hk
      obtain ⟨j, hj⟩ := g.facts.surj k hkn
      obtain ⟨o', i, ho', hi, hcode⟩ := g.facts.code j k hj
      rw [ho] at ho'; cases ho'
      have hjn := g.lt_is hi
      have r : Ready X listed k j o i := ⟨hj, ho, hi, hcode, (fun ⟨k', h1, h2⟩ => by
        rw [hj] at h1; cases h1
        rw [getD_two (by rw [v.size]; exact hkn), h2] at hfree; cases hfree), hedges⟩
      have hlook := v.look g r
      obtain ⟨hdst, hins⟩ := cOper_ins hcode
      -- what is left to do once j has run
      have next : ∀ {m' : Nat} {ρ' : Rho} {G' : Heap} {Y' : Env} {a' : Act} {w' : World}, Inv X (listed.setIfInBounds k true) m' ρ' G' Y' a' w' → wpAny X.P .any X.ops Q fuel (listed.setIfInBounds k true) a' w' := by
        intro m' ρ' G' Y' a' w' v'
        refine ih (listed.setIfInBounds k true) (left.erase j) v' ?_ fun p hp hno => ?_
        · rw [List.length_erase_of_mem (hleft j hjn r.free)]; omega
        · have hpj : p ≠ j := fun e => hno ((L_set g v.size hj).2 (.inr e))
          exact (List.mem_erase_of_ne hpj).2 (hleft p hp fun h => hno ((L_set g v.size hj).2 (.inl h)))
      unfold wpOp
      rw [ho]
      simp only
      rw [wanted_sound v.env hcode, wanted_congr (e := Y) (e' := X.E j) hlook]
      have htr := g.tr j i hi
      unfold stepIr at htr
      by_cases hw : wanted i (X.E j) = true
      · rw [if_pos hw] at htr ⊢
        split at htr
        case h_2 => cases htr
        rename_i x H' hs
        have h3 : put i.dst x (X.E j) = X.E (j + 1) ∧ H' = X.Hp (j + 1) := by simpa using htr
        obtain ⟨hE, rfl⟩ := h3
        left
        by_cases he : isEff i.ins = true
        · -- an effect
          have hmj : m ≤ j := by
            rcases Nat.lt_or_ge j m with h | h
            · exact absurd ((v.eff j i hi he).2 h) r.free
            · exact h
          obtain ⟨G1, v1⟩ := v.move g hmj (Nat.le_of_lt hjn) (v.noEff g r)
          have hbelow := v1.below g r he
          have hrel : RelH ρ (X.Hp j) w := ⟨hbelow, fun b L B hL hB => v1.adv.rel.blk b L B hL (by rw [v1.g1 b (hbelow b L hL)]; exact hB), fun b1 b2 L1 L2 B1 B2 q1 q2 q3 q4 q5 q6 =>
            v1.adv.rel.inj b1 b2 L1 L2 B1 B2 q1 q2 (by rw [v1.g1 b1 (hbelow b1 L1 q1)]; exact q3) (by rw [v1.g1 b2 (hbelow b2 L2 q2)]; exact q4) q5 q6⟩
          have hsY : step X.P X.C i.ins Y (X.Hp j) = some (x, X.Hp (j + 1)) := by
            rw [step_congr (e := Y) (e' := X.E j) fun t ht => hlook t (by simp [Ir.looks, ht])]; exact hs
          refine ins_sound g.ok hcode hsY v1.env.arg (g.hwp j (Nat.le_of_lt hjn)) hrel _ _ fun x' w' ρ' hv hadv => ?_
          obtain ⟨G2, v2⟩ := v1.effect g r hE.symm he hv hadv
          rw [← hdst]
          exact next v2
        · have he' : isEff i.ins = false := by simpa using he
          have hc2 : cOp X.P o.op = some i.ins := by
            rcases hins with h | h
            · exact h
            · rw [h] at he'; simp [isEff] at he'
          by_cases ha : isAl i.ins = true
          · -- a new block
            obtain ⟨f, B, q1, q2, q3⟩ := step_alc ha hs
            have hal : X.Al j := ⟨i, hi, ha, hw⟩
            have hq1 : alc i.ins Y = some (f, B) := by rw [alc_congr (e := Y) (e' := X.E j) fun t ht => hlook t (by simp [Ir.looks, ht])]; exact q1
            obtain ⟨hro, v', w', L, c, t, fr, md⟩ := al_sound (P := X.P) (w := w) hc2 hq1 v.env.arg
            obtain ⟨ρ', G', v2⟩ := v.made g r hal (by rw [← hE, q2]; rfl) q3 hro md
            refine wp_value md.run ?_
            rw [← hdst]
            exact next v2
          · have ha' : isAl i.ins = false := by simpa using ha
            have hsame := step_same ha' he' hs
            rw [hsame] at hs
            have go : ∀ {m1 : Nat} {G1 : Heap}, Inv X listed m1 ρ G1 Y a w → j ≤ m1 → o.wp X.P a w (wpAny X.P .any X.ops Q fuel (listed.setIfInBounds k true)) Q := by
              intro m1 G1 v1 hjm
              have hsG := v1.reads g r ha' he' hw hs hjm fun b hb => rd_dom (P := X.P) v1.env.arg hc2 (by rw [rdBlk_congr (e := Y) (e' := X.E j) fun t ht => hlook t (by simp [Ir.looks, ht])]; exact hb)
              obtain ⟨_, x', p1, p2⟩ := rd_sound (P := X.P) (w := w) hc2 ha' he' hsG v1.env.arg v1.adv.rel
              refine wp_value p1 ?_
              have v2 := v1.still g r hE.symm p2 (fun ⟨i', hi', h1, _⟩ => by rw [hi] at hi'; cases hi'; rw [ha'] at h1; cases h1) he'
              rw [← hdst]
              exact next v2
            rcases Nat.lt_or_ge m j with h | h
            · obtain ⟨G1, v1⟩ := v.move g (Nat.le_of_lt h) (Nat.le_of_lt hjn) (v.noEff g r)
              exact go v1 (Nat.le_refl _)
            · exact go v h
      · rw [if_neg hw] at htr ⊢
        have h3 : put i.dst undef (X.E j) = X.E (j + 1) ∧ X.Hp j = X.Hp (j + 1) := by simpa using htr
        by_cases he : isEff i.ins = true
        · have hmj : m ≤ j := by
            rcases Nat.lt_or_ge j m with h | h
            · exact absurd ((v.eff j i hi he).2 h) r.free
            · exact h
          obtain ⟨G1, v1⟩ := v.move g hmj (Nat.le_of_lt hjn) (v.noEff g r)
          have hbelow := v1.below g r he
          have hrel : RelH ρ (X.Hp j) w := ⟨hbelow, fun b L B hL hB => v1.adv.rel.blk b L B hL (by rw [v1.g1 b (hbelow b L hL)]; exact hB), fun b1 b2 L1 L2 B1 B2 q1 q2 q3 q4 q5 q6 =>
            v1.adv.rel.inj b1 b2 L1 L2 B1 B2 q1 q2 (by rw [v1.g1 b1 (hbelow b1 L1 q1)]; exact q3) (by rw [v1.g1 b2 (hbelow b2 L2 q2)]; exact q4) q5 q6⟩
          obtain ⟨G2, v2⟩ := v1.effect g r h3.1.symm he V3.undef (by rw [← h3.2]; exact Adv.refl hrel)
          rw [← hdst]
          exact next v2
        · have v2 := v.still g r h3.1.symm (x' := undef) V3.undef (fun ⟨i', hi', _, h2⟩ => by rw [hi] at hi'; cases hi'; exact hw h2) (by simpa using he)
          rw [← hdst]
          exact next v2
end
theorem regd_sound {P : Program} {C : CallF} (hP : P.follows .mixedOrders = true) (hC : COk P C) {ops : Array Oper} {N id : Nat} {Q : Exit → Act → World → Prop} {is0 is : List Ir} {order : List Nat} {ch : List (Nat × Nat)} {e e' : Env} {H H' : Heap} {a : Act} {ρ : Rho} {w : World}
    (h0 : cOpers P ops ops.toList = some is0) (h1 : pickL is0 order = some is) (h2 : drawOk ops order is ch = true) (hn : SlotsIn N is)
    (hs : runD P C is ch e H = some (e', H')) (he : EnvR ρ e a N) (hw : Hw H) (hr : RelH ρ H w) (hQ : ∀ a' w' ρ', EnvR ρ' e' a' N → Adv H.next ρ H w ρ' H' w' → Q .normal a' w') : (Code.region id ops true).wp P Q a w := by
  have facts := facts_of h0 h1 h2
  unfold runD at hs
  split at hs
  case h_2 => cases hs
  rename_i tr htr
  split at hs
  case isFalse => cases hs
  rename_i hchk
  obtain ⟨t1, t2, t3⟩ := tr_states is htr
  let X : Ctx := ⟨P, C, ops, order, is, ch, N, fun p => (tr.getD p (e, H)).1, fun p => (tr.getD p (e, H)).2, ρ, w⟩
  have hget : ∀ p s, tr[p]? = some s → tr.getD p (e, H) = s := fun p s h => by rw [List.getD_eq_getElem?_getD, h]; rfl
  have g : Good X := by
    refine ⟨hC, facts, hn, fun p i hi => ?_, fun p q hpq i hi hwt => ?_, ?_⟩
    · obtain ⟨s, s', q1, q2, q3⟩ := t3 p i hi
      show stepIr P C i (tr.getD p (e, H)).1 (tr.getD p (e, H)).2 = some ((tr.getD (p + 1) (e, H)).1, (tr.getD (p + 1) (e, H)).2)
      rw [hget p s q1, hget (p + 1) s' q2]; exact q3
    · have hc := hchk (p, q) hpq
      unfold Chk at hc
      simp only at hc
      split at hc
      · rename_i i' e1 H1 e2 G1 a1 a2 a3
        rw [hi] at a1; cases a1
        show (step P _ i.ins (tr.getD p (e, H)).1 (tr.getD (q + 1) (e, H)).2).map Prod.fst = (step P _ i.ins (tr.getD p (e, H)).1 (tr.getD p (e, H)).2).map Prod.fst
        have hwt' : wanted i (tr.getD p (e, H)).1 = true := hwt
        rw [hget p _ a2] at hwt' ⊢
        rw [hget (q + 1) _ a3]
        exact hc hwt'
      · exact hc.elim
    · show Hw (tr.getD 0 (e, H)).2
      rw [hget 0 _ t2]; exact hw
  have hE0 : X.E 0 = e := by show (tr.getD 0 (e, H)).1 = e; rw [hget 0 _ t2]
  have hH0 : X.Hp 0 = H := by show (tr.getD 0 (e, H)).2 = H; rw [hget 0 _ t2]
  have hn' : X.n = is.length := by show ops.size = is.length; exact facts.ilen.symm
  have hlast : tr.getD X.n (e, H) = (e', H') := by
    rw [List.getLast?_eq_getElem?, t1] at hs
    exact hget _ _ (by rw [hn']; simpa using hs)
  have hEn : X.E X.n = e' := by show (tr.getD X.n (e, H)).1 = e'; rw [hlast]
  have hHn : X.Hp X.n = H' := by show (tr.getD X.n (e, H)).2 = H'; rw [hlast]
  refine wp_region_any hP ?_
  have hrep : ∀ k, (Array.replicate ops.size false).getD k false = false := fun k => by
    rw [Array.getD_eq_getD_getElem?, Array.getElem?_replicate]
    split <;> rfl
  have hL0 : ∀ p, ¬ X.L (Array.replicate ops.size false) p := fun p ⟨k, _, h⟩ => by rw [hrep] at h; cases h
  have hnx : H.next ≤ H'.next := by have := g.next_le (Nat.zero_le X.n) (Nat.le_refl _); rw [hH0, hHn] at this; exact this
  let G : Heap := { next := H'.next, blk := H.blk }
  have hw1 : RelH ρ H { w with drawn := w.drawn + 1 } := hr.same rfl
  have v : Inv X (Array.replicate ops.size false) 0 ρ G e a { w with drawn := w.drawn + 1 } := by
    refine ⟨(by simp; rfl), (fun k hk => by have hk' : (Array.replicate ops.size false).getD k false = true := hk; rw [hrep] at hk'; cases hk'), Nat.zero_le _, (fun p i hi hee => ⟨fun h => absurd h (hL0 p), fun h => by omega⟩), he, (fun t p hp hq => ?_), (by show H'.next = _; rw [hHn]), (fun b hb => by show H.blk b = _; rw [hH0]), (fun p _ h _ => absurd h (hL0 p)), (fun b L hL => .inl (by rw [hH0]; exact hr.dom b L hL)), (fun p hp _ => ⟨?_, fun h => by omega⟩), ?_⟩
    · rw [E_const g (Nat.zero_le p) hp fun q i h1 h2 hi hd => ?_, hE0]
      exact hL0 q ((hq q i hi hd).2 h2)
    · cases hx : ρ (X.idn p) with
      | none => rfl
      | some L =>
        have h3 := hr.dom _ L hx
        have h4 := g.next_le (Nat.zero_le p) (Nat.le_of_lt (g.al_lt hp))
        rw [hH0] at h4
        unfold Ctx.idn at h3; omega
    · have a0 : Adv (X.Hp 0).next ρ H w ρ H { w with drawn := w.drawn + 1 } := Adv.same hr rfl rfl rfl rfl
      rw [hH0] at a0 ⊢
      exact a0.reheap (G := G) hnx (fun b L hL => by have := hr.dom b L hL; show b < H'.next; omega) fun b _ => rfl
  refine draw_any g (Q := Q) (fun a' w' ρ' q1 q2 => ?_) ops.size _ (List.range ops.size) v (by simp) fun p hp _ => List.mem_range.2 hp
  rw [hEn] at q1
  rw [hH0, hHn] at q2
  exact hQ a' w' ρ' q1 q2
end Go.AM
end TextAmDraw3
section TextAmSound
/- AM: what the machine answers, the model answers. -/
namespace Go.AM
set_option linter.unusedVariables false
set_option linter.unusedSimpArgs false
def ExR : IEx → Exit → Prop
  | .norm, e => e = .normal
  | .exit id, e => e = .exit id
  | .ret, e => e = .ret
section
variable {P : Program}
theorem cond_c {c : Operand} {c' : Arg} {ρ : Rho} {e : Env} {a : Act} {N : Nat} (he : EnvR ρ e a N) (hc : cArg c = some c') {b : Bool} (h : ev e c' = .bool b) : a.eval c = .bool b := by
  have := he.arg c c' hc
  rw [h] at this; exact this.bool_inv
theorem code_sound {C : CallF} (hP : P.follows .mixedOrders = true) (hC : COk P C) (n N : Nat) : ∀ (c : Code) (ic : IC), cCode P c = some ic → slotsOk N ic = true → ∀ {e : Env} {H : Heap} {x : IEx} {e' : Env} {H' : Heap} {a : Act} {w : World} {ρ : Rho}, exec P C n ic e H = some (x, e', H') →
    EnvR ρ e a N → Hw H → RelH ρ H w → c.wp P (fun ex a' w' => ExR x ex ∧ ∃ ρ', EnvR ρ' e' a' N ∧ Adv H.next ρ H w ρ' H' w') a w := by
  intro c
  induction c with
  | skip => intro ic hc hn e H x e' H' a w ρ hs he hw hr; cases hc; cases hs; exact wp_skip ⟨rfl, ρ, he, Adv.refl hr⟩
  | region id ops d =>
    intro ic hc hn e H x e' H' a w ρ hs he hw hr
    simp only [cCode] at hc
    split at hc
    case h_2 => cases hc
    rename_i is0 h0
    cases d with
    | false =>
      simp only [Bool.false_eq_true, if_false, Option.some.injEq] at hc
      subst hc
      simp only [exec] at hs
      cases hi : runIr P C is0 e H with
      | none => rw [hi] at hs; cases hs
      | some q =>
        rw [hi] at hs; cases hs
        have hsl : SlotsIn N is0 := fun i hi d hd => by
          simp only [slotsOk, List.all_eq_true] at hn
          have := hn i hi
          rw [hd] at this; simpa using this
        exact reg_sound hC h0 hsl hi he hw hr fun a' w' ρ' q1 q2 => ⟨rfl, ρ', q1, q2⟩
    | true =>
      simp only [if_true, cDraw] at hc
      split at hc
      case h_2 => cases hc
      rename_i is h1
      split at hc
      case isFalse => cases hc
      rename_i h2
      cases hc
      simp only [exec] at hs
      cases hi : runD P C is _ e H with
      | none => rw [hi] at hs; cases hs
      | some q =>
        rw [hi] at hs; cases hs
        have hsl : SlotsIn N is := fun i hi d hd => by
          simp only [slotsOk, List.all_eq_true] at hn
          have := hn i hi
          rw [hd] at this; simpa using this
        exact regd_sound hP hC h0 h1 h2 hsl hi he hw hr fun a' w' ρ' q1 q2 => ⟨rfl, ρ', q1, q2⟩
  | seq c1 c2 ih1 ih2 =>
    intro ic hc hn e H x e' H' a w ρ hs he hw hr
    simp only [cCode] at hc
    split at hc <;> cases hc
    rename_i i1 i2 h1 h2
    simp only [slotsOk, Bool.and_eq_true] at hn
    rcases nxt_inv hs with ⟨e1, H1, g1, g2⟩ | ⟨g1, g2⟩
    · refine wp_seq (wp_mono (ih1 i1 h1 hn.1 g1 he hw hr) fun ex a1 w1 hq => ?_)
      obtain ⟨hx, ρ1, he1, adv1⟩ := hq
      cases hx
      have hw1 := (exec_next hC.next n _ g1 hw).1
      refine wp_mono (ih2 i2 h2 hn.2 g2 he1 hw1 adv1.rel) fun ex2 a2 w2 hq2 => ?_
      obtain ⟨hx2, ρ2, he2, adv2⟩ := hq2
      exact ⟨hx2, ρ2, he2, adv1.trans (adv2.base adv1.next)⟩
    · refine wp_seq (wp_mono (ih1 i1 h1 hn.1 g1 he hw hr) fun ex a1 w1 hq => ?_)
      obtain ⟨hx, hrest⟩ := hq
      cases x
      · exact absurd rfl g2
      · cases hx; exact ⟨rfl, hrest⟩
      · cases hx; exact ⟨rfl, hrest⟩
  | cond c0 c1 c2 ih1 ih2 =>
    intro ic hc hn e H x e' H' a w ρ hs he hw hr
    simp only [cCode] at hc
    split at hc <;> cases hc
    rename_i a0 i1 i2 h0 h1 h2
    simp only [slotsOk, Bool.and_eq_true] at hn
    simp only [exec] at hs
    split at hs
    · rename_i hb; exact wp_cond_true (cond_c he h0 hb) (ih1 i1 h1 hn.1 hs he hw hr)
    · rename_i hb; exact wp_cond_false (cond_c he h0 hb) (ih2 i2 h2 hn.2 hs he hw hr)
    · cases hs
  | block id c1 ih =>
    intro ic hc hn e H x e' H' a w ρ hs he hw hr
    simp only [cCode, Option.map_eq_some_iff] at hc
    obtain ⟨i1, h1, rfl⟩ := hc
    simp only [slotsOk] at hn
    simp only [exec] at hs
    cases hx : exec P C n i1 e H with
    | none => rw [hx] at hs; cases hs
    | some q =>
      obtain ⟨y, e1, H1⟩ := q
      rw [hx] at hs
      refine wp_block (wp_mono (ih i1 h1 hn hx he hw hr) fun ex a1 w1 hq => ?_)
      obtain ⟨hy, hrest⟩ := hq
      cases y
      · cases hy; cases hs; exact ⟨rfl, hrest⟩
      · cases hy
        simp only [unblock] at hs
        simp only [Exit.inBlock]
        split at hs
        · rename_i hid; rw [if_pos hid]; cases hs; exact ⟨rfl, hrest⟩
        · rename_i hid; rw [if_neg hid]; cases hs; exact ⟨rfl, hrest⟩
      · cases hy; cases hs; exact ⟨rfl, hrest⟩
  | loop c1 ih =>
    intro ic hc hn e H x e' H' a w ρ hs he hw hr
    simp only [cCode, Option.map_eq_some_iff] at hc
    obtain ⟨i1, h1, rfl⟩ := hc
    simp only [slotsOk] at hn
    simp only [exec] at hs
    refine wp_loop_rounds n ?_
    have key : ∀ (k : Nat) {e1 : Env} {H1 : Heap} {a1 : Act} {w1 : World} {ρ1 : Rho}, iter (exec P C n i1) k e1 H1 = some (x, e', H') → EnvR ρ1 e1 a1 N → Hw H1 → Adv H.next ρ H w ρ1 H1 w1 →
        Code.rounds P c1 (fun ex a' w' => ExR x ex ∧ ∃ ρ', EnvR ρ' e' a' N ∧ Adv H.next ρ H w ρ' H' w') k a1 w1 := by
      intro k
      induction k with
      | zero => intro e1 H1 a1 w1 ρ1 h; cases h
      | succ k ihk =>
        intro e1 H1 a1 w1 ρ1 h he1 hw1 adv1
        rw [rounds_succ]
        rcases nxt_inv h with ⟨e2, H2, g1, g2⟩ | ⟨g1, g2⟩
        · refine wp_mono (ih i1 h1 hn g1 he1 hw1 adv1.rel) fun ex a2 w2 hq => ?_
          obtain ⟨hx, ρ2, he2, adv2⟩ := hq
          cases hx
          exact ihk g2 he2 (exec_next hC.next n _ g1 hw1).1 (adv1.trans (adv2.base adv1.next))
        · refine wp_mono (ih i1 h1 hn g1 he1 hw1 adv1.rel) fun ex a2 w2 hq => ?_
          obtain ⟨hx, ρ2, he2, adv2⟩ := hq
          have fin : ExR x ex ∧ ∃ ρ', EnvR ρ' e' a2 N ∧ Adv H.next ρ H w ρ' H' w2 := ⟨hx, ρ2, he2, adv1.trans (adv2.base adv1.next)⟩
          cases x
          · exact absurd rfl g2
          · cases hx; exact fin
          · cases hx; exact fin
    exact key n hs he hw (Adv.refl hr)
  | exit id => intro ic hc hn e H x e' H' a w ρ hs he hw hr; cases hc; cases hs; exact wp_exit ⟨rfl, ρ, he, Adv.refl hr⟩
  | ret => intro ic hc hn e H x e' H' a w ρ hs he hw hr; cases hc; cases hs; exact wp_ret ⟨rfl, ρ, he, Adv.refl hr⟩
  | rangeFunc => intro ic hc; cases hc
  | scope => intro ic hc; cases hc
  | label => intro ic hc; cases hc
  | goto => intro ic hc; cases hc
  | refuse => intro ic hc; cases hc

/-! ### results -/
theorem resV_sound {ρ : Rho} {H : Heap} {e : Env} {a : Act} {N : Nat} {w : World} (he : EnvR ρ e a N) (hr : RelH ρ H w) {r : ResultVar} {i : IRes} (hc : cRes P r = some i) {v : Value} (h : resV H e i = some v) :
    ∃ v', (match r with | .tmp t => pure (a.tmps.getD t undef) | .cell ad t => do loadVar t (← asAddr (a.tmps.getD ad undef)) : Sem Value).run P w = .ok v' w ∧ V3 ρ v v' := by
  cases r with
  | tmp t =>
    cases hc; cases h
    exact ⟨_, rfl, he.slot t⟩
  | cell ad t =>
    simp only [cRes] at hc
    have hv := he.slot ad
    split at hc
    · rename_i n h1 h2; cases hc
      simp only [resV] at h
      split at h
      · rename_i b o hb
        split at h
        · rename_i vs hrow; cases h
          rw [hb] at hv
          obtain ⟨L, q1, q2⟩ := hv.ptr_inv
          obtain ⟨v', r1, r2⟩ := ld_sound (P := P) hr (t := t) (o := o) q1 h2 h1 (v := .agg vs.toArray) (by simp [hrow])
          refine ⟨v', ?_, r2⟩
          simp only [Instr.loadAt, Instr.sureAddr, Sem.run_bind, Sem.run_pure, Result.andThen_ok] at r1
          simp only [q2, asAddr, Sem.run_bind, Sem.run_pure, Result.andThen_ok]; exact r1
        · cases h
      · cases h
    · rename_i n h1 h2; cases hc
      simp only [resV] at h
      split at h
      · rename_i b o hb
        rw [hb] at hv
        obtain ⟨L, q1, q2⟩ := hv.ptr_inv
        obtain ⟨v', r1, r2⟩ := ld_sound (P := P) hr (t := t) (o := o) q1 h2 h1 (v := v) (by simpa using h)
        refine ⟨v', ?_, r2⟩
        simp only [Instr.loadAt, Instr.sureAddr, Sem.run_bind, Sem.run_pure, Result.andThen_ok] at r1
        simp only [q2, asAddr, Sem.run_bind, Sem.run_pure, Result.andThen_ok]; exact r1
      · cases h
    · cases hc
theorem resL_sound {ρ : Rho} {H : Heap} {e : Env} {a : Act} {N : Nat} {w : World} (he : EnvR ρ e a N) (hr : RelH ρ H w) : ∀ (rs : List ResultVar) {is : List IRes} {vs : List Value}, cRess P rs = some is → resL H e is = some vs →
    ∃ vs', (rs.mapM fun r => (match r with | .tmp t => pure (a.tmps.getD t undef) | .cell ad t => do loadVar t (← asAddr (a.tmps.getD ad undef)) : Sem Value)).run P w = .ok vs' w ∧ All2 (V3 ρ) vs vs'
  | [], is, vs, hc, h => by cases hc; cases h; exact ⟨[], by simp, trivial⟩
  | r :: rs, is, vs, hc, h => by
    simp only [cRess] at hc
    split at hc <;> cases hc
    rename_i i l h1 h2
    simp only [resL] at h
    split at h
    · rename_i v hv
      split at h
      · rename_i us hus; cases h
        obtain ⟨v', q1, q2⟩ := resV_sound (P := P) he hr h1 hv
        obtain ⟨vs', q3, q4⟩ := resL_sound he hr rs h2 hus
        refine ⟨v' :: vs', ?_, q2, q4⟩
        simp only [List.mapM_cons, Sem.run_bind, q1, Result.andThen_ok, q3, Sem.run_pure]
      · cases h
    · cases h
theorem two_of_noTup {ρ : Rho} : ∀ {vs vs' : List Value}, All2 (V3 ρ) vs vs' → vs.all noTup = true → All2 (V2 ρ) vs vs'
  | [], [], _, _ => trivial
  | v :: vs, v' :: vs', h, hn => by
    simp only [List.all_cons, Bool.and_eq_true] at hn
    exact ⟨h.1.two fun us e => by subst e; simp [noTup] at hn, two_of_noTup h.2 hn.2⟩
theorem res_sound {ρ : Rho} {H : Heap} {e : Env} {a : Act} {N : Nat} {w : World} (he : EnvR ρ e a N) (hr : RelH ρ H w) {fn : Func} {is : List IRes} {v : Value} (hc : cRess P fn.results.toList = some is) (h : resAll H e is = some v) : ∃ v', (results fn a.tmps).run P w = .ok v' w ∧ V3 ρ v v' := by
  unfold resAll at h
  have hrun : ∀ vs', (fn.results.toList.mapM fun r => (match r with | .tmp t => pure (a.tmps.getD t undef) | .cell ad t => do loadVar t (← asAddr (a.tmps.getD ad undef)) : Sem Value)).run P w = .ok vs' w →
      (results fn a.tmps).run P w = .ok (if h : vs'.toArray.size = 1 then vs'.toArray[0] else .tuple vs'.toArray) w := by
    intro vs' h
    unfold results
    simp only [Array.mapM_eq_mapM_toList, Sem.run_bind, Sem.run_map]
    erw [h]
    rfl
  split at h
  · rename_i u hl
    cases h
    obtain ⟨vs', q1, q2⟩ := resL_sound (P := P) he hr _ hc hl
    obtain ⟨v', l, rfl, q3, q4⟩ := q2.cons_left
    obtain rfl := q4.nil_left
    exact ⟨v', by rw [hrun _ q1]; simp, q3⟩
  · rename_i vs hne hl
    split at h
    · rename_i hnt
      cases h
      obtain ⟨vs', q1, q2⟩ := resL_sound (P := P) he hr _ hc hl
      refine ⟨.tuple vs'.toArray, ?_, ?_⟩
      · rw [hrun _ q1, dif_neg]
        intro h1
        have h2 := q2.length
        rw [List.size_toArray] at h1
        have h3 : vs.length = 1 := by omega
        obtain ⟨x, hx⟩ := List.length_eq_one_iff.1 h3
        exact hne x hx
      · exact ⟨_, rfl, by simpa using two_of_noTup q2 hnt⟩
    · cases h
  · cases h

/-! ### calls -/
/-- A contract from elsewhere. -/
structure XSound (P : Program) (f : FuncId) (g : List Value → Heap → Option (Value × Heap)) : Prop where
  able : Callable P f
  next : ∀ args H v H', g args H = some (v, H') → Hw H → Hw H' ∧ H.next ≤ H'.next
  sound : ∀ args H v H', g args H = some (v, H') → ∀ ρ args' w, Hw H → RelH ρ H w → All2 (V3 ρ) args args' →
    Calls P f args'.toArray w fun e w' => ∃ v' ρ', e = .returned v' ∧ V3 ρ' v v' ∧ Adv H.next ρ H w ρ' H' w'
structure KOk (K : Cfg) : Prop where
  mixed : K.P.follows .mixedOrders = true
  F : ∀ f F, K.F f = some F → fnAt K.P f = some F
  X : ∀ f g, K.X f = some g → XSound K.P f g
theorem fnAt_inv {f : FuncId} {F : IFn} (h : fnAt P f = some F) : ∃ fn c, P.funcs[f]? = some fn ∧ fn.body = some c ∧ fn.name ≠ "runtime.NumGoroutine" ∧ cCode P c = some F.code ∧ cRess P fn.results.toList = some F.res ∧ slotsOk fn.ntmps F.code = true ∧ F.ntmps = fn.ntmps := by
  unfold fnAt at h
  obtain ⟨fn, h1, h2⟩ := Option.bind_eq_some_iff.1 h
  unfold cFn at h2
  split at h2
  · cases h2
  · rename_i c hc
    split at h2
    · cases h2
    · rename_i hn
      split at h2
      · rename_i ic rs q1 q2
        split at h2
        · rename_i hs; cases h2
          exact ⟨fn, c, h1, hc, by simpa using hn, q1, q2, hs, rfl⟩
        · cases h2
      · cases h2
theorem env0_sound {ρ : Rho} {args args' : List Value} {n : Nat} (h : All2 (V3 ρ) args args') (hl : args.length ≤ n) : EnvR ρ (env0 args) { tmps := args'.toArray ++ Array.replicate (n - args'.toArray.size) undef, defers := [] } n := by
  have hlen := h.length
  refine ⟨rfl, by simp; omega, fun t => ?_⟩
  unfold env0
  simp only [List.getD_eq_getElem?_getD, Array.getD_eq_getD_getElem?]
  by_cases ht : t < args.length
  · obtain ⟨b, hb, hV⟩ := h.get (List.getElem?_eq_getElem ht)
    rw [List.getElem?_eq_getElem ht, Array.getElem?_append_left (by simp; omega)]
    simp only [List.getElem?_toArray, hb, Option.getD_some]
    exact hV
  · rw [List.getElem?_eq_none (by omega), Array.getElem?_append_right (by simp; omega), Array.getElem?_replicate]
    split <;> exact V3.undef
theorem RelH.roAll {ρ : Rho} {H : Heap} {w : World} (h : RelH ρ H w) : RelH ρ H.roAll w := by
  have inv : ∀ b B, H.roAll.blk b = some B → ∃ B0, H.blk b = some B0 ∧ B.ro = true ∧ B.esz = B0.esz ∧ B.at_ = B0.at_ := fun b B hB => by
    simp only [Heap.roAll] at hB
    split at hB
    · rename_i B0 h0; cases hB; exact ⟨B0, h0, rfl, rfl, rfl⟩
    · cases hB
  refine ⟨h.dom, fun b L B hL hB => ?_, fun b1 b2 L1 L2 B1 B2 g1 g2 g3 g4 g5 g6 => ?_⟩
  · obtain ⟨B0, h0, h1, h2, h3⟩ := inv b B hB
    obtain ⟨c, t, fr, q1, q2, q3, q4, q5⟩ := h.blk b L B0 hL h0
    exact ⟨c, t, fr, q1, q2, q3.trans h2.symm, (fun hro => by rw [h1] at hro; cases hro), (fun o v hv => q5 o v (by rw [← h3]; exact hv))⟩
  · obtain ⟨_, _, h1, _⟩ := inv b1 B1 g3
    rw [h1] at g5; cases g5
theorem Hw.roAll {H : Heap} (h : Hw H) : Hw H.roAll := fun b hb => by
  have h1 : H.next ≤ b := hb
  simp only [Heap.roAll, h b h1]
theorem callN_ok {K : Cfg} (hK : KOk K) : ∀ n, COk K.P (callN K n)
  | 0 => ⟨(fun _ _ _ _ _ h => by cases h), (fun _ _ _ _ h => by cases h), (fun _ _ _ _ _ h => by cases h)⟩
  | n + 1 => by
    have ih := callN_ok hK n
    refine ⟨fun f args H v H' h ρ args' w hw hr ha => ?_, fun f args H r h => ?_, callN_next K (fun f g hg => (hK.X f g hg).next) (n + 1)⟩
    · simp only [callN] at h
      split at h
      · rename_i g hg; exact (hK.X f g hg).sound _ _ _ _ h ρ args' w hw hr ha
      · split at h
        · cases h
        · rename_i F hF
          obtain ⟨fn, c, h1, h2, h3, h4, h5, h6, h7⟩ := fnAt_inv (hK.F f F hF)
          split at h
          case isFalse => cases h
          rename_i hlen
          have run : ∀ (H0 : Heap) (v0 : Value) (H1 : Heap), finish F (exec K.P (callN K n) n F.code (env0 args) H0) = some (v0, H1) → Hw H0 → RelH ρ H0 w → Calls K.P f args'.toArray w fun e w' => ∃ v' ρ', e = .returned v' ∧ V3 ρ' v0 v' ∧ Adv H0.next ρ H0 w ρ' H1 w' := by
            intro H0 v0 H1 hf hw0 hr0
            obtain ⟨x, e, g1, g2, g3⟩ := finish_inv hf
            refine calls_of_wp h1 h2 ?_
            have he := env0_sound (n := fn.ntmps) ha (by rw [← h7]; exact hlen)
            refine wp_mono (code_sound hK.mixed ih n fn.ntmps c F.code h4 h6 g1 he hw0 hr0) fun ex a' w' hq => ?_
            obtain ⟨hx, ρ', he', adv⟩ := hq
            obtain ⟨v', r1, r2⟩ := res_sound (P := K.P) he' adv.rel h5 g3
            cases x
            · cases hx; exact ⟨he'.defers, v', r1, v', ρ', rfl, r2, adv⟩
            · cases g2
            · cases hx; exact ⟨he'.defers, v', r1, v', ρ', rfl, r2, adv⟩
          split at h
          · obtain ⟨hHH, hfl, H1, hq⟩ := quiet_inv h
            subst hHH
            refine (run H'.roAll v H1 hq hw.roAll hr.roAll).mono fun e w' he => ?_
            obtain ⟨v', ρ', rfl, r1, adv⟩ := he
            have hall : ∀ cb, cb < w.heap.size → w'.heap[cb]? = w.heap[cb]? := fun cb hcb => adv.keep cb hcb fun b L B hL hB hro => by
              simp only [Heap.roAll] at hB
              split at hB
              · cases hB; cases hro
              · cases hB
            refine ⟨v', ρ, rfl, ?_, ?_⟩
            · rw [r1.flat hfl]; exact V3.of_flat hfl
            · refine ⟨RhoLe.refl _, ⟨hr.dom, fun b L B hL hB => ?_, hr.inj⟩, adv.os, adv.tape, adv.output, adv.size, fun cb hcb _ => hall cb hcb, fun b _ h => ⟨h, rfl⟩, (fun b L h h' => by rw [h] at h'; cases h'), Nat.le_refl _, fun b L B' _ h => ⟨B', h, rfl, rfl⟩⟩
              obtain ⟨c0, t0, fr0, q1, q2⟩ := hr.blk b L B hL hB
              exact ⟨c0, t0, fr0, by rw [hall _ (Array.getElem?_eq_some_iff.1 q1).1]; exact q1, q2⟩
          · exact run H v H' h hw hr
    · simp only [callN] at h
      split at h
      · rename_i g hg; exact (hK.X f g hg).able
      · split at h
        · cases h
        · rename_i F hF
          obtain ⟨fn, c, h1, h2, h3, _⟩ := fnAt_inv (hK.F f F hF)
          exact ⟨fn, h1, h3, by rw [h2]; rfl⟩
/-- What the machine answers, the model answers. -/
theorem call_sound {K : Cfg} (hK : KOk K) {f : FuncId} {args : List Value} {H : Heap} {v : Value} {H' : Heap} (h : call K f args H = some (v, H')) {ρ : Rho} {args' : List Value} {w : World} (hw : Hw H) (hr : RelH ρ H w) (ha : All2 (V3 ρ) args args') :
    Calls K.P f args'.toArray w fun e w' => ∃ v' ρ', e = .returned v' ∧ V3 ρ' v v' ∧ Adv H.next ρ H w ρ' H' w' := by
  obtain ⟨n, hn⟩ := of_lim h
  exact (callN_ok hK n).call _ _ _ _ _ hn ρ args' w hw hr ha
end
end Go.AM
end TextAmSound
