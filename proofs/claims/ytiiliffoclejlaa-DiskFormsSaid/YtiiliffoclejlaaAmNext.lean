/- AM: block numbers only grow; nothing stands past the next one; what an instruction looks at. -/
import Derived.Test.YtiiliffoclejlaaAmOp5
namespace Go.AM
set_option linter.unusedVariables false
set_option linter.unusedSimpArgs false
def NextOk (C : CallF) : Prop := ∀ f args H v H', C f args H = some (v, H') → Hw H → Hw H' ∧ H.next ≤ H'.next
theorem Hw.add {H : Heap} (h : Hw H) (B : Blk) : Hw (H.add B) := fun b hb => by
  have h1 : H.next + 1 ≤ b := hb
  simp only [Heap.add]
  rw [if_neg (by omega)]; exact h b (by omega)
theorem Hw.set {H : Heap} (h : Hw H) {b : Nat} {f : Option Blk} (hb : b < H.next ∨ f = none) : Hw (H.set b f) := fun k hk => by
  have h1 : H.next ≤ k := hk
  simp only [Heap.set]
  by_cases e : k = b
  · rw [if_pos e]; rcases hb with hb | hb
    · omega
    · exact hb
  · rw [if_neg e]; exact h k h1
theorem Hw.lt {H : Heap} (h : Hw H) {b : Nat} {B : Blk} (hb : H.blk b = some B) : b < H.next := by
  by_cases hl : b < H.next
  · exact hl
  · rw [h b (by omega)] at hb; cases hb
theorem store_next {H H' : Heap} {b o : Nat} {vs : List Value} (h : H.store b o vs = some H') : (Hw H → Hw H') ∧ H'.next = H.next := by
  unfold Heap.store at h
  split at h
  · cases h; exact ⟨id, rfl⟩
  · split at h
    · rename_i B hB
      split at h
      · cases h; exact ⟨fun hw => hw.set (.inl (hw.lt hB)), rfl⟩
      · cases h
    · cases h
theorem app_next {H H' : Heap} {esz bytes k : Nat} {x v : Value} {ys : List Value} (h : appV H esz bytes k x ys = some (v, H')) (hw : Hw H) : Hw H' ∧ H.next ≤ H'.next := by
  unfold appV at h
  split at h
  · split at h
    · cases h; exact ⟨hw, Nat.le_refl _⟩
    · cases h
  split at h
  · split at h
    · cases h; exact ⟨hw.add _, Nat.le_succ _⟩
    · cases h
  · split at h
    · split at h
      · rename_i H1 hst; cases h
        have := store_next hst
        exact ⟨this.1 hw, by rw [this.2]; exact Nat.le_refl _⟩
      · cases h
    · split at h
      · split at h
        · split at h
          · cases h; exact ⟨hw.add _, Nat.le_succ _⟩
          · split at h
            · split at h
              · cases h; exact ⟨(hw.set (.inr rfl)).add _, Nat.le_succ _⟩
              · cases h
            · cases h
        · cases h
      · cases h
  · cases h
theorem step_same {P : Program} {C : CallF} {i : Ins} {e : Env} {H H' : Heap} {v : Value} (h1 : isAl i = false) (h2 : isEff i = false) (h : step P C i e H = some (v, H')) : H' = H := by
  cases i <;> simp [isAl, isEff] at h1 h2 <;> simp only [step] at h
  all_goals first
    | (cases h; rfl; done)
    | (repeat' split at h
       all_goals first | (cases h; rfl; done) | (cases h; done))
theorem step_alc {P : Program} {C : CallF} {i : Ins} {e : Env} {H H' : Heap} {v : Value} (h1 : isAl i = true) (h : step P C i e H = some (v, H')) : ∃ g B, alc i e = some (g, B) ∧ v = g H.next ∧ H' = H.add B := by
  cases i <;> simp [isAl] at h1 <;> simp only [step] at h <;> (split at h; rename_i g B hg; cases h; exact ⟨g, B, hg, rfl, rfl⟩; cases h)
theorem step_next {P : Program} {C : CallF} (hC : NextOk C) {i : Ins} {e : Env} {H H' : Heap} {v : Value} (h : step P C i e H = some (v, H')) (hw : Hw H) : Hw H' ∧ H.next ≤ H'.next := by
  by_cases h2 : isEff i = true
  · cases i <;> simp [isEff] at h2 <;> simp only [step] at h
    case st n a x =>
      repeat' split at h
      all_goals first | (cases h; done) | skip
      rename_i hst; cases h
      have := store_next hst
      exact ⟨this.1 hw, by rw [this.2]; exact Nat.le_refl _⟩
    case call f xs => exact hC _ _ _ _ _ h hw
    case callV x xs =>
      repeat' split at h
      all_goals first | (cases h; done) | exact hC _ _ _ _ _ h hw
    case app esz bytes x y =>
      repeat' split at h
      all_goals first | (cases h; done) | exact app_next h hw
    case copy esz x y =>
      repeat' split at h
      all_goals first | (cases h; done) | skip
      · rename_i hst; cases h
        have := store_next hst
        exact ⟨this.1 hw, by rw [this.2]; exact Nat.le_refl _⟩
      · cases h; exact ⟨hw, Nat.le_refl _⟩
    case clr z x =>
      repeat' split at h
      all_goals first | (cases h; done) | skip
      · cases h; exact ⟨hw, Nat.le_refl _⟩
      · rename_i hst; cases h
        have := store_next hst
        exact ⟨this.1 hw, by rw [this.2]; exact Nat.le_refl _⟩
    case bad => cases h
  · have h2' : isEff i = false := by simpa using h2
    by_cases h1 : isAl i = true
    · obtain ⟨g, B, _, _, rfl⟩ := step_alc h1 h
      exact ⟨hw.add B, Nat.le_succ _⟩
    · obtain rfl := step_same (by simpa using h1) h2' h
      exact ⟨hw, Nat.le_refl _⟩
theorem stepIr_next {P : Program} {C : CallF} (hC : NextOk C) {i : Ir} {e e' : Env} {H H' : Heap} (h : stepIr P C i e H = some (e', H')) (hw : Hw H) : Hw H' ∧ H.next ≤ H'.next := by
  unfold stepIr at h
  split at h
  · split at h
    · rename_i v H1 hs; cases h; exact step_next hC hs hw
    · cases h
  · cases h; exact ⟨hw, Nat.le_refl _⟩
theorem runIr_next {P : Program} {C : CallF} (hC : NextOk C) : ∀ (is : List Ir) {e e' : Env} {H H' : Heap}, runIr P C is e H = some (e', H') → Hw H → Hw H' ∧ H.next ≤ H'.next
  | [], e, e', H, H', h, hw => by cases h; exact ⟨hw, Nat.le_refl _⟩
  | i :: is, e, e', H, H', h, hw => by
    simp only [runIr] at h
    split at h
    · rename_i e1 H1 hs
      have a := stepIr_next hC hs hw
      have b := runIr_next hC is h a.1
      exact ⟨b.1, by omega⟩
    · cases h
theorem runTr_next {P : Program} {C : CallF} (hC : NextOk C) : ∀ (is : List Ir) {e : Env} {H : Heap} {l : List (Env × Heap)} {r : Env × Heap}, runTr P C is e H = some l → l.getLast? = some r → Hw H → Hw r.2 ∧ H.next ≤ r.2.next
  | [], e, H, l, r, h, hr, hw => by cases h; cases hr; exact ⟨hw, Nat.le_refl _⟩
  | i :: is, e, H, l, r, h, hr, hw => by
    simp only [runTr] at h
    split at h
    · rename_i e1 H1 hs
      split at h
      · rename_i l' hl; cases h
        have a := stepIr_next hC hs hw
        cases l' with
        | nil => exfalso; cases is <;> simp only [runTr] at hl <;> (repeat' split at hl) <;> cases hl
        | cons x xs =>
          rw [List.getLast?_cons_cons] at hr
          have b := runTr_next hC is hl hr a.1
          exact ⟨b.1, by omega⟩
      · cases h
    · cases h
theorem nxt_inv {r : Option (IEx × Env × Heap)} {f : Env → Heap → Option (IEx × Env × Heap)} {x : IEx} {e : Env} {H : Heap} (h : nxt r f = some (x, e, H)) : (∃ e1 H1, r = some (.norm, e1, H1) ∧ f e1 H1 = some (x, e, H)) ∨ (r = some (x, e, H) ∧ x ≠ .norm) := by
  cases r with
  | none => cases h
  | some q =>
    obtain ⟨y, e1, H1⟩ := q
    cases y
    · exact .inl ⟨e1, H1, rfl, h⟩
    · right; cases h; exact ⟨rfl, by simp⟩
    · right; cases h; exact ⟨rfl, by simp⟩
theorem iter_next {f : Env → Heap → Option (IEx × Env × Heap)} (hf : ∀ e H x e' H', f e H = some (x, e', H') → Hw H → Hw H' ∧ H.next ≤ H'.next) : ∀ (n : Nat) {e : Env} {H : Heap} {x : IEx} {e' : Env} {H' : Heap}, iter f n e H = some (x, e', H') → Hw H → Hw H' ∧ H.next ≤ H'.next
  | 0, _, _, _, _, _, h, _ => by cases h
  | n + 1, e, H, x, e', H', h, hw => by
    rcases nxt_inv h with ⟨e1, H1, h1, h2⟩ | ⟨h1, _⟩
    · have a := hf _ _ _ _ _ h1 hw
      have b := iter_next hf n h2 a.1
      exact ⟨b.1, by omega⟩
    · exact hf _ _ _ _ _ h1 hw
theorem exec_next {P : Program} {C : CallF} (hC : NextOk C) (n : Nat) : ∀ (c : IC) {e : Env} {H : Heap} {x : IEx} {e' : Env} {H' : Heap}, exec P C n c e H = some (x, e', H') → Hw H → Hw H' ∧ H.next ≤ H'.next := by
  intro c
  induction c with
  | skip => intro e H x e' H' h hw; cases h; exact ⟨hw, Nat.le_refl _⟩
  | exit id => intro e H x e' H' h hw; cases h; exact ⟨hw, Nat.le_refl _⟩
  | ret => intro e H x e' H' h hw; cases h; exact ⟨hw, Nat.le_refl _⟩
  | reg is =>
    intro e H x e' H' h hw
    simp only [exec] at h
    cases hs : runIr P C is e H with
    | none => rw [hs] at h; cases h
    | some q => rw [hs] at h; cases h; exact runIr_next hC is hs hw
  | regd is ch =>
    intro e H x e' H' h hw
    simp only [exec] at h
    cases hs : runD P C is ch e H with
    | none => rw [hs] at h; cases h
    | some q =>
      rw [hs] at h; cases h
      unfold runD at hs
      split at hs
      · rename_i tr ht
        split at hs
        · exact runTr_next hC is ht hs hw
        · cases hs
      · cases hs
  | seq a b iha ihb =>
    intro e H x e' H' h hw
    rcases nxt_inv h with ⟨e1, H1, h1, h2⟩ | ⟨h1, _⟩
    · have p := iha h1 hw
      have q := ihb h2 p.1
      exact ⟨q.1, by omega⟩
    · exact iha h1 hw
  | cond c a b iha ihb =>
    intro e H x e' H' h hw
    simp only [exec] at h
    split at h
    · exact iha h hw
    · exact ihb h hw
    · cases h
  | block id a iha =>
    intro e H x e' H' h hw
    simp only [exec] at h
    cases hs : exec P C n a e H with
    | none => rw [hs] at h; cases h
    | some q =>
      obtain ⟨y, e1, H1⟩ := q
      rw [hs] at h
      have p := iha hs hw
      cases y <;> simp only [unblock] at h
      · cases h; exact p
      · split at h <;> cases h <;> exact p
      · cases h; exact p
  | loop a iha =>
    intro e H x e' H' h hw
    exact iter_next (fun _ _ _ _ _ h hw => iha h hw) n h hw
theorem finish_inv {F : IFn} {r : Option (IEx × Env × Heap)} {v : Value} {H : Heap} (h : finish F r = some (v, H)) : ∃ x e, r = some (x, e, H) ∧ isEnd x = true ∧ resAll H e F.res = some v := by
  unfold finish at h
  split at h
  · rename_i x e H'
    split at h
    · rename_i hx
      split at h
      · rename_i u hu; cases h; exact ⟨x, e, rfl, hx, hu⟩
      · cases h
    · cases h
  · cases h
theorem quiet_inv {H H' : Heap} {r : Option (Value × Heap)} {v : Value} (h : quiet H r = some (v, H')) : H' = H ∧ flat v = true ∧ ∃ H1, r = some (v, H1) := by
  unfold quiet at h
  split at h
  · rename_i u H1
    split at h
    · rename_i hf; cases h; exact ⟨rfl, hf, H1, rfl⟩
    · cases h
  · cases h
theorem callN_next (K : Cfg) (hX : ∀ f g, K.X f = some g → ∀ args H v H', g args H = some (v, H') → Hw H → Hw H' ∧ H.next ≤ H'.next) : ∀ n, NextOk (callN K n)
  | 0, _, _, _, _, _, h, _ => by cases h
  | n + 1, f, args, H, v, H', h, hw => by
    simp only [callN] at h
    split at h
    · rename_i g hg; exact hX f g hg _ _ _ _ h hw
    · split at h
      · cases h
      · rename_i F hF
        split at h
        · split at h
          · obtain ⟨rfl, _, _⟩ := quiet_inv h; exact ⟨hw, Nat.le_refl _⟩
          · obtain ⟨x, e, h1, _, _⟩ := finish_inv h
            exact exec_next (callN_next K hX n) n _ h1 hw
        · cases h

/-! ### what an instruction looks at -/
theorem ev_congr {e e' : Env} {a : Arg} (h : ∀ t ∈ a.tmps, e t = e' t) : ev e a = ev e' a := by
  cases a with
  | t n => exact h n (by simp [Arg.tmps])
  | c v => rfl
theorem map_congr {e e' : Env} {xs : List Arg} (h : ∀ t ∈ xs.flatMap Arg.tmps, e t = e' t) : xs.map (ev e) = xs.map (ev e') :=
  List.map_congr_left fun a ha => ev_congr fun t ht => h t (List.mem_flatMap.2 ⟨a, ha, ht⟩)
theorem parts_congr {e e' : Env} {ps : List (Nat × Nat × Arg)} (h : ∀ t ∈ ps.flatMap (fun p => p.2.2.tmps), e t = e' t) : (ps.map fun p => (p.1, p.2.1, ev e p.2.2)) = ps.map fun p => (p.1, p.2.1, ev e' p.2.2) :=
  List.map_congr_left fun a ha => by rw [ev_congr fun t ht => h t (List.mem_flatMap.2 ⟨a, ha, ht⟩)]
theorem opt_congr {e e' : Env} {x : Option Arg} (h : ∀ t ∈ optT x, e t = e' t) : x.map (ev e) = x.map (ev e') := by
  cases x with
  | none => rfl
  | some a => simp only [Option.map_some]; rw [ev_congr h]
theorem alc_congr {e e' : Env} {i : Ins} (h : ∀ t ∈ i.tmps, e t = e' t) : alc i e = alc i e' := by
  cases i <;> simp only [Ins.tmps, List.mem_append] at h <;> simp only [alc]
  case box n x => rw [ev_congr h]
  case mkrow a b c ps => rw [parts_congr h]
  case s2b x => rw [ev_congr h]
  case mks a b c l m => rw [ev_congr fun t ht => h t (.inl ht), ev_congr fun t ht => h t (.inr ht)]
theorem step_congr {P : Program} {C : CallF} {e e' : Env} {i : Ins} {H : Heap} (h : ∀ t ∈ i.tmps, e t = e' t) : step P C i e H = step P C i e' H := by
  by_cases ha : isAl i = true
  · have := alc_congr h
    cases i <;> simp [isAl] at ha <;> simp only [step, this]
  · cases i <;> (first | (simp [isAl] at ha; done) | skip) <;> simp only [Ins.tmps, List.mem_append] at h <;> simp only [step]
    case mov x => rw [ev_congr h]
    case pick a b c => rw [ev_congr (a := a) fun t ht => h t (.inl (.inl ht)), ev_congr (a := b) fun t ht => h t (.inl (.inr ht)), ev_congr (a := c) fun t ht => h t (.inr ht)]
    case build z ps => rw [parts_congr h]
    case ld x => rw [ev_congr h]
    case ldn n x => rw [ev_congr h]
    case st n a x => rw [ev_congr (a := a) fun t ht => h t (.inl ht), ev_congr (a := x) fun t ht => h t (.inr ht)]
    case nilck x => rw [ev_congr h]
    case bin op t a x => rw [ev_congr (a := a) fun t ht => h t (.inl ht), ev_congr (a := x) fun t ht => h t (.inr ht)]
    case un op x => rw [ev_congr h]
    case ii k x => rw [ev_congr h]
    case b2s x => rw [ev_congr h]
    case clos f xs => rw [map_congr h]
    case sls x lo hi => rw [ev_congr (a := x) fun t ht => h t (.inl (.inl ht)), opt_congr (x := lo) fun t ht => h t (.inl (.inr ht)), opt_congr (x := hi) fun t ht => h t (.inr ht)]
    case slv n x lo hi mx => rw [ev_congr (a := x) fun t ht => h t (.inl (.inl (.inl ht))), opt_congr (x := lo) fun t ht => h t (.inl (.inl (.inr ht))), opt_congr (x := hi) fun t ht => h t (.inl (.inr ht)), opt_congr (x := mx) fun t ht => h t (.inr ht)]
    case fadr n x => rw [ev_congr h]
    case iadrS n a x => rw [ev_congr (a := a) fun t ht => h t (.inl ht), ev_congr (a := x) fun t ht => h t (.inr ht)]
    case iadrA m n a x => rw [ev_congr (a := a) fun t ht => h t (.inl ht), ev_congr (a := x) fun t ht => h t (.inr ht)]
    case fld a b c x => rw [ev_congr h]
    case idxA l m g a x => rw [ev_congr (a := a) fun t ht => h t (.inl ht), ev_congr (a := x) fun t ht => h t (.inr ht)]
    case idxS a x => rw [ev_congr (a := a) fun t ht => h t (.inl ht), ev_congr (a := x) fun t ht => h t (.inr ht)]
    case ext n x => rw [ev_congr h]
    case call f xs => rw [map_congr h]
    case callV x xs => rw [ev_congr (a := x) fun t ht => h t (.inl ht), map_congr fun t ht => h t (.inr ht)]
    case app m n a x => rw [ev_congr (a := a) fun t ht => h t (.inl ht), ev_congr (a := x) fun t ht => h t (.inr ht)]
    case lenV x => rw [ev_congr h]
    case lenS x => rw [ev_congr h]
    case copy n a x => rw [ev_congr (a := a) fun t ht => h t (.inl ht), ev_congr (a := x) fun t ht => h t (.inr ht)]
    case eqa b ss a x => rw [ev_congr (a := a) fun t ht => h t (.inl ht), ev_congr (a := x) fun t ht => h t (.inr ht)]
    case mm b a x => rw [ev_congr (a := a) fun t ht => h t (.inl ht), ev_congr (a := x) fun t ht => h t (.inr ht)]
    case clr z x => rw [ev_congr h]
    case capV x => rw [ev_congr h]
theorem wanted_congr {e e' : Env} {i : Ir} (h : ∀ t ∈ i.looks, e t = e' t) : wanted i e = wanted i e' := by
  unfold wanted
  cases hg : i.guard with
  | none => rfl
  | some p => obtain ⟨d, w⟩ := p; simp only; rw [h d (by simp [Ir.looks, hg])]
end Go.AM
