/- AM: what the machine answers, the model answers. -/
import Derived.Test.YtiiliffoclejlaaAmDraw3
import Derived.LoopN
namespace Go.AM
set_option linter.unusedVariables false
set_option linter.unusedSimpArgs false
def ExR : IEx → Exit → Prop
  | .norm, e => e = .normal
  | .exit id, e => e = .exit id
  | .ret, e => e = .ret
section
variable {P : Program}
theorem cond_c {c : Operand} {c' : Arg} {ρ : Rho} {e : Env} {a : Act} {N : Nat} (he : EnvR ρ e a N) (hc : cArg c = some c') {b : Bool} (h : ev e c' = .bool b) : a.eval c = .bool b := by
  have := he.arg c c' hc
  rw [h] at this; exact this.bool_inv
theorem code_sound {C : CallF} (hP : P.follows .mixedOrders = true) (hC : COk P C) (n N : Nat) : ∀ (c : Code) (ic : IC), cCode P c = some ic → slotsOk N ic = true → ∀ {e : Env} {H : Heap} {x : IEx} {e' : Env} {H' : Heap} {a : Act} {w : World} {ρ : Rho}, exec P C n ic e H = some (x, e', H') →
    EnvR ρ e a N → Hw H → RelH ρ H w → c.wp P (fun ex a' w' => ExR x ex ∧ ∃ ρ', EnvR ρ' e' a' N ∧ Adv H.next ρ H w ρ' H' w') a w := by
  intro c
  induction c with
  | skip => intro ic hc hn e H x e' H' a w ρ hs he hw hr; cases hc; cases hs; exact wp_skip ⟨rfl, ρ, he, Adv.refl hr⟩
  | region id ops d =>
    intro ic hc hn e H x e' H' a w ρ hs he hw hr
    simp only [cCode] at hc
    split at hc
    case h_2 => cases hc
    rename_i is0 h0
    cases d with
    | false =>
      simp only [Bool.false_eq_true, if_false, Option.some.injEq] at hc
      subst hc
      simp only [exec] at hs
      cases hi : runIr P C is0 e H with
      | none => rw [hi] at hs; cases hs
      | some q =>
        rw [hi] at hs; cases hs
        have hsl : SlotsIn N is0 := fun i hi d hd => by
          simp only [slotsOk, List.all_eq_true] at hn
          have := hn i hi
          rw [hd] at this; simpa using this
        exact reg_sound hC h0 hsl hi he hw hr fun a' w' ρ' q1 q2 => ⟨rfl, ρ', q1, q2⟩
    | true =>
      simp only [if_true, cDraw] at hc
      split at hc
      case h_2 => cases hc
      rename_i is h1
      split at hc
      case isFalse => cases hc
      rename_i h2
      cases hc
      simp only [exec] at hs
      cases hi : runD P C is _ e H with
      | none => rw [hi] at hs; cases hs
      | some q =>
        rw [hi] at hs; cases hs
        have hsl : SlotsIn N is := fun i hi d hd => by
          simp only [slotsOk, List.all_eq_true] at hn
          have := hn i hi
          rw [hd] at this; simpa using this
        exact regd_sound hP hC h0 h1 h2 hsl hi he hw hr fun a' w' ρ' q1 q2 => ⟨rfl, ρ', q1, q2⟩
  | seq c1 c2 ih1 ih2 =>
    intro ic hc hn e H x e' H' a w ρ hs he hw hr
    simp only [cCode] at hc
    split at hc <;> cases hc
    rename_i i1 i2 h1 h2
    simp only [slotsOk, Bool.and_eq_true] at hn
    rcases nxt_inv hs with ⟨e1, H1, g1, g2⟩ | ⟨g1, g2⟩
    · refine wp_seq (wp_mono (ih1 i1 h1 hn.1 g1 he hw hr) fun ex a1 w1 hq => ?_)
      obtain ⟨hx, ρ1, he1, adv1⟩ := hq
      cases hx
      have hw1 := (exec_next hC.next n _ g1 hw).1
      refine wp_mono (ih2 i2 h2 hn.2 g2 he1 hw1 adv1.rel) fun ex2 a2 w2 hq2 => ?_
      obtain ⟨hx2, ρ2, he2, adv2⟩ := hq2
      exact ⟨hx2, ρ2, he2, adv1.trans (adv2.base adv1.next)⟩
    · refine wp_seq (wp_mono (ih1 i1 h1 hn.1 g1 he hw hr) fun ex a1 w1 hq => ?_)
      obtain ⟨hx, hrest⟩ := hq
      cases x
      · exact absurd rfl g2
      · cases hx; exact ⟨rfl, hrest⟩
      · cases hx; exact ⟨rfl, hrest⟩
  | cond c0 c1 c2 ih1 ih2 =>
    intro ic hc hn e H x e' H' a w ρ hs he hw hr
    simp only [cCode] at hc
    split at hc <;> cases hc
    rename_i a0 i1 i2 h0 h1 h2
    simp only [slotsOk, Bool.and_eq_true] at hn
    simp only [exec] at hs
    split at hs
    · rename_i hb; exact wp_cond_true (cond_c he h0 hb) (ih1 i1 h1 hn.1 hs he hw hr)
    · rename_i hb; exact wp_cond_false (cond_c he h0 hb) (ih2 i2 h2 hn.2 hs he hw hr)
    · cases hs
  | block id c1 ih =>
    intro ic hc hn e H x e' H' a w ρ hs he hw hr
    simp only [cCode, Option.map_eq_some_iff] at hc
    obtain ⟨i1, h1, rfl⟩ := hc
    simp only [slotsOk] at hn
    simp only [exec] at hs
    cases hx : exec P C n i1 e H with
    | none => rw [hx] at hs; cases hs
    | some q =>
      obtain ⟨y, e1, H1⟩ := q
      rw [hx] at hs
      refine wp_block (wp_mono (ih i1 h1 hn hx he hw hr) fun ex a1 w1 hq => ?_)
      obtain ⟨hy, hrest⟩ := hq
      cases y
      · cases hy; cases hs; exact ⟨rfl, hrest⟩
      · cases hy
        simp only [unblock] at hs
        simp only [Exit.inBlock]
        split at hs
        · rename_i hid; rw [if_pos hid]; cases hs; exact ⟨rfl, hrest⟩
        · rename_i hid; rw [if_neg hid]; cases hs; exact ⟨rfl, hrest⟩
      · cases hy; cases hs; exact ⟨rfl, hrest⟩
  | loop c1 ih =>
    intro ic hc hn e H x e' H' a w ρ hs he hw hr
    simp only [cCode, Option.map_eq_some_iff] at hc
    obtain ⟨i1, h1, rfl⟩ := hc
    simp only [slotsOk] at hn
    simp only [exec] at hs
    refine wp_loop_rounds n ?_
    have key : ∀ (k : Nat) {e1 : Env} {H1 : Heap} {a1 : Act} {w1 : World} {ρ1 : Rho}, iter (exec P C n i1) k e1 H1 = some (x, e', H') → EnvR ρ1 e1 a1 N → Hw H1 → Adv H.next ρ H w ρ1 H1 w1 →
        Code.rounds P c1 (fun ex a' w' => ExR x ex ∧ ∃ ρ', EnvR ρ' e' a' N ∧ Adv H.next ρ H w ρ' H' w') k a1 w1 := by
      intro k
      induction k with
      | zero => intro e1 H1 a1 w1 ρ1 h; cases h
      | succ k ihk =>
        intro e1 H1 a1 w1 ρ1 h he1 hw1 adv1
        rw [rounds_succ]
        rcases nxt_inv h with ⟨e2, H2, g1, g2⟩ | ⟨g1, g2⟩
        · refine wp_mono (ih i1 h1 hn g1 he1 hw1 adv1.rel) fun ex a2 w2 hq => ?_
          obtain ⟨hx, ρ2, he2, adv2⟩ := hq
          cases hx
          exact ihk g2 he2 (exec_next hC.next n _ g1 hw1).1 (adv1.trans (adv2.base adv1.next))
        · refine wp_mono (ih i1 h1 hn g1 he1 hw1 adv1.rel) fun ex a2 w2 hq => ?_
          obtain ⟨hx, ρ2, he2, adv2⟩ := hq
          have fin : ExR x ex ∧ ∃ ρ', EnvR ρ' e' a2 N ∧ Adv H.next ρ H w ρ' H' w2 := ⟨hx, ρ2, he2, adv1.trans (adv2.base adv1.next)⟩
          cases x
          · exact absurd rfl g2
          · cases hx; exact fin
          · cases hx; exact fin
    exact key n hs he hw (Adv.refl hr)
  | exit id => intro ic hc hn e H x e' H' a w ρ hs he hw hr; cases hc; cases hs; exact wp_exit ⟨rfl, ρ, he, Adv.refl hr⟩
  | ret => intro ic hc hn e H x e' H' a w ρ hs he hw hr; cases hc; cases hs; exact wp_ret ⟨rfl, ρ, he, Adv.refl hr⟩
  | rangeFunc => intro ic hc; cases hc
  | scope => intro ic hc; cases hc
  | label => intro ic hc; cases hc
  | goto => intro ic hc; cases hc
  | refuse => intro ic hc; cases hc

/-! ### results -/
theorem resV_sound {ρ : Rho} {H : Heap} {e : Env} {a : Act} {N : Nat} {w : World} (he : EnvR ρ e a N) (hr : RelH ρ H w) {r : ResultVar} {i : IRes} (hc : cRes P r = some i) {v : Value} (h : resV H e i = some v) :
    ∃ v', (match r with | .tmp t => pure (a.tmps.getD t undef) | .cell ad t => do loadVar t (← asAddr (a.tmps.getD ad undef)) : Sem Value).run P w = .ok v' w ∧ V3 ρ v v' := by
  cases r with
  | tmp t =>
    cases hc; cases h
    exact ⟨_, rfl, he.slot t⟩
  | cell ad t =>
    simp only [cRes] at hc
    have hv := he.slot ad
    split at hc
    · rename_i n h1 h2; cases hc
      simp only [resV] at h
      split at h
      · rename_i b o hb
        split at h
        · rename_i vs hrow; cases h
          rw [hb] at hv
          obtain ⟨L, q1, q2⟩ := hv.ptr_inv
          obtain ⟨v', r1, r2⟩ := ld_sound (P := P) hr (t := t) (o := o) q1 h2 h1 (v := .agg vs.toArray) (by simp [hrow])
          refine ⟨v', ?_, r2⟩
          simp only [Instr.loadAt, Instr.sureAddr, Sem.run_bind, Sem.run_pure, Result.andThen_ok] at r1
          simp only [q2, asAddr, Sem.run_bind, Sem.run_pure, Result.andThen_ok]; exact r1
        · cases h
      · cases h
    · rename_i n h1 h2; cases hc
      simp only [resV] at h
      split at h
      · rename_i b o hb
        rw [hb] at hv
        obtain ⟨L, q1, q2⟩ := hv.ptr_inv
        obtain ⟨v', r1, r2⟩ := ld_sound (P := P) hr (t := t) (o := o) q1 h2 h1 (v := v) (by simpa using h)
        refine ⟨v', ?_, r2⟩
        simp only [Instr.loadAt, Instr.sureAddr, Sem.run_bind, Sem.run_pure, Result.andThen_ok] at r1
        simp only [q2, asAddr, Sem.run_bind, Sem.run_pure, Result.andThen_ok]; exact r1
      · cases h
    · cases hc
theorem resL_sound {ρ : Rho} {H : Heap} {e : Env} {a : Act} {N : Nat} {w : World} (he : EnvR ρ e a N) (hr : RelH ρ H w) : ∀ (rs : List ResultVar) {is : List IRes} {vs : List Value}, cRess P rs = some is → resL H e is = some vs →
    ∃ vs', (rs.mapM fun r => (match r with | .tmp t => pure (a.tmps.getD t undef) | .cell ad t => do loadVar t (← asAddr (a.tmps.getD ad undef)) : Sem Value)).run P w = .ok vs' w ∧ All2 (V3 ρ) vs vs'
  | [], is, vs, hc, h => by cases hc; cases h; exact ⟨[], by simp, trivial⟩
  | r :: rs, is, vs, hc, h => by
    simp only [cRess] at hc
    split at hc <;> cases hc
    rename_i i l h1 h2
    simp only [resL] at h
    split at h
    · rename_i v hv
      split at h
      · rename_i us hus; cases h
        obtain ⟨v', q1, q2⟩ := resV_sound (P := P) he hr h1 hv
        obtain ⟨vs', q3, q4⟩ := resL_sound he hr rs h2 hus
        refine ⟨v' :: vs', ?_, q2, q4⟩
        simp only [List.mapM_cons, Sem.run_bind, q1, Result.andThen_ok, q3, Sem.run_pure]
      · cases h
    · cases h
theorem two_of_noTup {ρ : Rho} : ∀ {vs vs' : List Value}, All2 (V3 ρ) vs vs' → vs.all noTup = true → All2 (V2 ρ) vs vs'
  | [], [], _, _ => trivial
  | v :: vs, v' :: vs', h, hn => by
    simp only [List.all_cons, Bool.and_eq_true] at hn
    exact ⟨h.1.two fun us e => by subst e; simp [noTup] at hn, two_of_noTup h.2 hn.2⟩
theorem res_sound {ρ : Rho} {H : Heap} {e : Env} {a : Act} {N : Nat} {w : World} (he : EnvR ρ e a N) (hr : RelH ρ H w) {fn : Func} {is : List IRes} {v : Value} (hc : cRess P fn.results.toList = some is) (h : resAll H e is = some v) : ∃ v', (results fn a.tmps).run P w = .ok v' w ∧ V3 ρ v v' := by
  unfold resAll at h
  have hrun : ∀ vs', (fn.results.toList.mapM fun r => (match r with | .tmp t => pure (a.tmps.getD t undef) | .cell ad t => do loadVar t (← asAddr (a.tmps.getD ad undef)) : Sem Value)).run P w = .ok vs' w →
      (results fn a.tmps).run P w = .ok (if h : vs'.toArray.size = 1 then vs'.toArray[0] else .tuple vs'.toArray) w := by
    intro vs' h
    unfold results
    simp only [Array.mapM_eq_mapM_toList, Sem.run_bind, Sem.run_map]
    erw [h]
    rfl
  split at h
  · rename_i u hl
    cases h
    obtain ⟨vs', q1, q2⟩ := resL_sound (P := P) he hr _ hc hl
    obtain ⟨v', l, rfl, q3, q4⟩ := q2.cons_left
    obtain rfl := q4.nil_left
    exact ⟨v', by rw [hrun _ q1]; simp, q3⟩
  · rename_i vs hne hl
    split at h
    · rename_i hnt
      cases h
      obtain ⟨vs', q1, q2⟩ := resL_sound (P := P) he hr _ hc hl
      refine ⟨.tuple vs'.toArray, ?_, ?_⟩
      · rw [hrun _ q1, dif_neg]
        intro h1
        have h2 := q2.length
        rw [List.size_toArray] at h1
        have h3 : vs.length = 1 := by omega
        obtain ⟨x, hx⟩ := List.length_eq_one_iff.1 h3
        exact hne x hx
      · exact ⟨_, rfl, by simpa using two_of_noTup q2 hnt⟩
    · cases h
  · cases h

/-! ### calls -/
/-- A contract from elsewhere. -/
structure XSound (P : Program) (f : FuncId) (g : List Value → Heap → Option (Value × Heap)) : Prop where
  able : Callable P f
  next : ∀ args H v H', g args H = some (v, H') → Hw H → Hw H' ∧ H.next ≤ H'.next
  sound : ∀ args H v H', g args H = some (v, H') → ∀ ρ args' w, Hw H → RelH ρ H w → All2 (V3 ρ) args args' →
    Calls P f args'.toArray w fun e w' => ∃ v' ρ', e = .returned v' ∧ V3 ρ' v v' ∧ Adv H.next ρ H w ρ' H' w'
structure KOk (K : Cfg) : Prop where
  mixed : K.P.follows .mixedOrders = true
  F : ∀ f F, K.F f = some F → fnAt K.P f = some F
  X : ∀ f g, K.X f = some g → XSound K.P f g
theorem fnAt_inv {f : FuncId} {F : IFn} (h : fnAt P f = some F) : ∃ fn c, P.funcs[f]? = some fn ∧ fn.body = some c ∧ fn.name ≠ "runtime.NumGoroutine" ∧ cCode P c = some F.code ∧ cRess P fn.results.toList = some F.res ∧ slotsOk fn.ntmps F.code = true ∧ F.ntmps = fn.ntmps := by
  unfold fnAt at h
  obtain ⟨fn, h1, h2⟩ := Option.bind_eq_some_iff.1 h
  unfold cFn at h2
  split at h2
  · cases h2
  · rename_i c hc
    split at h2
    · cases h2
    · rename_i hn
      split at h2
      · rename_i ic rs q1 q2
        split at h2
        · rename_i hs; cases h2
          exact ⟨fn, c, h1, hc, by simpa using hn, q1, q2, hs, rfl⟩
        · cases h2
      · cases h2
theorem env0_sound {ρ : Rho} {args args' : List Value} {n : Nat} (h : All2 (V3 ρ) args args') (hl : args.length ≤ n) : EnvR ρ (env0 args) { tmps := args'.toArray ++ Array.replicate (n - args'.toArray.size) undef, defers := [] } n := by
  have hlen := h.length
  refine ⟨rfl, by simp; omega, fun t => ?_⟩
  unfold env0
  simp only [List.getD_eq_getElem?_getD, Array.getD_eq_getD_getElem?]
  by_cases ht : t < args.length
  · obtain ⟨b, hb, hV⟩ := h.get (List.getElem?_eq_getElem ht)
    rw [List.getElem?_eq_getElem ht, Array.getElem?_append_left (by simp; omega)]
    simp only [List.getElem?_toArray, hb, Option.getD_some]
    exact hV
  · rw [List.getElem?_eq_none (by omega), Array.getElem?_append_right (by simp; omega), Array.getElem?_replicate]
    split <;> exact V3.undef
theorem RelH.roAll {ρ : Rho} {H : Heap} {w : World} (h : RelH ρ H w) : RelH ρ H.roAll w := by
  have inv : ∀ b B, H.roAll.blk b = some B → ∃ B0, H.blk b = some B0 ∧ B.ro = true ∧ B.esz = B0.esz ∧ B.at_ = B0.at_ := fun b B hB => by
    simp only [Heap.roAll] at hB
    split at hB
    · rename_i B0 h0; cases hB; exact ⟨B0, h0, rfl, rfl, rfl⟩
    · cases hB
  refine ⟨h.dom, fun b L B hL hB => ?_, fun b1 b2 L1 L2 B1 B2 g1 g2 g3 g4 g5 g6 => ?_⟩
  · obtain ⟨B0, h0, h1, h2, h3⟩ := inv b B hB
    obtain ⟨c, t, fr, q1, q2, q3, q4, q5⟩ := h.blk b L B0 hL h0
    exact ⟨c, t, fr, q1, q2, q3.trans h2.symm, (fun hro => by rw [h1] at hro; cases hro), (fun o v hv => q5 o v (by rw [← h3]; exact hv))⟩
  · obtain ⟨_, _, h1, _⟩ := inv b1 B1 g3
    rw [h1] at g5; cases g5
theorem Hw.roAll {H : Heap} (h : Hw H) : Hw H.roAll := fun b hb => by
  have h1 : H.next ≤ b := hb
  simp only [Heap.roAll, h b h1]
theorem callN_ok {K : Cfg} (hK : KOk K) : ∀ n, COk K.P (callN K n)
  | 0 => ⟨(fun _ _ _ _ _ h => by cases h), (fun _ _ _ _ h => by cases h), (fun _ _ _ _ _ h => by cases h)⟩
  | n + 1 => by
    have ih := callN_ok hK n
    refine ⟨fun f args H v H' h ρ args' w hw hr ha => ?_, fun f args H r h => ?_, callN_next K (fun f g hg => (hK.X f g hg).next) (n + 1)⟩
    · simp only [callN] at h
      split at h
      · rename_i g hg; exact (hK.X f g hg).sound _ _ _ _ h ρ args' w hw hr ha
      · split at h
        · cases h
        · rename_i F hF
          obtain ⟨fn, c, h1, h2, h3, h4, h5, h6, h7⟩ := fnAt_inv (hK.F f F hF)
          split at h
          case isFalse => cases h
          rename_i hlen
          have run : ∀ (H0 : Heap) (v0 : Value) (H1 : Heap), finish F (exec K.P (callN K n) n F.code (env0 args) H0) = some (v0, H1) → Hw H0 → RelH ρ H0 w → Calls K.P f args'.toArray w fun e w' => ∃ v' ρ', e = .returned v' ∧ V3 ρ' v0 v' ∧ Adv H0.next ρ H0 w ρ' H1 w' := by
            intro H0 v0 H1 hf hw0 hr0
            obtain ⟨x, e, g1, g2, g3⟩ := finish_inv hf
            refine calls_of_wp h1 h2 ?_
            have he := env0_sound (n := fn.ntmps) ha (by rw [← h7]; exact hlen)
            refine wp_mono (code_sound hK.mixed ih n fn.ntmps c F.code h4 h6 g1 he hw0 hr0) fun ex a' w' hq => ?_
            obtain ⟨hx, ρ', he', adv⟩ := hq
            obtain ⟨v', r1, r2⟩ := res_sound (P := K.P) he' adv.rel h5 g3
            cases x
            · cases hx; exact ⟨he'.defers, v', r1, v', ρ', rfl, r2, adv⟩
            · cases g2
            · cases hx; exact ⟨he'.defers, v', r1, v', ρ', rfl, r2, adv⟩
          split at h
          · obtain ⟨hHH, hfl, H1, hq⟩ := quiet_inv h
            subst hHH
            refine (run H'.roAll v H1 hq hw.roAll hr.roAll).mono fun e w' he => ?_
            obtain ⟨v', ρ', rfl, r1, adv⟩ := he
            have hall : ∀ cb, cb < w.heap.size → w'.heap[cb]? = w.heap[cb]? := fun cb hcb => adv.keep cb hcb fun b L B hL hB hro => by
              simp only [Heap.roAll] at hB
              split at hB
              · cases hB; cases hro
              · cases hB
            refine ⟨v', ρ, rfl, ?_, ?_⟩
            · rw [r1.flat hfl]; exact V3.of_flat hfl
            · refine ⟨RhoLe.refl _, ⟨hr.dom, fun b L B hL hB => ?_, hr.inj⟩, adv.os, adv.tape, adv.output, adv.size, fun cb hcb _ => hall cb hcb, fun b _ h => ⟨h, rfl⟩, (fun b L h h' => by rw [h] at h'; cases h'), Nat.le_refl _, fun b L B' _ h => ⟨B', h, rfl, rfl⟩⟩
              obtain ⟨c0, t0, fr0, q1, q2⟩ := hr.blk b L B hL hB
              exact ⟨c0, t0, fr0, by rw [hall _ (Array.getElem?_eq_some_iff.1 q1).1]; exact q1, q2⟩
          · exact run H v H' h hw hr
    · simp only [callN] at h
      split at h
      · rename_i g hg; exact (hK.X f g hg).able
      · split at h
        · cases h
        · rename_i F hF
          obtain ⟨fn, c, h1, h2, h3, _⟩ := fnAt_inv (hK.F f F hF)
          exact ⟨fn, h1, h3, by rw [h2]; rfl⟩
/-- What the machine answers, the model answers. -/
theorem call_sound {K : Cfg} (hK : KOk K) {f : FuncId} {args : List Value} {H : Heap} {v : Value} {H' : Heap} (h : call K f args H = some (v, H')) {ρ : Rho} {args' : List Value} {w : World} (hw : Hw H) (hr : RelH ρ H w) (ha : All2 (V3 ρ) args args') :
    Calls K.P f args'.toArray w fun e w' => ∃ v' ρ', e = .returned v' ∧ V3 ρ' v v' ∧ Adv H.next ρ H w ρ' H' w' := by
  obtain ⟨n, hn⟩ := of_lim h
  exact (callN_ok hK n).call _ _ _ _ _ hn ρ args' w hw hr ha
end
end Go.AM
