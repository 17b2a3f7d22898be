import Derived.Test.YtbgidagbogpfkaaDoorAh1
import Derived.LoopN
import Derived.Lib.Repeat
import Derived.Laws.Strings
import Derived.Laws.BitsLemmas
import Derived.Laws.BytesArg
import Derived.Deep.Slices
import Derived.OpenShut
import Derived.Carry
import Derived.ChangeOld
import Derived.SizedLaws
import Derived.ShutString
section TextAhSound
/- AM: what the machine answers, the model answers. -/
namespace Go.AM
set_option linter.unusedVariables false
set_option linter.unusedSimpArgs false
def ExR : IEx → Exit → Prop
  | .norm, e => e = .normal
  | .exit id, e => e = .exit id
  | .ret, e => e = .ret
section
variable {P : Program}
theorem cond_c {c : Operand} {c' : Arg} {ρ : Rho} {e : Env} {a : Act} {N : Nat} (he : EnvR ρ e a N) (hc : cArg c = some c') {b : Bool} (h : ev e c' = .bool b) : a.eval c = .bool b := by
  have := he.arg c c' hc
  rw [h] at this; exact this.bool_inv
theorem code_sound {C : CallF} (hP : P.follows .mixedOrders = true) (hC : COk P C) (n N : Nat) : ∀ (c : Code) (ic : IC), cCode P c = some ic → slotsOk N ic = true → ∀ {e : Env} {H : Heap} {x : IEx} {e' : Env} {H' : Heap} {a : Act} {w : World} {ρ : Rho}, exec P C n ic e H = some (x, e', H') →
    EnvR ρ e a N → Hw H → RelH ρ H w → c.wp P (fun ex a' w' => ExR x ex ∧ ∃ ρ', EnvR ρ' e' a' N ∧ Adv H.next ρ H w ρ' H' w') a w := by
  intro c
  induction c with
  | skip => intro ic hc hn e H x e' H' a w ρ hs he hw hr; cases hc; cases hs; exact wp_skip ⟨rfl, ρ, he, Adv.refl hr⟩
  | region id ops d =>
    intro ic hc hn e H x e' H' a w ρ hs he hw hr
    simp only [cCode] at hc
    split at hc
    case h_2 => cases hc
    rename_i is0 h0
    cases d with
    | false =>
      simp only [Bool.false_eq_true, if_false, Option.some.injEq] at hc
      subst hc
      simp only [exec] at hs
      cases hi : runIr P C is0 e H with
      | none => rw [hi] at hs; cases hs
      | some q =>
        rw [hi] at hs; cases hs
        have hsl : SlotsIn N is0 := fun i hi d hd => by
          simp only [slotsOk, List.all_eq_true] at hn
          have := hn i hi
          rw [hd] at this; simpa using this
        exact reg_sound hC h0 hsl hi he hw hr fun a' w' ρ' q1 q2 => ⟨rfl, ρ', q1, q2⟩
    | true =>
      simp only [if_true, cDraw] at hc
      split at hc
      case h_2 => cases hc
      rename_i is h1
      split at hc
      case isFalse => cases hc
      rename_i h2
      cases hc
      simp only [exec] at hs
      cases hi : runD P C is _ e H with
      | none => rw [hi] at hs; cases hs
      | some q =>
        rw [hi] at hs; cases hs
        have hsl : SlotsIn N is := fun i hi d hd => by
          simp only [slotsOk, List.all_eq_true] at hn
          have := hn i hi
          rw [hd] at this; simpa using this
        exact regd_sound hP hC h0 h1 h2 hsl hi he hw hr fun a' w' ρ' q1 q2 => ⟨rfl, ρ', q1, q2⟩
  | seq c1 c2 ih1 ih2 =>
    intro ic hc hn e H x e' H' a w ρ hs he hw hr
    simp only [cCode] at hc
    split at hc <;> cases hc
    rename_i i1 i2 h1 h2
    simp only [slotsOk, Bool.and_eq_true] at hn
    rcases nxt_inv hs with ⟨e1, H1, g1, g2⟩ | ⟨g1, g2⟩
    · refine wp_seq (wp_mono (ih1 i1 h1 hn.1 g1 he hw hr) fun ex a1 w1 hq => ?_)
      obtain ⟨hx, ρ1, he1, adv1⟩ := hq
      cases hx
      have hw1 := (exec_next hC.next n _ g1 hw).1
      refine wp_mono (ih2 i2 h2 hn.2 g2 he1 hw1 adv1.rel) fun ex2 a2 w2 hq2 => ?_
      obtain ⟨hx2, ρ2, he2, adv2⟩ := hq2
      exact ⟨hx2, ρ2, he2, adv1.trans (adv2.base adv1.next)⟩
    · refine wp_seq (wp_mono (ih1 i1 h1 hn.1 g1 he hw hr) fun ex a1 w1 hq => ?_)
      obtain ⟨hx, hrest⟩ := hq
      cases x
      · exact absurd rfl g2
      · cases hx; exact ⟨rfl, hrest⟩
      · cases hx; exact ⟨rfl, hrest⟩
  | cond c0 c1 c2 ih1 ih2 =>
    intro ic hc hn e H x e' H' a w ρ hs he hw hr
    simp only [cCode] at hc
    split at hc <;> cases hc
    rename_i a0 i1 i2 h0 h1 h2
    simp only [slotsOk, Bool.and_eq_true] at hn
    simp only [exec] at hs
    split at hs
    · rename_i hb; exact wp_cond_true (cond_c he h0 hb) (ih1 i1 h1 hn.1 hs he hw hr)
    · rename_i hb; exact wp_cond_false (cond_c he h0 hb) (ih2 i2 h2 hn.2 hs he hw hr)
    · cases hs
  | block id c1 ih =>
    intro ic hc hn e H x e' H' a w ρ hs he hw hr
    simp only [cCode, Option.map_eq_some_iff] at hc
    obtain ⟨i1, h1, rfl⟩ := hc
    simp only [slotsOk] at hn
    simp only [exec] at hs
    cases hx : exec P C n i1 e H with
    | none => rw [hx] at hs; cases hs
    | some q =>
      obtain ⟨y, e1, H1⟩ := q
      rw [hx] at hs
      refine wp_block (wp_mono (ih i1 h1 hn hx he hw hr) fun ex a1 w1 hq => ?_)
      obtain ⟨hy, hrest⟩ := hq
      cases y
      · cases hy; cases hs; exact ⟨rfl, hrest⟩
      · cases hy
        simp only [unblock] at hs
        simp only [Exit.inBlock]
        split at hs
        · rename_i hid; rw [if_pos hid]; cases hs; exact ⟨rfl, hrest⟩
        · rename_i hid; rw [if_neg hid]; cases hs; exact ⟨rfl, hrest⟩
      · cases hy; cases hs; exact ⟨rfl, hrest⟩
  | loop c1 ih =>
    intro ic hc hn e H x e' H' a w ρ hs he hw hr
    simp only [cCode, Option.map_eq_some_iff] at hc
    obtain ⟨i1, h1, rfl⟩ := hc
    simp only [slotsOk] at hn
    simp only [exec] at hs
    refine wp_loop_rounds n ?_
    have key : ∀ (k : Nat) {e1 : Env} {H1 : Heap} {a1 : Act} {w1 : World} {ρ1 : Rho}, iter (exec P C n i1) k e1 H1 = some (x, e', H') → EnvR ρ1 e1 a1 N → Hw H1 → Adv H.next ρ H w ρ1 H1 w1 →
        Code.rounds P c1 (fun ex a' w' => ExR x ex ∧ ∃ ρ', EnvR ρ' e' a' N ∧ Adv H.next ρ H w ρ' H' w') k a1 w1 := by
      intro k
      induction k with
      | zero => intro e1 H1 a1 w1 ρ1 h; cases h
      | succ k ihk =>
        intro e1 H1 a1 w1 ρ1 h he1 hw1 adv1
        rw [rounds_succ]
        rcases nxt_inv h with ⟨e2, H2, g1, g2⟩ | ⟨g1, g2⟩
        · refine wp_mono (ih i1 h1 hn g1 he1 hw1 adv1.rel) fun ex a2 w2 hq => ?_
          obtain ⟨hx, ρ2, he2, adv2⟩ := hq
          cases hx
          exact ihk g2 he2 (exec_next hC.next n _ g1 hw1).1 (adv1.trans (adv2.base adv1.next))
        · refine wp_mono (ih i1 h1 hn g1 he1 hw1 adv1.rel) fun ex a2 w2 hq => ?_
          obtain ⟨hx, ρ2, he2, adv2⟩ := hq
          have fin : ExR x ex ∧ ∃ ρ', EnvR ρ' e' a2 N ∧ Adv H.next ρ H w ρ' H' w2 := ⟨hx, ρ2, he2, adv1.trans (adv2.base adv1.next)⟩
          cases x
          · exact absurd rfl g2
          · cases hx; exact fin
          · cases hx; exact fin
    exact key n hs he hw (Adv.refl hr)
  | exit id => intro ic hc hn e H x e' H' a w ρ hs he hw hr; cases hc; cases hs; exact wp_exit ⟨rfl, ρ, he, Adv.refl hr⟩
  | ret => intro ic hc hn e H x e' H' a w ρ hs he hw hr; cases hc; cases hs; exact wp_ret ⟨rfl, ρ, he, Adv.refl hr⟩
  | rangeFunc => intro ic hc; cases hc
  | scope => intro ic hc; cases hc
  | label => intro ic hc; cases hc
  | goto => intro ic hc; cases hc
  | refuse => intro ic hc; cases hc

/-! ### results -/
theorem resV_sound {ρ : Rho} {H : Heap} {e : Env} {a : Act} {N : Nat} {w : World} (he : EnvR ρ e a N) (hr : RelH ρ H w) {r : ResultVar} {i : IRes} (hc : cRes P r = some i) {v : Value} (h : resV H e i = some v) :
    ∃ v', (match r with | .tmp t => pure (a.tmps.getD t undef) | .cell ad t => do loadVar t (← asAddr (a.tmps.getD ad undef)) : Sem Value).run P w = .ok v' w ∧ V3 ρ v v' := by
  cases r with
  | tmp t =>
    cases hc; cases h
    exact ⟨_, rfl, he.slot t⟩
  | cell ad t =>
    simp only [cRes] at hc
    have hv := he.slot ad
    split at hc
    · rename_i n h1 h2; cases hc
      simp only [resV] at h
      split at h
      · rename_i b o hb
        split at h
        · rename_i vs hrow; cases h
          rw [hb] at hv
          obtain ⟨L, q1, q2⟩ := hv.ptr_inv
          obtain ⟨v', r1, r2⟩ := ld_sound (P := P) hr (t := t) (o := o) q1 h2 h1 (v := .agg vs.toArray) (by simp [hrow])
          refine ⟨v', ?_, r2⟩
          simp only [Instr.loadAt, Instr.sureAddr, Sem.run_bind, Sem.run_pure, Result.andThen_ok] at r1
          simp only [q2, asAddr, Sem.run_bind, Sem.run_pure, Result.andThen_ok]; exact r1
        · cases h
      · cases h
    · rename_i n h1 h2; cases hc
      simp only [resV] at h
      split at h
      · rename_i b o hb
        rw [hb] at hv
        obtain ⟨L, q1, q2⟩ := hv.ptr_inv
        obtain ⟨v', r1, r2⟩ := ld_sound (P := P) hr (t := t) (o := o) q1 h2 h1 (v := v) (by simpa using h)
        refine ⟨v', ?_, r2⟩
        simp only [Instr.loadAt, Instr.sureAddr, Sem.run_bind, Sem.run_pure, Result.andThen_ok] at r1
        simp only [q2, asAddr, Sem.run_bind, Sem.run_pure, Result.andThen_ok]; exact r1
      · cases h
    · cases hc
theorem resL_sound {ρ : Rho} {H : Heap} {e : Env} {a : Act} {N : Nat} {w : World} (he : EnvR ρ e a N) (hr : RelH ρ H w) : ∀ (rs : List ResultVar) {is : List IRes} {vs : List Value}, cRess P rs = some is → resL H e is = some vs →
    ∃ vs', (rs.mapM fun r => (match r with | .tmp t => pure (a.tmps.getD t undef) | .cell ad t => do loadVar t (← asAddr (a.tmps.getD ad undef)) : Sem Value)).run P w = .ok vs' w ∧ All2 (V3 ρ) vs vs'
  | [], is, vs, hc, h => by cases hc; cases h; exact ⟨[], by simp, trivial⟩
  | r :: rs, is, vs, hc, h => by
    simp only [cRess] at hc
    split at hc <;> cases hc
    rename_i i l h1 h2
    simp only [resL] at h
    split at h
    · rename_i v hv
      split at h
      · rename_i us hus; cases h
        obtain ⟨v', q1, q2⟩ := resV_sound (P := P) he hr h1 hv
        obtain ⟨vs', q3, q4⟩ := resL_sound he hr rs h2 hus
        refine ⟨v' :: vs', ?_, q2, q4⟩
        simp only [List.mapM_cons, Sem.run_bind, q1, Result.andThen_ok, q3, Sem.run_pure]
      · cases h
    · cases h
theorem two_of_noTup {ρ : Rho} : ∀ {vs vs' : List Value}, All2 (V3 ρ) vs vs' → vs.all noTup = true → All2 (V2 ρ) vs vs'
  | [], [], _, _ => trivial
  | v :: vs, v' :: vs', h, hn => by
    simp only [List.all_cons, Bool.and_eq_true] at hn
    exact ⟨h.1.two fun us e => by subst e; simp [noTup] at hn, two_of_noTup h.2 hn.2⟩
theorem res_sound {ρ : Rho} {H : Heap} {e : Env} {a : Act} {N : Nat} {w : World} (he : EnvR ρ e a N) (hr : RelH ρ H w) {fn : Func} {is : List IRes} {v : Value} (hc : cRess P fn.results.toList = some is) (h : resAll H e is = some v) : ∃ v', (results fn a.tmps).run P w = .ok v' w ∧ V3 ρ v v' := by
  unfold resAll at h
  have hrun : ∀ vs', (fn.results.toList.mapM fun r => (match r with | .tmp t => pure (a.tmps.getD t undef) | .cell ad t => do loadVar t (← asAddr (a.tmps.getD ad undef)) : Sem Value)).run P w = .ok vs' w →
      (results fn a.tmps).run P w = .ok (if h : vs'.toArray.size = 1 then vs'.toArray[0] else .tuple vs'.toArray) w := by
    intro vs' h
    unfold results
    simp only [Array.mapM_eq_mapM_toList, Sem.run_bind, Sem.run_map]
    erw [h]
    rfl
  split at h
  · rename_i u hl
    cases h
    obtain ⟨vs', q1, q2⟩ := resL_sound (P := P) he hr _ hc hl
    obtain ⟨v', l, rfl, q3, q4⟩ := q2.cons_left
    obtain rfl := q4.nil_left
    exact ⟨v', by rw [hrun _ q1]; simp, q3⟩
  · rename_i vs hne hl
    split at h
    · rename_i hnt
      cases h
      obtain ⟨vs', q1, q2⟩ := resL_sound (P := P) he hr _ hc hl
      refine ⟨.tuple vs'.toArray, ?_, ?_⟩
      · rw [hrun _ q1, dif_neg]
        intro h1
        have h2 := q2.length
        rw [List.size_toArray] at h1
        have h3 : vs.length = 1 := by omega
        obtain ⟨x, hx⟩ := List.length_eq_one_iff.1 h3
        exact hne x hx
      · exact ⟨_, rfl, by simpa using two_of_noTup q2 hnt⟩
    · cases h
  · cases h

/-! ### calls -/
/-- A contract from elsewhere. -/
structure XSound (P : Program) (f : FuncId) (g : List Value → Heap → Option (Value × Heap)) : Prop where
  next : ∀ args H v H', g args H = some (v, H') → Hw H → Hw H' ∧ H.next ≤ H'.next
  sound : ∀ args H v H', g args H = some (v, H') → ∀ ρ args' w, Hw H → RelH ρ H w → All2 (V3 ρ) args args' →
    Does P f args'.toArray w fun e w' => ∃ v' ρ', e = .returned v' ∧ V3 ρ' v v' ∧ Adv H.next ρ H w ρ' H' w'
structure KOk (K : Cfg) : Prop where
  mixed : K.P.follows .mixedOrders = true
  F : ∀ f F, K.F f = some F → fnAt K.P f = some F
  X : ∀ f g, K.X f = some g → XSound K.P f g
theorem fnAt_inv {f : FuncId} {F : IFn} (h : fnAt P f = some F) : ∃ fn c, P.funcs[f]? = some fn ∧ fn.body = some c ∧ fn.name ≠ "runtime.NumGoroutine" ∧ cCode P c = some F.code ∧ cRess P fn.results.toList = some F.res ∧ slotsOk fn.ntmps F.code = true ∧ F.ntmps = fn.ntmps := by
  unfold fnAt at h
  obtain ⟨fn, h1, h2⟩ := Option.bind_eq_some_iff.1 h
  unfold cFn at h2
  split at h2
  · cases h2
  · rename_i c hc
    split at h2
    · cases h2
    · rename_i hn
      split at h2
      · rename_i ic rs q1 q2
        split at h2
        · rename_i hs; cases h2
          exact ⟨fn, c, h1, hc, by simpa using hn, q1, q2, hs, rfl⟩
        · cases h2
      · cases h2
theorem env0_sound {ρ : Rho} {args args' : List Value} {n : Nat} (h : All2 (V3 ρ) args args') (hl : args.length ≤ n) : EnvR ρ (env0 args) { tmps := args'.toArray ++ Array.replicate (n - args'.toArray.size) undef, defers := [] } n := by
  have hlen := h.length
  refine ⟨rfl, by simp; omega, fun t => ?_⟩
  unfold env0
  simp only [List.getD_eq_getElem?_getD, Array.getD_eq_getD_getElem?]
  by_cases ht : t < args.length
  · obtain ⟨b, hb, hV⟩ := h.get (List.getElem?_eq_getElem ht)
    rw [List.getElem?_eq_getElem ht, Array.getElem?_append_left (by simp; omega)]
    simp only [List.getElem?_toArray, hb, Option.getD_some]
    exact hV
  · rw [List.getElem?_eq_none (by omega), Array.getElem?_append_right (by simp; omega), Array.getElem?_replicate]
    split <;> exact V3.undef
theorem RelH.roAll {ρ : Rho} {H : Heap} {w : World} (h : RelH ρ H w) : RelH ρ H.roAll w := by
  have inv : ∀ b B, H.roAll.blk b = some B → ∃ B0, H.blk b = some B0 ∧ B.ro = true ∧ B.esz = B0.esz ∧ B.at_ = B0.at_ := fun b B hB => by
    simp only [Heap.roAll] at hB
    split at hB
    · rename_i B0 h0; cases hB; exact ⟨B0, h0, rfl, rfl, rfl⟩
    · cases hB
  refine ⟨h.dom, fun b L B hL hB => ?_, fun b1 b2 L1 L2 B1 B2 g1 g2 g3 g4 g5 g6 => ?_, h.j, fun b L B hL hB hro => (by obtain ⟨_, _, h1, _⟩ := inv b B hB; rw [h1] at hro; cases hro), ?_⟩
  · obtain ⟨B0, h0, h1, h2, h3⟩ := inv b B hB
    obtain ⟨c, t, fr, q1, q2, q3, q4, q5⟩ := h.blk b L B0 hL h0
    exact ⟨c, t, fr, q1, q2, q3.trans h2.symm, (fun hro => by rw [h1] at hro; cases hro), (fun o v hv => q5 o v (by rw [← h3]; exact hv))⟩
  · obtain ⟨_, _, h1, _⟩ := inv b1 B1 g3
    rw [h1] at g5; cases g5
  · intro b L B hL hB
    simp only [Heap.roAll] at hB
    split at hB
    · rename_i B0 h0; cases hB; exact ⟨(h.typ b L B0 hL h0).1, (h.typ b L B0 hL h0).2.1, fun h => by cases h⟩
    · cases hB
theorem Hw.roAll {H : Heap} (h : Hw H) : Hw H.roAll := fun b hb => by
  have h1 : H.next ≤ b := hb
  simp only [Heap.roAll, h b h1]
theorem callN_ok {K : Cfg} (hK : KOk K) : ∀ n, COk K.P (callN K n)
  | 0 => ⟨(fun _ _ _ _ _ h => by cases h), (fun _ _ _ _ _ h => by cases h)⟩
  | n + 1 => by
    have ih := callN_ok hK n
    refine ⟨fun f args H v H' h ρ args' w hw hr ha => ?_, callN_next K (fun f g hg => (hK.X f g hg).next) (n + 1)⟩
    · simp only [callN] at h
      split at h
      · rename_i g hg; exact (hK.X f g hg).sound _ _ _ _ h ρ args' w hw hr ha
      · split at h
        · cases h
        · rename_i F hF
          obtain ⟨fn, c, h1, h2, h3, h4, h5, h6, h7⟩ := fnAt_inv (hK.F f F hF)
          split at h
          case isFalse => cases h
          rename_i hlen
          have run : ∀ (H0 : Heap) (v0 : Value) (H1 : Heap), finish F (exec K.P (callN K n) n F.code (env0 args) H0) = some (v0, H1) → Hw H0 → RelH ρ H0 w → Calls K.P f args'.toArray w fun e w' => ∃ v' ρ', e = .returned v' ∧ V3 ρ' v0 v' ∧ Adv H0.next ρ H0 w ρ' H1 w' := by
            intro H0 v0 H1 hf hw0 hr0
            obtain ⟨x, e, g1, g2, g3⟩ := finish_inv hf
            refine calls_of_wp h1 h2 ?_
            have he := env0_sound (n := fn.ntmps) ha (by rw [← h7]; exact hlen)
            refine wp_mono (code_sound hK.mixed ih n fn.ntmps c F.code h4 h6 g1 he hw0 hr0) fun ex a' w' hq => ?_
            obtain ⟨hx, ρ', he', adv⟩ := hq
            obtain ⟨v', r1, r2⟩ := res_sound (P := K.P) he' adv.rel h5 g3
            cases x
            · cases hx; exact ⟨he'.defers, v', r1, v', ρ', rfl, r2, adv⟩
            · cases g2
            · cases hx; exact ⟨he'.defers, v', r1, v', ρ', rfl, r2, adv⟩
          refine .inl ⟨⟨fn, h1, h3, by rw [h2]; rfl⟩, ?_⟩
          split at h
          · obtain ⟨hHH, hfl, H1, hq⟩ := quiet_inv h
            subst hHH
            refine (run H'.roAll v H1 hq hw.roAll hr.roAll).mono fun e w' he => ?_
            obtain ⟨v', ρ', rfl, r1, adv⟩ := he
            have hall : ∀ cb, cb < w.heap.size → w'.heap[cb]? = w.heap[cb]? := fun cb hcb => adv.keep cb hcb fun b L B hL hB hro => by
              simp only [Heap.roAll] at hB
              split at hB
              · cases hB; cases hro
              · cases hB
            refine ⟨v', ρ, rfl, ?_, ?_⟩
            · rw [r1.flat hfl]; exact V3.of_flat hfl
            · refine ⟨RhoLe.refl _, ⟨hr.dom, fun b L B hL hB => ?_, hr.inj, gStable (fun cb hcb => hall cb (Nat.lt_of_lt_of_le hcb (gLt hr.j))) hr.j, hr.low, fun b L B hL hB => (hr.typ b L B hL hB).keep (hall _ (hr.lt hL hB))⟩, adv.os, adv.tape, adv.output, adv.size, fun cb hcb _ => hall cb hcb, fun b _ h => ⟨h, rfl⟩, (fun b L h h' => by rw [h] at h'; cases h'), Nat.le_refl _, fun b L B' _ h => ⟨B', h, rfl, rfl⟩⟩
              obtain ⟨c0, t0, fr0, q1, q2⟩ := hr.blk b L B hL hB
              exact ⟨c0, t0, fr0, by rw [hall _ (Array.getElem?_eq_some_iff.1 q1).1]; exact q1, q2⟩
          · exact run H v H' h hw hr
theorem call_does {K : Cfg} (hK : KOk K) {f : FuncId} {args : List Value} {H : Heap} {v : Value} {H' : Heap} (h : call K f args H = some (v, H')) {ρ : Rho} {args' : List Value} {w : World} (hw : Hw H) (hr : RelH ρ H w) (ha : All2 (V3 ρ) args args') :
    Does K.P f args'.toArray w fun e w' => ∃ v' ρ', e = .returned v' ∧ V3 ρ' v v' ∧ Adv H.next ρ H w ρ' H' w' := by
  obtain ⟨n, hn⟩ := of_lim h
  exact (callN_ok hK n).call _ _ _ _ _ hn ρ args' w hw hr ha
theorem Does.calls {P : Program} {f : FuncId} {args : Array Value} {w : World} {Q : Ending → World → Prop} (h : Does P f args w Q) (ha : Callable P f) : Calls P f args w Q := by
  rcases h with ⟨_, h⟩ | ⟨v, w', h, _⟩
  · exact h
  · rw [run_callFunc ha] at h; cases h
theorem Callable.of_fn {P : Program} {f : FuncId} {F : IFn} (h : fnAt P f = some F) : Callable P f := by
  obtain ⟨fn, c, h1, h2, h3, _⟩ := fnAt_inv h
  exact ⟨fn, h1, h3, by rw [h2]; rfl⟩
/-- What the machine answers, the model answers. -/
theorem call_sound {K : Cfg} (hK : KOk K) {f : FuncId} {args : List Value} {H : Heap} {v : Value} {H' : Heap} (h : call K f args H = some (v, H')) {ρ : Rho} {args' : List Value} {w : World} (hw : Hw H) (hr : RelH ρ H w) (ha : All2 (V3 ρ) args args') (hab : Callable K.P f) :
    Calls K.P f args'.toArray w fun e w' => ∃ v' ρ', e = .returned v' ∧ V3 ρ' v v' ∧ Adv H.next ρ H w ρ' H' w' := (call_does hK h hw hr ha).calls hab
end
end Go.AM
end TextAhSound
section TextAhSim
/- AM: running code by rewriting. -/
namespace Go.AM
set_option linter.unusedVariables false
set_option linter.unusedSimpArgs false

/-! ### slots -/
@[simp] theorem upd_app (t : Nat) (v : Value) (e : Env) (s : Nat) : upd t v e s = if s = t then v else e s := rfl
@[simp] theorem put_some' (t : Nat) (v : Value) (e : Env) : put (some t) v e = upd t v e := rfl
@[simp] theorem put_none' (v : Value) (e : Env) : put none v e = e := rfl
@[simp] theorem ev_t (e : Env) (n : Nat) : ev e (.t n) = e n := rfl
@[simp] theorem ev_c (e : Env) (v : Value) : ev e (.c v) = v := rfl
@[simp] theorem env0_cons0 (a : Value) (as : List Value) : env0 (a :: as) 0 = a := rfl
@[simp] theorem env0_cons1 (a b : Value) (as : List Value) : env0 (a :: b :: as) 1 = b := rfl
@[simp] theorem env0_cons2 (a b c : Value) (as : List Value) : env0 (a :: b :: c :: as) 2 = c := rfl
@[simp] theorem env0_cons3 (a b c d : Value) (as : List Value) : env0 (a :: b :: c :: d :: as) 3 = d := rfl
@[simp] theorem env0_cons4 (a b c d x : Value) (as : List Value) : env0 (a :: b :: c :: d :: x :: as) 4 = x := rfl
@[simp] theorem env0_cons5 (a b c d x y : Value) (as : List Value) : env0 (a :: b :: c :: d :: x :: y :: as) 5 = y := rfl

/-! ### what an end must satisfy -/
def wp (r : Option (IEx × Env × Heap)) (Q : IEx → Env → Heap → Prop) : Prop := ∃ x e H, r = some (x, e, H) ∧ Q x e H
def wpf (r : Option (Value × Heap)) (Q : Value → Heap → Prop) : Prop := ∃ v H, r = some (v, H) ∧ Q v H
@[simp] theorem wp_some (x : IEx) (e : Env) (H : Heap) (Q : IEx → Env → Heap → Prop) : wp (some (x, e, H)) Q = Q x e H := by
  apply propext; constructor
  · rintro ⟨x', e', H', h, hq⟩; cases h; exact hq
  · exact fun h => ⟨x, e, H, rfl, h⟩
@[simp] theorem wpf_some (v : Value) (H : Heap) (Q : Value → Heap → Prop) : wpf (some (v, H)) Q = Q v H := by
  apply propext; constructor
  · rintro ⟨v', H', h, hq⟩; cases h; exact hq
  · exact fun h => ⟨v, H, rfl, h⟩
@[simp] theorem wp_ite {c : Prop} [Decidable c] (r s : Option (IEx × Env × Heap)) (Q : IEx → Env → Heap → Prop) : wp (if c then r else s) Q = if c then wp r Q else wp s Q := by split <;> rfl
theorem wp.mono {r : Option (IEx × Env × Heap)} {Q Q' : IEx → Env → Heap → Prop} (h : wp r Q) (hq : ∀ x e H, Q x e H → Q' x e H) : wp r Q' := by
  obtain ⟨x, e, H, h1, h2⟩ := h; exact ⟨x, e, H, h1, hq _ _ _ h2⟩
theorem wpf.mono {r : Option (Value × Heap)} {Q Q' : Value → Heap → Prop} (h : wpf r Q) (hq : ∀ v H, Q v H → Q' v H) : wpf r Q' := by
  obtain ⟨v, H, h1, h2⟩ := h; exact ⟨v, H, h1, hq _ _ h2⟩
@[simp] theorem nxt_norm (e : Env) (H : Heap) (f : Env → Heap → Option (IEx × Env × Heap)) : nxt (some (.norm, e, H)) f = f e H := rfl
@[simp] theorem nxt_ret (e : Env) (H : Heap) (f : Env → Heap → Option (IEx × Env × Heap)) : nxt (some (.ret, e, H)) f = some (.ret, e, H) := rfl
@[simp] theorem nxt_exit (id : Nat) (e : Env) (H : Heap) (f : Env → Heap → Option (IEx × Env × Heap)) : nxt (some (.exit id, e, H)) f = some (.exit id, e, H) := rfl
@[simp] theorem nxt_none (f : Env → Heap → Option (IEx × Env × Heap)) : nxt none f = none := rfl
@[simp] theorem unblock_norm (id : Nat) (e : Env) (H : Heap) : unblock id (some (.norm, e, H)) = some (.norm, e, H) := rfl
@[simp] theorem unblock_ret (id : Nat) (e : Env) (H : Heap) : unblock id (some (.ret, e, H)) = some (.ret, e, H) := rfl
@[simp] theorem unblock_exit (id i : Nat) (e : Env) (H : Heap) : unblock id (some (.exit i, e, H)) = if i = id then some (.norm, e, H) else some (.exit i, e, H) := rfl
@[simp] theorem ok2_some (e : Env) (H : Heap) : ok2 (some (e, H)) = some (.norm, e, H) := rfl
/-- What follows, if the end is an end within. -/
def thenQ (f : Env → Heap → Option (IEx × Env × Heap)) (Q : IEx → Env → Heap → Prop) : IEx → Env → Heap → Prop
  | .norm, e, H => wp (f e H) Q
  | x, e, H => Q x e H
def blockQ (id : Nat) (Q : IEx → Env → Heap → Prop) : IEx → Env → Heap → Prop
  | .exit i, e, H => if i = id then Q .norm e H else Q (.exit i) e H
  | x, e, H => Q x e H
@[simp] theorem thenQ_norm (f : Env → Heap → Option (IEx × Env × Heap)) (Q : IEx → Env → Heap → Prop) (e : Env) (H : Heap) : thenQ f Q .norm e H = wp (f e H) Q := rfl
@[simp] theorem thenQ_ret (f : Env → Heap → Option (IEx × Env × Heap)) (Q : IEx → Env → Heap → Prop) (e : Env) (H : Heap) : thenQ f Q .ret e H = Q .ret e H := rfl
@[simp] theorem thenQ_exit (f : Env → Heap → Option (IEx × Env × Heap)) (Q : IEx → Env → Heap → Prop) (i : Nat) (e : Env) (H : Heap) : thenQ f Q (.exit i) e H = Q (.exit i) e H := rfl
@[simp] theorem blockQ_norm (id : Nat) (Q : IEx → Env → Heap → Prop) (e : Env) (H : Heap) : blockQ id Q .norm e H = Q .norm e H := rfl
@[simp] theorem blockQ_ret (id : Nat) (Q : IEx → Env → Heap → Prop) (e : Env) (H : Heap) : blockQ id Q .ret e H = Q .ret e H := rfl
@[simp] theorem blockQ_exit (id i : Nat) (Q : IEx → Env → Heap → Prop) (e : Env) (H : Heap) : blockQ id Q (.exit i) e H = if i = id then Q .norm e H else Q (.exit i) e H := rfl
theorem wp_nxt {r : Option (IEx × Env × Heap)} {f : Env → Heap → Option (IEx × Env × Heap)} {Q : IEx → Env → Heap → Prop} (h : wp r (thenQ f Q)) : wp (nxt r f) Q := by
  obtain ⟨x, e, H, rfl, h2⟩ := h
  cases x
  · exact h2
  · exact ⟨_, _, _, rfl, h2⟩
  · exact ⟨_, _, _, rfl, h2⟩
theorem wp_unblock {r : Option (IEx × Env × Heap)} {id : Nat} {Q : IEx → Env → Heap → Prop} (h : wp r (blockQ id Q)) : wp (unblock id r) Q := by
  obtain ⟨x, e, H, rfl, h2⟩ := h
  cases x
  · exact ⟨_, _, _, rfl, h2⟩
  · simp only [blockQ] at h2
    simp only [unblock]
    split
    · rename_i hi; rw [if_pos hi] at h2; exact ⟨_, _, _, rfl, h2⟩
    · rename_i hi; rw [if_neg hi] at h2; exact ⟨_, _, _, rfl, h2⟩
  · exact ⟨_, _, _, rfl, h2⟩

/-! ### code -/
attribute [simp] run_skip run_exit run_ret run_reg run_seq run_block
def condV (v : Value) (p q : Option (IEx × Env × Heap)) : Option (IEx × Env × Heap) := match v with | .bool b => if b = true then p else q | _ => none
@[simp] theorem condV_bool (b : Bool) (p q : Option (IEx × Env × Heap)) : condV (.bool b) p q = if b = true then p else q := rfl
@[simp] theorem run_cond' (K : Cfg) (c : Arg) (a b : IC) (e : Env) (H : Heap) : run K (.cond c a b) e H = condV (ev e c) (run K a e H) (run K b e H) := by
  rw [run_cond]
  unfold condV
  split
  · rename_i h; rw [h]; rfl
  · rename_i h; rw [h]; rfl
  · rename_i h1 h2
    split
    · rename_i b hb; cases b
      · exact absurd hb h2
      · exact absurd hb h1
    · rfl
theorem runTr_last {P : Program} {C : CallF} : ∀ (is : List Ir) (e : Env) (H : Heap), (runTr P C is e H).bind (·.getLast?) = runIr P C is e H
  | [], e, H => rfl
  | i :: is, e, H => by
    simp only [runTr, runIr]
    cases hs : stepIr P C i e H with
    | none => rfl
    | some q =>
      simp only
      have ih := runTr_last (P := P) (C := C) is q.1 q.2
      cases ht : runTr P C is q.1 q.2 with
      | none => rw [ht] at ih; simpa using ih
      | some l =>
        rw [ht] at ih
        simp only [Option.bind_some] at ih ⊢
        rw [← ih]
        cases l with
        | nil => exfalso; cases is <;> simp only [runTr] at ht <;> (repeat' split at ht) <;> cases ht
        | cons a l => rw [List.getLast?_cons_cons]
theorem runD_nil (P : Program) (C : CallF) (is : List Ir) (e : Env) (H : Heap) : runD P C is [] e H = runIr P C is e H := by
  unfold runD
  rw [← runTr_last]
  cases runTr P C is e H with
  | none => rfl
  | some l => simp
@[simp] theorem run_regd_nil (K : Cfg) (is : List Ir) (e : Env) (H : Heap) : run K (.regd is []) e H = ok2 (runIr K.P (call K) is e H) := by rw [run_regd, runD_nil]
@[simp] theorem runIr_nil (P : Program) (C : CallF) (e : Env) (H : Heap) : runIr P C [] e H = some (e, H) := rfl
def contIr (P : Program) (C : CallF) (is : List Ir) (d : Option Nat) (e : Env) (r : Option (Value × Heap)) : Option (Env × Heap) := match r with | some (v, H) => runIr P C is (put d v e) H | none => none
@[simp] theorem contIr_some (P : Program) (C : CallF) (is : List Ir) (d : Option Nat) (e : Env) (v : Value) (H : Heap) : contIr P C is d e (some (v, H)) = runIr P C is (put d v e) H := rfl
@[simp] theorem contIr_none (P : Program) (C : CallF) (is : List Ir) (d : Option Nat) (e : Env) : contIr P C is d e none = none := rfl
@[simp] theorem runIr_cons (P : Program) (C : CallF) (d : Option Nat) (i : Ins) (is : List Ir) (e : Env) (H : Heap) :
    runIr P C (⟨d, none, i⟩ :: is) e H = contIr P C is d e (step P C i e H) := by
  simp only [runIr, stepIr, wanted, if_true]
  cases step P C i e H <;> rfl
def isB (v : Value) (w : Bool) : Bool := match v with | .bool b => b == w | _ => false
@[simp] theorem isB_bool (b w : Bool) : isB (.bool b) w = (b == w) := rfl
@[simp] theorem isB_undef (w : Bool) : isB undef w = false := rfl
@[simp] theorem runIr_cons_g (P : Program) (C : CallF) (d : Option Nat) (g : Nat) (w : Bool) (i : Ins) (is : List Ir) (e : Env) (H : Heap) :
    runIr P C (⟨d, some (g, w), i⟩ :: is) e H = if isB (e g) w = true then contIr P C is d e (step P C i e H) else runIr P C is (put d undef e) H := by
  have hw : wanted ⟨d, some (g, w), i⟩ e = isB (e g) w := rfl
  simp only [runIr, stepIr, hw]
  by_cases h : isB (e g) w = true
  · rw [if_pos h, if_pos h]; cases step P C i e H <;> rfl
  · rw [if_neg h, if_neg h]

/-! ### operators -/
@[simp] theorem cast_eq (a b : Nat) : ((a : Int) = (b : Int)) = (a = b) := propext ⟨Int.ofNat.inj, fun h => by rw [h]⟩
@[simp] theorem natOf_cast (k : IntKind) (n : Nat) : natOf (.int k (n : Int)) = some n := by simp [natOf]
theorem natOf_int (k : IntKind) (n : Int) : natOf (.int k n) = if 0 ≤ n then some n.toNat else none := rfl
@[simp] theorem natOf_zero (k : IntKind) : natOf (.int k 0) = some 0 := rfl
@[simp] theorem natOf_one (k : IntKind) : natOf (.int k 1) = some 1 := rfl
section
variable (P : Program) (t : TypeId) (k : IntKind) (a b : Int)
@[simp] theorem binV_add : binV P .add t (.int k a) (.int k b) = some (.int k (k.wrap (a + b))) := by cases k <;> rfl
@[simp] theorem binV_sub : binV P .sub t (.int k a) (.int k b) = some (.int k (k.wrap (a - b))) := by cases k <;> rfl
@[simp] theorem binV_mul : binV P .mul t (.int k a) (.int k b) = some (.int k (k.wrap (a * b))) := by cases k <;> rfl
@[simp] theorem binV_eql : binV P .eql t (.int k a) (.int k b) = some (.bool (decide (a = b))) := by cases k <;> rfl
@[simp] theorem binV_neq : binV P .neq t (.int k a) (.int k b) = some (.bool (decide (a ≠ b))) := by
  have : binV P .neq t (.int k a) (.int k b) = some (.bool (a != b)) := by cases k <;> rfl
  rw [this]; congr 2; by_cases h : a = b <;> simp [h]
@[simp] theorem binV_lss : binV P .lss t (.int k a) (.int k b) = some (.bool (decide (a < b))) := by cases k <;> rfl
@[simp] theorem binV_leq : binV P .leq t (.int k a) (.int k b) = some (.bool (decide (a ≤ b))) := by cases k <;> rfl
@[simp] theorem binV_gtr : binV P .gtr t (.int k a) (.int k b) = some (.bool (decide (b < a))) := by cases k <;> rfl
@[simp] theorem binV_geq : binV P .geq t (.int k a) (.int k b) = some (.bool (decide (b ≤ a))) := by cases k <;> rfl
theorem binV_rem (h : b ≠ 0) : binV P .rem t (.int k a) (.int k b) = some (.int k (a.tmod b)) := by
  unfold binV
  simp [flat2, flat1, bothNilIface, eqGuard, binOp, Op.intDiv, h, pv, flatRes, bind, Sem.bind, pure]
theorem binV_quo (h : b ≠ 0) : binV P .quo t (.int k a) (.int k b) = some (.int k (k.wrap (a.tdiv b))) := by
  unfold binV
  simp [flat2, flat1, bothNilIface, eqGuard, binOp, Op.intDiv, h, pv, flatRes, bind, Sem.bind, pure]
theorem binV_shr (k' : IntKind) (n : Nat) : binV P .shr t (.int k a) (.int k' (n : Int)) = some (.int k (a.fdiv (2 ^ (min n k.bits)))) := by
  unfold binV
  simp [flat2, flat1, bothNilIface, eqGuard, binOp, Op.shift, pv, flatRes, bind, Sem.bind, pure]
  rw [if_neg (by omega)]
  simp [pv]
theorem binV_shl (k' : IntKind) (n : Nat) : binV P .shl t (.int k a) (.int k' (n : Int)) = some (.int k (k.wrap (a * 2 ^ (min n k.bits)))) := by
  unfold binV
  simp [flat2, flat1, bothNilIface, eqGuard, binOp, Op.shift, pv, flatRes, bind, Sem.bind, pure]
  rw [if_neg (by omega)]
  simp [pv]
variable (x y : ByteArray)
@[simp] theorem binV_seql : binV P .eql t (.string x) (.string y) = some (.bool (decide (x = y))) := by
  have : binV P .eql t (.string x) (.string y) = some (.bool (x.toList == y.toList)) := rfl
  rw [this, dec_beq_bytes]
@[simp] theorem binV_sneq : binV P .neq t (.string x) (.string y) = some (.bool (decide (x ≠ y))) := by
  have : binV P .neq t (.string x) (.string y) = some (.bool (!(x.toList == y.toList))) := rfl
  rw [this, dec_beq_bytes]; congr 2; by_cases h : x = y <;> simp [h]
def bLess (x y : ByteArray) : Bool := Op.bytesLess x.toList y.toList
@[simp] theorem binV_slss : binV P .lss t (.string x) (.string y) = some (.bool (bLess x y)) := rfl
@[simp] theorem binV_sleq : binV P .leq t (.string x) (.string y) = some (.bool (bLess x y || decide (x = y))) := by
  have : binV P .leq t (.string x) (.string y) = some (.bool (bLess x y || (x.toList == y.toList))) := rfl
  rw [this, dec_beq_bytes]
@[simp] theorem binV_sgtr : binV P .gtr t (.string x) (.string y) = some (.bool (!(bLess x y || decide (x = y)))) := by
  have : binV P .gtr t (.string x) (.string y) = some (.bool (!(bLess x y || (x.toList == y.toList)))) := rfl
  rw [this, dec_beq_bytes]
@[simp] theorem binV_sgeq : binV P .geq t (.string x) (.string y) = some (.bool (!bLess x y)) := rfl
theorem binV_sadd (h : x.size + y.size ≤ 9223372036854775807) : binV P .add t (.string x) (.string y) = some (.string (x ++ y)) := by
  have hc : ¬ (((x.size + y.size : Nat) : Int) > IntKind.i64.max) := by simp [IntKind.max, IntKind.bits, IntKind.signed]; omega
  have h1 : binV P .add t (.string x) (.string y) = flatRes (pv P (Op.stringOp .add x y)) := rfl
  rw [h1]
  unfold Op.stringOp
  simp only [if_neg hc]
  rfl
@[simp] theorem un_not (b : Bool) : flatRes (pv P (Op.unary .not (.bool b))) = some (.bool (!b)) := rfl
@[simp] theorem un_neg : flatRes (pv P (Op.unary .neg (.int k a))) = some (.int k (k.wrap (0 - a))) := rfl
end
@[simp] theorem flat1_bool (b : Bool) : flat1 (.bool b) = true := rfl
@[simp] theorem flat1_int (k : IntKind) (n : Int) : flat1 (.int k n) = true := rfl
@[simp] theorem flat1_string (s : ByteArray) : flat1 (.string s) = true := rfl
@[simp] theorem flat1_nil : flat1 (.slice none 0 0) = true := rfl
@[simp] theorem flat_bool (b : Bool) : flat (.bool b) = true := rfl
@[simp] theorem flat_int (k : IntKind) (n : Int) : flat (.int k n) = true := rfl
@[simp] theorem flat_string (s : ByteArray) : flat (.string s) = true := rfl
attribute [simp] flat2
@[simp] theorem flat_tuple (vs : Array Value) : flat (.tuple vs) = vs.toList.all flat2 := rfl
@[simp] theorem flat_agg (vs : Array Value) : flat (.agg vs) = vs.toList.all flat1 := rfl
theorem wrap_i64 {x : Int} (h1 : -9223372036854775808 ≤ x) (h2 : x ≤ 9223372036854775807) : IntKind.i64.wrap x = x := by
  unfold IntKind.wrap; simp [IntKind.bits, IntKind.signed]; omega
theorem wrap_succ {i : Nat} (h : i < 9223372036854775807) : IntKind.i64.wrap ((i : Int) + 1) = ((i + 1 : Nat) : Int) := by
  rw [wrap_i64 (by omega) (by omega)]; simp
theorem wrap_u8 {x : Int} (h1 : 0 ≤ x) (h2 : x ≤ 255) : IntKind.u8.wrap x = x := by
  unfold IntKind.wrap; simp [IntKind.bits, IntKind.signed]; omega

/-! ### the heap -/
attribute [simp] ptr row0
@[simp] theorem blk_roAll (H : Heap) (b : Nat) : H.roAll.blk b = (H.blk b).map fun B => { B with ro := true } := by
  simp only [Heap.roAll]; cases H.blk b <;> rfl
@[simp] theorem next_roAll (H : Heap) : H.roAll.next = H.next := rfl
@[simp] theorem cell_roAll (H : Heap) (b o : Nat) : H.roAll.cell b o = H.cell b o := by
  simp only [Heap.cell, blk_roAll]; cases H.blk b <;> rfl
@[simp] theorem row_roAll (H : Heap) (b : Nat) : ∀ (n o : Nat), H.roAll.row b o n = H.row b o n
  | 0, _ => rfl
  | n + 1, o => by simp only [Heap.row, cell_roAll, row_roAll H b n]
@[simp] theorem next_add (H : Heap) (B : Blk) : (H.add B).next = H.next + 1 := rfl
@[simp] theorem next_set (H : Heap) (b : Nat) (f : Option Blk) : (H.set b f).next = H.next := rfl
@[simp] theorem blk_add_new (H : Heap) (B : Blk) : (H.add B).blk H.next = some B := by simp [Heap.add]
theorem blk_add_old {H : Heap} {B : Blk} {b : Nat} (h : b < H.next) : (H.add B).blk b = H.blk b := by simp only [Heap.add]; rw [if_neg (by omega)]
@[simp] theorem blk_set_self (H : Heap) (b : Nat) (f : Option Blk) : (H.set b f).blk b = f := by simp [Heap.set]
theorem blk_set_ne {H : Heap} {b k : Nat} {f : Option Blk} (h : k ≠ b) : (H.set b f).blk k = H.blk k := by simp only [Heap.set]; rw [if_neg h]
@[simp] theorem cell_add_new (H : Heap) (B : Blk) (o : Nat) : (H.add B).cell H.next o = B.at_ o := by simp [Heap.cell]
theorem cell_add_old {H : Heap} {B : Blk} {b o : Nat} (h : b < H.next) : (H.add B).cell b o = H.cell b o := by simp only [Heap.cell, blk_add_old h]
@[simp] theorem cell_set_self (H : Heap) (b o : Nat) (B : Blk) : (H.set b (some B)).cell b o = B.at_ o := by simp [Heap.cell]
theorem cell_set_ne {H : Heap} {b k o : Nat} {f : Option Blk} (h : k ≠ b) : (H.set b f).cell k o = H.cell k o := by simp only [Heap.cell, blk_set_ne h]
@[simp] theorem at_row (esz : Nat) (vs : List Value) (o : Nat) : (rowBlk esz vs).at_ o = vs[o]? := rfl
@[simp] theorem ro_row (esz : Nat) (vs : List Value) : (rowBlk esz vs).ro = false := rfl
@[simp] theorem esz_row (esz : Nat) (vs : List Value) : (rowBlk esz vs).esz = esz := rfl
@[simp] theorem at_put (B : Blk) (o j : Nat) (v : Value) : (B.put o v).at_ j = if j = o then some v else B.at_ j := rfl
@[simp] theorem ro_put (B : Blk) (o : Nat) (v : Value) : (B.put o v).ro = B.ro := rfl
@[simp] theorem esz_put (B : Blk) (o : Nat) (v : Value) : (B.put o v).esz = B.esz := rfl
@[simp] theorem puts_nil (B : Blk) (o : Nat) : B.puts o [] = B := rfl
@[simp] theorem puts_cons (B : Blk) (o : Nat) (v : Value) (vs : List Value) : B.puts o (v :: vs) = (B.put o v).puts (o + 1) vs := rfl
/-- One heap goes on from another: nothing that stood has turned. -/
structure Ext (H H' : Heap) : Prop where
  next : H.next ≤ H'.next
  blk : ∀ b, b < H.next → H'.blk b = H.blk b
theorem Ext.refl (H : Heap) : Ext H H := ⟨Nat.le_refl _, fun _ _ => rfl⟩
theorem Ext.trans {A B C : Heap} (h : Ext A B) (k : Ext B C) : Ext A C := ⟨Nat.le_trans h.next k.next, fun b hb => (k.blk b (by have := h.next; omega)).trans (h.blk b hb)⟩
theorem Ext.add {A B : Heap} (h : Ext A B) (X : Blk) : Ext A (B.add X) := ⟨by have := h.next; simp; omega, fun b hb => by rw [blk_add_old (by have := h.next; omega)]; exact h.blk b hb⟩
theorem Ext.set {A B : Heap} (h : Ext A B) {b : Nat} (hb : A.next ≤ b) (f : Option Blk) : Ext A (B.set b f) := ⟨h.next, fun k hk => by rw [blk_set_ne (by omega)]; exact h.blk k hk⟩
theorem Ext.cell {A B : Heap} (h : Ext A B) {b o : Nat} (hb : b < A.next) : B.cell b o = A.cell b o := by simp only [Heap.cell, h.blk b hb]
theorem row_congr {H G : Heap} {b : Nat} (h : ∀ o, G.cell b o = H.cell b o) : ∀ (n o : Nat), G.row b o n = H.row b o n
  | 0, _ => rfl
  | n + 1, o => by simp only [Heap.row, h, row_congr h n]
theorem Ext.row {A B : Heap} (h : Ext A B) {b : Nat} (hb : b < A.next) (n o : Nat) : B.row b o n = A.row b o n := row_congr (fun o => h.cell hb) n o
@[simp] theorem row_zero (H : Heap) (b o : Nat) : H.row b o 0 = some [] := rfl

/-! ### functions -/
theorem open_pure {K : Cfg} {f : FuncId} {F : IFn} {args : List Value} {H : Heap} {Q : Value → Heap → Prop} (hX : K.X f = none) (hF : K.F f = some F) (hp : K.pur f = true) (hl : args.length ≤ F.ntmps)
    (h : wp (run K F.code (env0 args) H.roAll) fun x e H' => isEnd x = true ∧ ∃ v, resAll H' e F.res = some v ∧ flat v = true ∧ Q v H) : wpf (call K f args H) Q := by
  obtain ⟨x, e, H', h1, h2, v, h3, h4, h5⟩ := h
  refine ⟨v, H, ?_, h5⟩
  rw [call_eq, hX, hF]
  simp only [if_pos hl, if_pos hp, h1]
  simp [finish, quiet, h2, h3, h4]
theorem open_plain {K : Cfg} {f : FuncId} {F : IFn} {args : List Value} {H : Heap} {Q : Value → Heap → Prop} (hX : K.X f = none) (hF : K.F f = some F) (hp : K.pur f = false) (hl : args.length ≤ F.ntmps)
    (h : wp (run K F.code (env0 args) H) fun x e H' => isEnd x = true ∧ ∃ v, resAll H' e F.res = some v ∧ Q v H') : wpf (call K f args H) Q := by
  obtain ⟨x, e, H', h1, h2, v, h3, h5⟩ := h
  refine ⟨v, H', ?_, h5⟩
  rw [call_eq, hX, hF]
  simp only [if_pos hl, hp, h1]
  simp [finish, h2, h3]
@[simp] theorem isEnd_ret : isEnd .ret = true := rfl
@[simp] theorem isEnd_norm : isEnd .norm = true := rfl
attribute [simp] resAll resL resV noTup
theorem of_wpf {r : Option (Value × Heap)} {v : Value} {H : Heap} (h : wpf r fun u G => u = v ∧ G = H) : r = some (v, H) := by
  obtain ⟨u, G, h1, rfl, rfl⟩ := h; exact h1
/-- A loop over what is left: at each head 'Inv' holds; a round lowers the number or ends. -/
theorem wp_loop {K : Cfg} {a : IC} {Q : IEx → Env → Heap → Prop} (Inv : Nat → Env → Heap → Prop)
    (round : ∀ d e H, Inv d e H → wp (run K a e H) fun x e' H' => match x with | .norm => ∃ d', d' < d ∧ Inv d' e' H' | x => Q x e' H') : ∀ (d : Nat) (e : Env) (H : Heap), Inv d e H → wp (run K (.loop a) e H) Q := by
  intro d
  induction d using Nat.strongRecOn with
  | _ d ih =>
    intro e H h
    obtain ⟨x, e', H', h1, h2⟩ := round d e H h
    rw [run_loop, h1]
    cases x with
    | norm => obtain ⟨d', hd, hi⟩ := h2; exact ih d' hd e' H' hi
    | exit i => exact ⟨_, _, _, rfl, h2⟩
    | ret => exact ⟨_, _, _, rfl, h2⟩

/-! ### rows of elements -/
/-- v is a slice of xs: each element has sz cells, as enc says. -/
structure Rows {α : Type} (enc : α → List Value) (sz : Nat) (H : Heap) (v : Value) (xs : List α) : Prop where
  lim : xs.length ≤ 9223372036854775807
  is : ∃ p c, v = .slice p xs.length c ∧ ((p = none ∧ xs = [] ∧ c = 0) ∨ ∃ b o, p = some ⟨b, o, none⟩ ∧ b < H.next ∧ xs.length ≤ c / 2 ∧ ∀ (i : Nat) (h : i < xs.length) (j : Nat), j < sz → H.cell b (o + i * sz + j) = (enc xs[i])[j]?)
section
variable {α : Type} {enc : α → List Value} {sz : Nat} {H : Heap} {v : Value} {xs : List α}
theorem Rows.ext (h : Rows enc sz H v xs) {H' : Heap} (he : Ext H H') : Rows enc sz H' v xs := by
  obtain ⟨l, p, c, rfl, hp⟩ := h
  refine ⟨l, p, c, rfl, hp.imp id ?_⟩
  rintro ⟨b, o, h1, h2, h3, h4⟩
  exact ⟨b, o, h1, by have := he.next; omega, h3, fun i hi j hj => by rw [he.cell h2]; exact h4 i hi j hj⟩
theorem Rows.roAll (h : Rows enc sz H v xs) : Rows enc sz H.roAll v xs := by
  obtain ⟨l, p, c, rfl, hp⟩ := h
  refine ⟨l, p, c, rfl, hp.imp id ?_⟩
  rintro ⟨b, o, h1, h2, h3, h4⟩
  exact ⟨b, o, h1, h2, h3, fun i hi j hj => by rw [cell_roAll]; exact h4 i hi j hj⟩
theorem Rows.nil : Rows enc sz H (.slice none 0 0) ([] : List α) := ⟨by simp, none, 0, rfl, .inl ⟨rfl, rfl, rfl⟩⟩
/-- An element, where it lies. -/
theorem Rows.at_ {p : Option Addr} {n c : Nat} (h : Rows enc sz H (.slice p n c) xs) {i : Nat} (hi : i < xs.length) : n = xs.length ∧ ∃ b o, p = some ⟨b, o, none⟩ ∧ b < H.next ∧ ∀ j, j < sz → H.cell b (o + i * sz + j) = (enc xs[i])[j]? := by
  obtain ⟨l, p', c', h1, hp⟩ := h
  cases h1
  rcases hp with ⟨_, rfl, _⟩ | ⟨b, o, h1, h2, h3, h4⟩
  · simp at hi
  · exact ⟨rfl, b, o, h1, h2, fun j hj => h4 i hi j hj⟩
theorem Rows.len {p : Option Addr} {n c : Nat} (h : Rows enc sz H (.slice p n c) xs) : n = xs.length := by
  obtain ⟨l, p', c', h1, hp⟩ := h; cases h1; rfl
theorem Rows.slice (h : Rows enc sz H v xs) : ∃ p c, v = .slice p xs.length c := by obtain ⟨l, p, c, h1, _⟩ := h; exact ⟨p, c, h1⟩
end
abbrev Strs := Rows (fun s : ByteArray => [Value.string s]) 1
abbrev Ints := Rows (fun n : Int => [Value.int .i64 n]) 1
theorem take_succ_eq {α : Type} {xs ys : List α} {i : Nat} (hx : i < xs.length) (hy : i < ys.length) : xs.take (i + 1) = ys.take (i + 1) ↔ xs.take i = ys.take i ∧ xs[i] = ys[i] := by
  rw [List.take_succ_eq_append_getElem hx, List.take_succ_eq_append_getElem hy]
  constructor
  · intro h
    have := List.append_inj' h rfl
    exact ⟨this.1, by simpa using this.2⟩
  · rintro ⟨h1, h2⟩; rw [h1, h2]
end Go.AM
end TextAhSim
section TextAhExt
/- AM: contracts from elsewhere: functions whose arguments and result hold no address. -/
namespace Go.AM
set_option linter.unusedVariables false
/-- What is proved of the model, for flat arguments and a flat result, serves. -/
theorem XSound.of_below {P : Program} {f : FuncId} {g : List Value → Heap → Option (Value × Heap)} (able : Callable P f)
    (h : ∀ args H v H', g args H = some (v, H') → H' = H ∧ flat v = true ∧ args.all flat = true ∧ ∀ w, Calls P f args.toArray w fun e w' => e = .returned v ∧ Go.RowKit.Below w.heap.size w w') : XSound P f g where
  next := fun args H v H' hg hw => by
    obtain ⟨rfl, _⟩ := h _ _ _ _ hg
    exact ⟨hw, Nat.le_refl _⟩
  sound := fun args H v H' hg ρ args' w hw hr ha => by
    obtain ⟨rfl, hfl, hargs, hc⟩ := h _ _ _ _ hg
    have hsame : args' = args := ha.eq_of fun a b hm hab => V3.flat (List.all_eq_true.1 hargs a hm) hab
    subst hsame
    refine .inl ⟨able, (hc w).mono fun e w' he => ?_⟩
    obtain ⟨rfl, hb⟩ := he
    refine ⟨v, ρ, rfl, V3.of_flat hfl, ?_⟩
    have hblk : ∀ b L B, ρ b = some L → H'.blk b = some B → L.blk < w.heap.size := fun b L B hL hB => by
      obtain ⟨c, t, fr, h1, _⟩ := hr.blk b L B hL hB
      exact (Array.getElem?_eq_some_iff.1 h1).1
    refine ⟨RhoLe.refl _, ⟨hr.dom, fun b L B hL hB => ?_, hr.inj, gStable (fun cb hcb => hb.block cb (Nat.lt_of_lt_of_le hcb (gLt hr.j))) hr.j, hr.low, fun b L B hL hB => (hr.typ b L B hL hB).keep (hb.block _ (hr.lt hL hB))⟩, hb.os, hb.tape, hb.output, hb.size, fun cb hcb _ => hb.block cb hcb, fun b _ h => ⟨h, rfl⟩, (fun b L h h' => by rw [h] at h'; cases h'), Nat.le_refl _, fun b L B' _ h => ⟨B', h, rfl, rfl⟩⟩
    obtain ⟨c, t, fr, h1, h2⟩ := hr.blk b L B hL hB
    exact ⟨c, t, fr, by rw [hb.block _ (hblk b L B hL hB)]; exact h1, h2⟩
/-- strings.Repeat: so many times a text. -/
def repeatB (s : ByteArray) (n : Nat) : ByteArray := ⟨(Lib.repeatL s.data.toList n).toArray⟩
def repeatX : List Value → Heap → Option (Value × Heap)
  | [.string s, .int .i64 n], H => if 0 ≤ n ∧ n ≤ 9223372036854775807 ∧ s.size * n.toNat ≤ 140737488355328 then some (.string (repeatB s n.toNat), H) else none
  | _, _ => none
theorem repeatX_sound {P : Program} {f : FuncId} (able : Callable P f)
    (h : ∀ (s : ByteArray) (c : Nat) (w : World), c ≤ 9223372036854775807 → s.size * c ≤ 140737488355328 → Calls P f #[.string s, .int .i64 c] w fun e w' => e = .returned (.string (repeatB s c)) ∧ Go.RowKit.Below w.heap.size w w') : XSound P f repeatX := by
  refine XSound.of_below able fun args H v H' hg => ?_
  unfold repeatX at hg
  split at hg
  · rename_i H0 s n
    split at hg
    · rename_i hc; cases hg
      refine ⟨rfl, rfl, rfl, fun w => ?_⟩
      have := h s n.toNat w (by omega) hc.2.2
      rw [Int.toNat_of_nonneg hc.1] at this
      exact this
    · cases hg
  · cases hg
end Go.AM
end TextAhExt
section TextAhSim2
/- AM: running drawn regions by rewriting; more of texts and heaps. -/
namespace Go.AM
set_option linter.unusedVariables false
set_option linter.unusedSimpArgs false
def contTr (P : Program) (C : CallF) (is : List Ir) (d : Option Nat) (e : Env) (r : Option (Value × Heap)) : Option (List (Env × Heap)) := match r with | some (v, H) => runTr P C is (put d v e) H | none => none
@[simp] theorem contTr_some (P : Program) (C : CallF) (is : List Ir) (d : Option Nat) (e : Env) (v : Value) (H : Heap) : contTr P C is d e (some (v, H)) = runTr P C is (put d v e) H := rfl
def consO (p : Env × Heap) (r : Option (List (Env × Heap))) : Option (List (Env × Heap)) := match r with | some l => some (p :: l) | none => none
@[simp] theorem consO_some (p : Env × Heap) (l : List (Env × Heap)) : consO p (some l) = some (p :: l) := rfl
@[simp] theorem runTr_nil (P : Program) (C : CallF) (e : Env) (H : Heap) : runTr P C [] e H = some [(e, H)] := rfl
@[simp] theorem runTr_cons (P : Program) (C : CallF) (d : Option Nat) (i : Ins) (is : List Ir) (e : Env) (H : Heap) :
    runTr P C (⟨d, none, i⟩ :: is) e H = consO (e, H) (contTr P C is d e (step P C i e H)) := by
  simp only [runTr, stepIr, wanted, if_true]
  cases step P C i e H with
  | none => rfl
  | some q => simp only [contTr, consO]; cases runTr P C is (put d q.1 e) q.2 <;> rfl
@[simp] theorem runTr_cons_g (P : Program) (C : CallF) (d : Option Nat) (g : Nat) (w : Bool) (i : Ins) (is : List Ir) (e : Env) (H : Heap) :
    runTr P C (⟨d, some (g, w), i⟩ :: is) e H = if isB (e g) w = true then consO (e, H) (contTr P C is d e (step P C i e H)) else consO (e, H) (runTr P C is (put d undef e) H) := by
  have hw : wanted ⟨d, some (g, w), i⟩ e = isB (e g) w := rfl
  simp only [runTr, stepIr, hw]
  by_cases h : isB (e g) w = true
  · rw [if_pos h, if_pos h]
    cases step P C i e H with
    | none => rfl
    | some q => simp only [contTr, consO]; cases runTr P C is (put d q.1 e) q.2 <;> rfl
  · rw [if_neg h, if_neg h]; simp only [consO]; cases runTr P C is (put d undef e) H <;> rfl
open Classical in
noncomputable def finD (P : Program) (is : List Ir) (ch : List (Nat × Nat)) (r : Option (List (Env × Heap))) : Option (Env × Heap) :=
  match r with
  | some tr => if ∀ p ∈ ch, Chk P is tr p then tr.getLast? else none
  | none => none
open Classical in
theorem finD_some (P : Program) (is : List Ir) (ch : List (Nat × Nat)) (tr : List (Env × Heap)) : finD P is ch (some tr) = if ∀ p ∈ ch, Chk P is tr p then tr.getLast? else none := rfl
theorem run_regd_tr (K : Cfg) (is : List Ir) (p : Nat × Nat) (ch : List (Nat × Nat)) (e : Env) (H : Heap) : run K (.regd is (p :: ch)) e H = ok2 (finD K.P is (p :: ch) (runTr K.P (call K) is e H)) := by rw [run_regd]; rfl
theorem Chk_intro {P : Program} {is : List Ir} {tr : List (Env × Heap)} {p : Nat × Nat} {i : Ir} {e e' : Env} {H G : Heap} (h1 : is[p.1]? = some i) (h2 : tr[p.1]? = some (e, H)) (h3 : tr[p.2 + 1]? = some (e', G))
    (h : wanted i e = true → (step P (fun _ _ _ => none) i.ins e G).map Prod.fst = (step P (fun _ _ _ => none) i.ins e H).map Prod.fst) : Chk P is tr p := by
  unfold Chk; rw [h1, h2, h3]; exact h
theorem regd_intro {K : Cfg} {is : List Ir} {ch : List (Nat × Nat)} {e : Env} {H : Heap} {tr : List (Env × Heap)} {Q : IEx → Env → Heap → Prop} {x : Env × Heap}
    (h1 : runTr K.P (call K) is e H = some tr) (h2 : ∀ p ∈ ch, Chk K.P is tr p) (h3 : tr.getLast? = some x) (hq : Q .norm x.1 x.2) : wp (run K (.regd is ch) e H) Q := by
  rw [run_regd]
  refine ⟨.norm, x.1, x.2, ?_, hq⟩
  unfold runD
  rw [h1]; simp only [if_pos h2, h3]; rfl
end Go.AM
end TextAhSim2
section TextAhTxt
/- AM: texts and numbers, plain. -/
namespace Go.AM
set_option linter.unusedVariables false
set_option linter.unusedSimpArgs false
/-! ### texts as lists -/
abbrev L (s : ByteArray) : List UInt8 := s.data.toList
theorem L_inj {s t : ByteArray} (h : L s = L t) : s = t := by
  cases s; cases t; simp [L] at h; simpa using h
theorem L_length (s : ByteArray) : (L s).length = s.size := by rw [L, Array.length_toList]; rfl
theorem L_append (a b : ByteArray) : L (a ++ b) = L a ++ L b := by simp [L, ByteArray.data_append]
theorem L_nil : L (⟨#[]⟩ : ByteArray) = [] := rfl
theorem L_extract (s : ByteArray) (i j : Nat) : L (s.extract i j) = ((L s).drop i).take (j - i) := by
  simp [L, ByteArray.data_extract, List.extract_eq_take_drop]
theorem L_strOfNums (xs : List Int) : L (strOfNums xs) = xs.map fun n => UInt8.ofNat n.toNat := rfl
theorem size_append (a b : ByteArray) : (a ++ b).size = a.size + b.size := by simp
theorem size_strOfNums (xs : List Int) : (strOfNums xs).size = xs.length := strOfNums_size xs
theorem size_extract (s : ByteArray) (i j : Nat) : (s.extract i j).size = min j s.size - i := by simp
theorem size_zero {s : ByteArray} : s.size = 0 ↔ s = ⟨#[]⟩ := by
  constructor
  · intro h; apply L_inj; rw [L_nil]; apply List.eq_nil_of_length_eq_zero; rw [L_length]; exact h
  · rintro rfl; rfl
/-- Byte i of a text, as a number; 0 behind its end. -/
def bt (s : ByteArray) (i : Int) : Int := if h : i.toNat < s.size then ((s[i.toNat]'h).toNat : Int) else 0
theorem bt_range (s : ByteArray) (i : Int) : 0 ≤ bt s i ∧ bt s i ≤ 255 := by
  unfold bt
  split
  · rename_i h
    have := (s[i.toNat]'h).toNat_lt
    omega
  · omega
theorem bt_L (s : ByteArray) (i : Int) : bt s i = (((L s)[i.toNat]?.getD 0).toNat : Int) := by
  unfold bt
  split
  · next h =>
    have : (L s)[i.toNat]? = some s[i.toNat] := by
      rw [List.getElem?_eq_getElem (by rw [L_length]; exact h)]; rfl
    rw [this]; rfl
  · next h =>
    rw [List.getElem?_eq_none (by rw [L_length]; omega)]; rfl
def ub (s : ByteArray) (k : Nat) : UInt8 := (L s)[k]?.getD 0
@[simp] theorem ub_bt (s : ByteArray) (k : Nat) : ((ub s k).toNat : Int) = bt s (k : Int) := by rw [bt_L]; rfl
theorem at_ub {s : ByteArray} {k : Nat} (h : k < s.size) : s.data[k]? = some (ub s k) := by
  have : (L s)[k]? = some (ub s k) := by unfold ub; rw [List.getElem?_eq_getElem (by rw [L_length]; exact h)]; rfl
  simpa [L] using this
theorem str_append (a b : List Int) : strOfNums a ++ strOfNums b = strOfNums (a ++ b) := by
  apply L_inj; simp [L_append, L_strOfNums]
def zer (n : Nat) : ByteArray := ⟨(List.replicate n (0 : UInt8)).toArray⟩
theorem zer_size (n : Nat) : (zer n).size = n := by simp [zer, ByteArray.size]
theorem L_zer (n : Nat) : L (zer n) = List.replicate n 0 := rfl
theorem repeat_zero (n : Nat) : repeatB ⟨#[0]⟩ n = zer n := by
  have : ∀ n, Lib.repeatL ([0] : List UInt8) n = List.replicate n 0 := by
    intro n
    induction n with
    | zero => rfl
    | succ n ih => rw [Lib.repeatL, ih]; rfl
  unfold repeatB; rw [show (⟨#[0]⟩ : ByteArray).data.toList = [0] from rfl, this]; rfl
theorem u8_mod {x : Int} (h0 : 0 ≤ x) (h1 : x ≤ 255) : (((UInt8.ofNat x.toNat).toNat : Nat) : Int) = x := by
  rw [UInt8.toNat_ofNat']; omega
theorem wraps_i64 (n : Int) (h0 : 0 ≤ n) (h1 : n < 2 ^ 62) : IntKind.i64.wrap n = n := by rw [IntKind.wrap_i64]; omega
/-! ### operators on bits -/
section
variable (P : Program) (t : TypeId) (k : IntKind) (a b : Int)
@[simp] theorem binV_or : binV P .or t (.int k a) (.int k b) = some (.int k (bits .or k a b)) := by cases k <;> rfl
@[simp] theorem binV_and : binV P .and t (.int k a) (.int k b) = some (.int k (bits .and k a b)) := by cases k <;> rfl
@[simp] theorem binV_xor : binV P .xor t (.int k a) (.int k b) = some (.int k (bits .xor k a b)) := by cases k <;> rfl
theorem shr_lit (n : Nat) (h : n ≤ 64) : binV P .shr t (.int .i64 a) (.int .u64 (n : Int)) = some (.int .i64 (a / 2 ^ n)) := by
  rw [binV_shr]; congr 2
  have hm : min n IntKind.i64.bits = n := by simp only [IntKind.bits]; omega
  rw [hm, Int.fdiv_eq_ediv_of_nonneg _ (Int.pow_nonneg (by decide))]
theorem shl_lit (n : Nat) (h : n ≤ 64) : binV P .shl t (.int .i64 a) (.int .u64 (n : Int)) = some (.int .i64 (IntKind.i64.wrap (a * 2 ^ n))) := by
  rw [binV_shl]
  have hm : min n IntKind.i64.bits = n := by simp only [IntKind.bits]; omega
  rw [hm]
@[simp] theorem shr_24 : binV P .shr t (.int .i64 a) (.int .u64 24) = some (.int .i64 (a / 16777216)) := shr_lit P t a 24 (by decide)
@[simp] theorem shr_16 : binV P .shr t (.int .i64 a) (.int .u64 16) = some (.int .i64 (a / 65536)) := shr_lit P t a 16 (by decide)
@[simp] theorem shr_8 : binV P .shr t (.int .i64 a) (.int .u64 8) = some (.int .i64 (a / 256)) := shr_lit P t a 8 (by decide)
@[simp] theorem shl_24 : binV P .shl t (.int .i64 a) (.int .u64 24) = some (.int .i64 (IntKind.i64.wrap (a * 16777216))) := shl_lit P t a 24 (by decide)
@[simp] theorem shl_16 : binV P .shl t (.int .i64 a) (.int .u64 16) = some (.int .i64 (IntKind.i64.wrap (a * 65536))) := shl_lit P t a 16 (by decide)
@[simp] theorem shl_8 : binV P .shl t (.int .i64 a) (.int .u64 8) = some (.int .i64 (IntKind.i64.wrap (a * 256))) := shl_lit P t a 8 (by decide)
end
attribute [simp] IntKind.wrap_u8
theorem or4 (a b c d : Int) (ha : 0 ≤ a ∧ a ≤ 255) (hb : 0 ≤ b ∧ b ≤ 255) (hc : 0 ≤ c ∧ c ≤ 255) (hd : 0 ≤ d ∧ d ≤ 255) :
    bits .or .i64 (bits .or .i64 (bits .or .i64 (IntKind.i64.wrap (a * 16777216)) (IntKind.i64.wrap (b * 65536))) (IntKind.i64.wrap (c * 256))) d = a * 16777216 + b * 65536 + c * 256 + d := by
  rw [wrap_i64 (by omega) (by omega), wrap_i64 (by omega) (by omega), wrap_i64 (by omega) (by omega)]
  rw [bits_join .i64 62 (by decide) wraps_i64 24 (a * 16777216) (b * 65536) (by omega) (by omega) (by omega) (by omega) (by omega) (by omega)]
  rw [bits_join .i64 62 (by decide) wraps_i64 16 (a * 16777216 + b * 65536) (c * 256) (by omega) (by omega) (by omega) (by omega) (by omega) (by omega)]
  rw [bits_join .i64 62 (by decide) wraps_i64 8 (a * 16777216 + b * 65536 + c * 256) d (by omega) (by omega) (by omega) (by omega) (by omega) (by omega)]
theorem and_mask (x : Int) (j : Nat) (hj : j ≤ 62) : bits .and .i64 x (2 ^ j - 1) = x % 2 ^ j := by
  have hpos : 0 < 2 ^ j := Nat.two_pow_pos j
  have hlt : (2 : Nat) ^ j < 2 ^ 64 := Nat.pow_lt_pow_right (by decide) (by omega)
  have hle : (2 : Nat) ^ j ≤ 2 ^ 62 := Nat.pow_le_pow_right (by decide) hj
  have hc : ((2 : Int) ^ j - 1) = ((2 ^ j - 1 : Nat) : Int) := by rw [Int.natCast_sub hpos]; simp
  have e : (BitVec.ofInt 64 x &&& BitVec.ofInt 64 ((2 : Int) ^ j - 1)).toNat = (x % 2 ^ j).toNat := by
    rw [hc, BitVec.ofInt_natCast, BitVec.toNat_and, BitVec.toNat_ofNat, Nat.mod_eq_of_lt (show 2 ^ j - 1 < 2 ^ 64 by omega), Nat.and_two_pow_sub_one_eq_mod, BitVec.toNat_ofInt]
    have h1 : (x % ((2 ^ 64 : Nat) : Int)).toNat % 2 ^ j = (x % ((2 ^ 64 : Nat) : Int) % ((2 ^ j : Nat) : Int)).toNat := by
      have h0 : 0 ≤ x % ((2 ^ 64 : Nat) : Int) := Int.emod_nonneg _ (by decide)
      obtain ⟨n, hn⟩ := Int.eq_ofNat_of_zero_le h0
      rw [hn, ← Int.natCast_emod, Int.toNat_natCast, Int.toNat_natCast]
    rw [h1, Int.emod_emod_of_dvd]
    · simp
    · exact_mod_cast Nat.pow_dvd_pow 2 (by omega)
  have hb : 0 ≤ x % 2 ^ j ∧ x % 2 ^ j < 2 ^ j := ⟨Int.emod_nonneg _ (Int.ne_of_gt (by exact_mod_cast hpos)), Int.emod_lt_of_pos _ (by exact_mod_cast hpos)⟩
  have hle' : (2 : Int) ^ j ≤ 2 ^ 62 := by exact_mod_cast hle
  have hu : bits .and .i64 x (2 ^ j - 1) = IntKind.i64.wrap ((BitVec.ofInt 64 x &&& BitVec.ofInt 64 ((2 : Int) ^ j - 1)).toNat : Int) := rfl
  rw [hu, e, Int.toNat_of_nonneg hb.1]
  exact wrap_i64 (by omega) (by omega)
theorem and1023 (x : Int) : bits .and .i64 x 1023 = x % 1024 := and_mask x 10 (by decide)
theorem and65535 (x : Int) : bits .and .i64 x 65535 = x % 65536 := and_mask x 16 (by decide)
theorem and7 (x : Int) : bits .and .i64 x 7 = x % 8 := and_mask x 3 (by decide)
/-! ### rows of cells -/
theorem row_vals {H : Heap} {b : Nat} : ∀ (vs : List Value) (o : Nat), (∀ (i : Nat) (h : i < vs.length), H.cell b (o + i) = some vs[i]) → H.row b o vs.length = some vs
  | [], o, _ => rfl
  | v :: vs, o, h => by
    have h0 := h 0 (by simp)
    simp only [Nat.add_zero, List.getElem_cons_zero] at h0
    simp only [List.length_cons, Heap.row, h0, row_vals vs (o + 1) fun i hi => by
      have := h (i + 1) (by simp; omega)
      simpa [Nat.add_assoc, Nat.add_comm 1 i] using this]
attribute [simp] fillL partL

/-! ### cells -/
section
variable (k : IntKind) (n : Int) (b : Bool) (s : ByteArray) (p : Option Addr) (l c : Nat) (cs : Array Value)
@[simp] theorem cells_int : (Value.int k n).cells = #[.int k n] := rfl
@[simp] theorem cells_bool : (Value.bool b).cells = #[.bool b] := rfl
@[simp] theorem cells_string : (Value.string s).cells = #[.string s] := rfl
@[simp] theorem cells_slice : (Value.slice p l c).cells = #[.slice p l c] := rfl
@[simp] theorem cells_pointer : (Value.pointer p).cells = #[.pointer p] := rfl
@[simp] theorem cells_agg : (Value.agg cs).cells = cs := rfl
@[simp] theorem one_int : (Value.int k n).oneCell' = true := rfl
@[simp] theorem one_bool : (Value.bool b).oneCell' = true := rfl
@[simp] theorem one_string : (Value.string s).oneCell' = true := rfl
@[simp] theorem one_slice : (Value.slice p l c).oneCell' = true := rfl
@[simp] theorem one_pointer : (Value.pointer p).oneCell' = true := rfl
end

/-! ### one memory behind another: by number -/
attribute [-simp] cell_add_new blk_add_new blk_set_self cell_set_self
section
variable (H : Heap) (B : Blk) (b k o : Nat)
@[simp] theorem cell_add : (H.add B).cell b o = if b = H.next then B.at_ o else H.cell b o := by
  by_cases h : b = H.next
  · subst h; simp [Heap.cell, Heap.add]
  · simp [Heap.cell, Heap.add, h]
@[simp] theorem blk_add : (H.add B).blk b = if b = H.next then some B else H.blk b := rfl
@[simp] theorem cell_set : (H.set k (some B)).cell b o = if b = k then B.at_ o else H.cell b o := by
  by_cases h : b = k <;> simp [Heap.cell, Heap.set, h]
@[simp] theorem cell_kill : (H.set k none).cell b o = if b = k then none else H.cell b o := by
  by_cases h : b = k <;> simp [Heap.cell, Heap.set, h]
@[simp] theorem blk_set (f : Option Blk) : (H.set k f).blk b = if b = k then f else H.blk b := rfl
end
attribute [simp] Heap.row Heap.store

/-! ### one instruction at a time: what it does, by the values it meets -/

section
variable (P : Program) (C : CallF) (e : Env) (H : Heap)
def oV (r : Option Value) (H : Heap) : Option (Value × Heap) := match r with | some v => some (v, H) | none => none
@[simp] theorem oV_some (v : Value) : oV (some v) H = some (v, H) := rfl
def oA (r : Option ((Nat → Value) × Blk)) (H : Heap) : Option (Value × Heap) := match r with | some (f, B) => some (f H.next, H.add B) | none => none
@[simp] theorem oA_some (f : Nat → Value) (B : Blk) : oA (some (f, B)) H = some (f H.next, H.add B) := rfl
def oH (r : Option Heap) (v : Value) : Option (Value × Heap) := match r with | some H => some (v, H) | none => none
@[simp] theorem oH_some (v : Value) : oH (some H) v = some (v, H) := rfl
@[simp] theorem step_mov (x : Arg) : step P C (.mov x) e H = some (ev e x, H) := rfl
def pickV (c a b : Value) (H : Heap) : Option (Value × Heap) := match c with | .bool true => some (a, H) | .bool false => some (b, H) | _ => none
@[simp] theorem pickV_t (a b : Value) : pickV (.bool true) a b H = some (a, H) := rfl
@[simp] theorem pickV_f (a b : Value) : pickV (.bool false) a b H = some (b, H) := rfl
@[simp] theorem pickV_d (p : Prop) [Decidable p] (a b : Value) : pickV (.bool (decide p)) a b H = some (if p then a else b, H) := by by_cases h : p <;> simp [h]
@[simp] theorem step_pick (c a b : Arg) : step P C (.pick c a b) e H = pickV (ev e c) (ev e a) (ev e b) H := rfl
def boxV (n : Nat) (v : Value) : Option ((Nat → Value) × Blk) := if v.cells.toList.length = n ∧ v.cells.toList.all Value.oneCell' = true then some (fun b => ptr b 0, rowBlk n v.cells.toList) else none
attribute [simp] boxV
@[simp] theorem step_box (n : Nat) (x : Arg) : step P C (.box n x) e H = oA (boxV n (ev e x)) H := rfl
@[simp] theorem step_new (z : List Value) : step P C (.new z) e H = some (ptr H.next 0, H.add (rowBlk z.length z)) := rfl
def mkrowV (esz len : Nat) (z : List Value) (ps : List (Nat × Nat × Value)) : Option ((Nat → Value) × Blk) :=
  match fillL z ps with | some cs => if cs.all Value.oneCell' = true then some (row0 len (2 * len + 1), rowBlk esz cs) else none | none => none
@[simp] theorem step_mkrow (esz len : Nat) (z : List Value) (ps : List (Nat × Nat × Arg)) : step P C (.mkrow esz len z ps) e H = oA (mkrowV esz len z (ps.map fun p => (p.1, p.2.1, ev e p.2.2))) H := rfl
def s2bV (v : Value) : Option ((Nat → Value) × Blk) := match v with | .string s => some (row0 s.size (2 * s.size), rowBlk 1 (rowOfBytes s)) | _ => none
@[simp] theorem s2bV_string (s : ByteArray) : s2bV (.string s) = some (row0 s.size (2 * s.size), rowBlk 1 (rowOfBytes s)) := rfl
@[simp] theorem step_s2b (x : Arg) : step P C (.s2b x) e H = oA (s2bV (ev e x)) H := rfl
def fillB (esz c : Nat) (z : List Value) : Blk := { esz := esz, ro := false, at_ := fun o => if o < c * esz then z[o % esz]? else none }
@[simp] theorem at_fillB (esz c : Nat) (z : List Value) (o : Nat) : (fillB esz c z).at_ o = if o < c * esz then z[o % esz]? else none := rfl
@[simp] theorem ro_fillB (esz c : Nat) (z : List Value) : (fillB esz c z).ro = false := rfl
@[simp] theorem esz_fillB (esz c : Nat) (z : List Value) : (fillB esz c z).esz = esz := rfl
def mksV (esz bytes : Nat) (z : List Value) (l c : Option Nat) : Option ((Nat → Value) × Blk) := match l, c with
      | some l, some c => if l ≤ c ∧ bytes * c ≤ 2 ^ 46 ∧ c ≤ 2 ^ 46 then some (row0 l (2 * c + 1), fillB esz c z) else none
      | _, _ => none
@[simp] theorem mksV_some (esz bytes : Nat) (z : List Value) (l c : Nat) : mksV esz bytes z (some l) (some c) = if l ≤ c ∧ bytes * c ≤ 2 ^ 46 ∧ c ≤ 2 ^ 46 then some (row0 l (2 * c + 1), fillB esz c z) else none := rfl
@[simp] theorem step_mks (esz bytes : Nat) (z : List Value) (l c : Arg) : step P C (.mks esz bytes z l c) e H = oA (mksV esz bytes z (natOf (ev e l)) (natOf (ev e c))) H := by
  simp only [step, alc, oA, mksV]
  generalize natOf (ev e l) = v0
  generalize natOf (ev e c) = v1
  cases v0 <;> cases v1 <;> rfl
def buildV (z : List Value) (ps : List (Nat × Nat × Value)) : Option Value := match fillL z ps with | some cs => some (.agg cs.toArray) | none => none
@[simp] theorem step_build (z : List Value) (ps : List (Nat × Nat × Arg)) : step P C (.build z ps) e H = oV (buildV z (ps.map fun p => (p.1, p.2.1, ev e p.2.2))) H := by
  simp only [step, oV, buildV]; cases fillL z (ps.map fun p => (p.1, p.2.1, ev e p.2.2)) <;> rfl
def ldV (v : Value) (H : Heap) : Option Value := match v with | .pointer (some ⟨b, o, none⟩) => H.cell b o | _ => none
@[simp] theorem ldV_ptr (b o : Nat) : ldV (.pointer (some ⟨b, o, none⟩)) H = H.cell b o := rfl
@[simp] theorem step_ld (x : Arg) : step P C (.ld x) e H = oV (ldV (ev e x) H) H := by
  simp only [step, oV, ldV]
  generalize ev e x = v0
  repeat' split
  all_goals first | rfl | (simp_all; done) | (rename_i h; cases h; rfl)
def aggO (r : Option (List Value)) : Option Value := match r with | some vs => some (.agg vs.toArray) | none => none
@[simp] theorem aggO_some (vs : List Value) : aggO (some vs) = some (.agg vs.toArray) := rfl
def ldnV (n : Nat) (v : Value) (H : Heap) : Option Value := match v with | .pointer (some ⟨b, o, none⟩) => aggO (H.row b o n) | _ => none
@[simp] theorem ldnV_ptr (n b o : Nat) : ldnV n (.pointer (some ⟨b, o, none⟩)) H = aggO (H.row b o n) := rfl
@[simp] theorem step_ldn (n : Nat) (x : Arg) : step P C (.ldn n x) e H = oV (ldnV n (ev e x) H) H := by
  simp only [step, oV, ldnV, aggO]
  generalize ev e x = v0
  repeat' split
  all_goals first | rfl | (simp_all; done) | (rename_i h; cases h; rfl)
def stV (n : Nat) (a x : Value) (H : Heap) : Option Heap := match a with | .pointer (some ⟨b, o, none⟩) => if x.cells.toList.length = n then H.store b o x.cells.toList else none | _ => none
@[simp] theorem stV_ptr (n b o : Nat) (x : Value) : stV n (.pointer (some ⟨b, o, none⟩)) x H = if x.cells.toList.length = n then H.store b o x.cells.toList else none := rfl
@[simp] theorem step_st (n : Nat) (a x : Arg) : step P C (.st n a x) e H = oH (stV n (ev e a) (ev e x) H) undef := by
  simp only [step, oH, stV]
  generalize ev e a = v0
  generalize ev e x = v1
  repeat' split
  all_goals first | rfl | (simp_all; done) | (rename_i h; cases h; rfl)
def nilckV (v : Value) : Option Value := match v with | .pointer (some a) => some (.pointer (some a)) | _ => none
@[simp] theorem nilckV_some (a : Addr) : nilckV (.pointer (some a)) = some (.pointer (some a)) := rfl
@[simp] theorem step_nilck (x : Arg) : step P C (.nilck x) e H = oV (nilckV (ev e x)) H := by
  simp only [step, oV, nilckV]
  generalize ev e x = v0
  repeat' split
  all_goals first | rfl | (simp_all; done) | (rename_i h; cases h; rfl)
@[simp] theorem step_bin_t (op : BinOp) (t : TypeId) (x : Arg) (n : Nat) : step P C (.bin op t x (.t n)) e H = oV (binV P op t (ev e x) (e n)) H := rfl
@[simp] theorem step_bin_int (op : BinOp) (t : TypeId) (x : Arg) (k : IntKind) (n : Int) : step P C (.bin op t x (.c (.int k n))) e H = oV (binV P op t (ev e x) (.int k n)) H := rfl
@[simp] theorem step_bin_str (op : BinOp) (t : TypeId) (x : Arg) (s : ByteArray) : step P C (.bin op t x (.c (.string s))) e H = oV (binV P op t (ev e x) (.string s)) H := rfl
@[simp] theorem step_bin_bool (op : BinOp) (t : TypeId) (x : Arg) (b : Bool) : step P C (.bin op t x (.c (.bool b))) e H = oV (binV P op t (ev e x) (.bool b)) H := rfl
@[simp] theorem step_bin_ptr (op : BinOp) (t : TypeId) (x : Arg) (a : Option Addr) : step P C (.bin op t x (.c (.pointer a))) e H = oV (binV P op t (ev e x) (.pointer a)) H := rfl
@[simp] theorem step_bin_slice (op : BinOp) (t : TypeId) (x : Arg) (a : Option Addr) (n c : Nat) : step P C (.bin op t x (.c (.slice a n c))) e H = oV (binV P op t (ev e x) (.slice a n c)) H := rfl
@[simp] theorem step_bin_nil (op : BinOp) (t : TypeId) (x : Arg) : step P C (.bin op t x (.c .nilIface)) e H = oV (binA P op t (ev e x) .nilIface true) H := rfl
def unV (P : Program) (op : UnOp) (v : Value) : Option Value := if flat1 v then flatRes (pv P (Op.unary op v)) else none
@[simp] theorem unV_not (b : Bool) : unV P .not (.bool b) = some (.bool (!b)) := rfl
@[simp] theorem unV_neg (k : IntKind) (a : Int) : unV P .neg (.int k a) = some (.int k (k.wrap (0 - a))) := rfl
@[simp] theorem step_un (op : UnOp) (x : Arg) : step P C (.un op x) e H = oV (unV P op (ev e x)) H := by
  unfold unV; simp only [step]; split
  · rfl
  · rfl
def iiV (k : IntKind) (v : Value) : Option Value := match v with | .int _ n => some (.int k (k.wrap n)) | _ => none
@[simp] theorem iiV_int (k k' : IntKind) (n : Int) : iiV k (.int k' n) = some (.int k (k.wrap n)) := rfl
@[simp] theorem step_ii (k : IntKind) (x : Arg) : step P C (.ii k x) e H = oV (iiV k (ev e x)) H := by
  simp only [step, oV, iiV]
  generalize ev e x = v0
  repeat' split
  all_goals first | rfl | (simp_all; done) | (rename_i h; cases h; rfl)
def bytesO (r : Option (List Value)) : Option Value := match r with | some vs => (match bytesOfRow vs with | some l => some (.string ⟨l.toArray⟩) | none => none) | none => none
def numsOfRow : List Value → Option (List Int)
  | [] => some []
  | .int .u8 n :: vs => (match numsOfRow vs with | some l => some (n :: l) | none => none)
  | _ => none
theorem bytes_nums : ∀ vs, bytesOfRow vs = (numsOfRow vs).map (List.map fun n => UInt8.ofNat n.toNat)
  | [] => rfl
  | v :: vs => by
    have ih := bytes_nums vs
    cases v
    case int k n =>
      cases k
      case u8 =>
        show (match bytesOfRow vs with | some l => some (UInt8.ofNat n.toNat :: l) | none => none) = Option.map _ (match numsOfRow vs with | some l => some (n :: l) | none => none)
        rw [ih]; cases numsOfRow vs <;> rfl
      all_goals rfl
    all_goals rfl
def consN (n : Int) (r : Option (List Int)) : Option (List Int) := match r with | some l => some (n :: l) | none => none
@[simp] theorem consN_some (n : Int) (l : List Int) : consN n (some l) = some (n :: l) := rfl
@[simp] theorem numsOfRow_nil : numsOfRow [] = some [] := rfl
@[simp] theorem numsOfRow_cons (n : Int) (vs : List Value) : numsOfRow (.int .u8 n :: vs) = consN n (numsOfRow vs) := rfl
def strO (r : Option (List Int)) : Option Value := match r with | some l => some (.string (strOfNums l)) | none => none
@[simp] theorem strO_some (l : List Int) : strO (some l) = some (.string (strOfNums l)) := rfl
@[simp] theorem bytesO_some (vs : List Value) : bytesO (some vs) = strO (numsOfRow vs) := by
  simp only [bytesO, strO, bytes_nums]
  cases numsOfRow vs <;> rfl
def b2sV (v : Value) (H : Heap) : Option Value := match v with
  | .slice none _ _ => some (.string .empty)
  | .slice (some ⟨b, o, none⟩) n _ => bytesO (H.row b o n)
  | _ => none
@[simp] theorem b2sV_nil (n c : Nat) : b2sV (.slice none n c) H = some (.string .empty) := rfl
@[simp] theorem b2sV_at (b o n c : Nat) : b2sV (.slice (some ⟨b, o, none⟩) n c) H = bytesO (H.row b o n) := rfl
@[simp] theorem step_b2s (x : Arg) : step P C (.b2s x) e H = oV (b2sV (ev e x) H) H := by
  simp only [step, oV, b2sV, bytesO]
  generalize ev e x = v0
  repeat' split
  all_goals first | rfl | (simp_all; done) | (rename_i h; cases h; rfl)
@[simp] theorem step_clos (f : FuncId) (cap : List Arg) : step P C (.clos f cap) e H = if (cap.map (ev e)).all capt = true then some (.func (.func f) #[] (cap.map (ev e)).toArray, H) else none := rfl
def slsO (v : Value) (lo hi : Option Value) : Option Value := match v with | .string s => slsV s lo hi | _ => none
@[simp] theorem slsO_string (s : ByteArray) (lo hi : Option Value) : slsO (.string s) lo hi = slsV s lo hi := rfl
@[simp] theorem step_sls (x : Arg) (lo hi : Option Arg) : step P C (.sls x lo hi) e H = oV (slsO (ev e x) (lo.map (ev e)) (hi.map (ev e))) H := by
  simp only [step, oV, slsO]
  generalize ev e x = v0
  repeat' split
  all_goals first | rfl | (simp_all; done) | (rename_i h; cases h; rfl)
@[simp] theorem step_slv (esz : Nat) (x : Arg) (lo hi mx : Option Arg) : step P C (.slv esz x lo hi mx) e H = oV (slvV H esz (ev e x) (lo.map (ev e)) (hi.map (ev e)) (mx.map (ev e))) H := rfl
def fadrV (off : Nat) (v : Value) : Option Value := match v with | .pointer (some ⟨b, o, none⟩) => some (ptr b (o + off)) | _ => none
@[simp] theorem fadrV_ptr (off b o : Nat) : fadrV off (.pointer (some ⟨b, o, none⟩)) = some (ptr b (o + off)) := rfl
@[simp] theorem step_fadr (off : Nat) (x : Arg) : step P C (.fadr off x) e H = oV (fadrV off (ev e x)) H := by
  simp only [step, oV, fadrV]
  generalize ev e x = v0
  repeat' split
  all_goals first | rfl | (simp_all; done) | (rename_i h; cases h; rfl)
def iadrSV (esz : Nat) (v : Value) (i : Option Nat) : Option Value := match v, i with | .slice (some ⟨b, o, none⟩) n _, some k => if k < n then some (ptr b (o + k * esz)) else none | _, _ => none
@[simp] theorem iadrSV_at (esz b o n c k : Nat) : iadrSV esz (.slice (some ⟨b, o, none⟩) n c) (some k) = if k < n then some (ptr b (o + k * esz)) else none := rfl
@[simp] theorem step_iadrS (esz : Nat) (x i : Arg) : step P C (.iadrS esz x i) e H = oV (iadrSV esz (ev e x) (natOf (ev e i))) H := by
  simp only [step, oV, iadrSV]
  generalize ev e x = v0
  generalize natOf (ev e i) = v1
  repeat' split
  all_goals first | rfl | (simp_all; done) | (rename_i h _ _ hq; have h3 := hq; dsimp only at h3; rw [if_neg h] at h3; cases h3)
def iadrAV (n esz : Nat) (v : Value) (i : Option Nat) : Option Value := match v, i with | .pointer (some ⟨b, o, none⟩), some k => if k < n then some (ptr b (o + k * esz)) else none | _, _ => none
@[simp] theorem iadrAV_at (n esz b o k : Nat) : iadrAV n esz (.pointer (some ⟨b, o, none⟩)) (some k) = if k < n then some (ptr b (o + k * esz)) else none := rfl
@[simp] theorem step_iadrA (n esz : Nat) (x i : Arg) : step P C (.iadrA n esz x i) e H = oV (iadrAV n esz (ev e x) (natOf (ev e i))) H := by
  simp only [step, oV, iadrAV]
  generalize ev e x = v0
  generalize natOf (ev e i) = v1
  repeat' split
  all_goals first | rfl | (simp_all; done) | (rename_i h _ _ hq; have h3 := hq; dsimp only at h3; rw [if_neg h] at h3; cases h3)
def fldV (off n : Nat) (agg : Bool) (v : Value) : Option Value := match v with | .agg cs => partL off n agg cs.toList | _ => none
@[simp] theorem fldV_agg (off n : Nat) (agg : Bool) (cs : Array Value) : fldV off n agg (.agg cs) = partL off n agg cs.toList := rfl
@[simp] theorem step_fld (off n : Nat) (agg : Bool) (x : Arg) : step P C (.fld off n agg x) e H = oV (fldV off n agg (ev e x)) H := by
  simp only [step, oV, fldV]
  generalize ev e x = v0
  repeat' split
  all_goals first | rfl | (simp_all; done) | (rename_i h; cases h; rfl)
def idxAV (len esz : Nat) (agg : Bool) (v : Value) (i : Option Nat) : Option Value := match v, i with | .agg cs, some k => if k < len then partL (k * esz) esz agg cs.toList else none | _, _ => none
@[simp] theorem idxAV_agg (len esz : Nat) (agg : Bool) (cs : Array Value) (k : Nat) : idxAV len esz agg (.agg cs) (some k) = if k < len then partL (k * esz) esz agg cs.toList else none := rfl
@[simp] theorem step_idxA (len esz : Nat) (agg : Bool) (x i : Arg) : step P C (.idxA len esz agg x i) e H = oV (idxAV len esz agg (ev e x) (natOf (ev e i))) H := by
  simp only [step, oV, idxAV]
  generalize ev e x = v0
  generalize natOf (ev e i) = v1
  repeat' split
  all_goals first | rfl | (simp_all; done) | (rename_i h _ _ hq; have h3 := hq; dsimp only at h3; rw [if_neg h] at h3; cases h3)
def idxSV (v : Value) (i : Option Nat) : Option Value := match v, i with | .string s, some k => if k < s.size then some (.int .u8 (bt s (k : Int))) else none | _, _ => none
@[simp] theorem idxSV_at (s : ByteArray) (k : Nat) : idxSV (.string s) (some k) = if k < s.size then some (.int .u8 (bt s (k : Int))) else none := rfl
@[simp] theorem step_idxS (x i : Arg) : step P C (.idxS x i) e H = oV (idxSV (ev e x) (natOf (ev e i))) H := by
  simp only [step, oV, idxSV]
  generalize ev e x = v0
  generalize natOf (ev e i) = v1
  split
  · rename_i s k
    by_cases h : k < s.size
    · have : s.data.toList[k]? = some (ub s k) := by simpa using at_ub h
      simp only [this, if_pos h, ub_bt]
    · have : s.data.toList[k]? = none := by rw [List.getElem?_eq_none]; rw [Array.length_toList]; exact Nat.le_of_not_lt h
      simp only [this, if_neg h]
  · split
    · split at * <;> simp_all
    · rfl
def extV (i : Nat) (v : Value) : Option Value := match v with | .tuple vs => vs.toList[i]? | _ => none
@[simp] theorem extV_tuple (i : Nat) (vs : Array Value) : extV i (.tuple vs) = vs.toList[i]? := rfl
@[simp] theorem step_ext (i : Nat) (x : Arg) : step P C (.ext i x) e H = oV (extV i (ev e x)) H := by
  simp only [step, oV, extV]
  generalize ev e x = v0
  repeat' split
  all_goals first | rfl | (simp_all; done) | (rename_i h; cases h; rfl)
@[simp] theorem step_call (f : FuncId) (xs : List Arg) : step P C (.call f xs) e H = C f (xs.map (ev e)) H := rfl
def callO (C : CallF) (v : Value) (vs : List Value) (H : Heap) : Option (Value × Heap) := match v with | .func (.func f) first cap => if first.size = 0 then C f (vs ++ cap.toList) H else none | _ => none
@[simp] theorem callO_func (f : FuncId) (first cap : Array Value) (vs : List Value) : callO C (.func (.func f) first cap) vs H = if first.size = 0 then C f (vs ++ cap.toList) H else none := rfl
@[simp] theorem step_callV (x : Arg) (xs : List Arg) : step P C (.callV x xs) e H = callO C (ev e x) (xs.map (ev e)) H := rfl
def appO (esz bytes k : Nat) (x : Value) (r : Option (List Value)) (H : Heap) : Option (Value × Heap) := match r with | some ys => appV H esz bytes k x ys | none => none
@[simp] theorem appO_some (esz bytes k : Nat) (x : Value) (ys : List Value) : appO esz bytes k x (some ys) H = appV H esz bytes k x ys := rfl
def appE (esz bytes : Nat) (x y : Value) (H : Heap) : Option (Value × Heap) := match strLen y with | some k => appO esz bytes k x (elems H esz k y) H | none => none
@[simp] theorem appE_slice (esz bytes : Nat) (x : Value) (p : Option Addr) (n c : Nat) : appE esz bytes x (.slice p n c) H = appO esz bytes n x (elems H esz n (.slice p n c)) H := rfl
@[simp] theorem appE_string (esz bytes : Nat) (x : Value) (s : ByteArray) : appE esz bytes x (.string s) H = appO esz bytes s.size x (elems H esz s.size (.string s)) H := rfl
@[simp] theorem step_app (esz bytes : Nat) (x y : Arg) : step P C (.app esz bytes x y) e H = appE esz bytes (ev e x) (ev e y) H := rfl
def lenO (v : Value) : Option Value := match v with | .slice _ n _ => some (.int .i64 (n : Int)) | _ => none
@[simp] theorem lenO_slice (p : Option Addr) (n c : Nat) : lenO (.slice p n c) = some (.int .i64 (n : Int)) := rfl
@[simp] theorem step_lenV (x : Arg) : step P C (.lenV x) e H = oV (lenO (ev e x)) H := by
  simp only [step, oV, lenO]
  generalize ev e x = v0
  repeat' split
  all_goals first | rfl | (simp_all; done) | (rename_i h; cases h; rfl)
def lenSO (v : Value) : Option Value := match v with | .string s => some (.int .i64 (s.size : Int)) | _ => none
@[simp] theorem lenSO_string (s : ByteArray) : lenSO (.string s) = some (.int .i64 (s.size : Int)) := rfl
@[simp] theorem step_lenS (x : Arg) : step P C (.lenS x) e H = oV (lenSO (ev e x)) H := by
  simp only [step, oV, lenSO]
  generalize ev e x = v0
  repeat' split
  all_goals first | rfl | (simp_all; done) | (rename_i h; cases h; rfl)
@[simp] theorem step_lenA (n : Nat) : step P C (.lenA n) e H = some (.int .i64 (n : Int), H) := rfl
def mmV (mx : Bool) (x y : Value) : Option Value := match x, y with | .int k a, .int _ b => some (.int k (if mx then (if b > a then b else a) else (if b < a then b else a))) | _, _ => none
@[simp] theorem mmV_min (k k' : IntKind) (a b : Int) : mmV false (.int k a) (.int k' b) = some (.int k (if b < a then b else a)) := rfl
@[simp] theorem mmV_max (k k' : IntKind) (a b : Int) : mmV true (.int k a) (.int k' b) = some (.int k (if b > a then b else a)) := rfl
@[simp] theorem step_mm (mx : Bool) (x y : Arg) : step P C (.mm mx x y) e H = oV (mmV mx (ev e x) (ev e y)) H := by
  simp only [step, oV, mmV]
  generalize ev e x = v0
  generalize ev e y = v1
  cases v0 <;> first | rfl | (cases v1 <;> rfl)
def boolO (neg : Bool) (r : Option Bool) : Option Value := match r with | some b => some (.bool (b != neg)) | none => none
@[simp] theorem boolO_some (neg b : Bool) : boolO neg (some b) = some (.bool (b != neg)) := rfl
def eqaV (neg : Bool) (ss : List Srt) (x y : Value) : Option Value := match x, y with | .agg xs, .agg ys => boolO neg (cellsEq ss xs.toList ys.toList) | _, _ => none
@[simp] theorem eqaV_agg (neg : Bool) (ss : List Srt) (xs ys : Array Value) : eqaV neg ss (.agg xs) (.agg ys) = boolO neg (cellsEq ss xs.toList ys.toList) := rfl
@[simp] theorem step_eqa (neg : Bool) (ss : List Srt) (x y : Arg) : step P C (.eqa neg ss x y) e H = oV (eqaV neg ss (ev e x) (ev e y)) H := by
  simp only [step, oV, eqaV, boolO]
  generalize ev e x = v0
  generalize ev e y = v1
  repeat' split
  all_goals first | rfl | (simp_all; done) | (rename_i h; cases h; rfl)
theorem step_copy (esz : Nat) (x y : Arg) : step P C (.copy esz x y) e H = (match ev e x, strLen (ev e y) with
      | .slice (some ⟨b, o, none⟩) n _, some k => (match elems H esz (Nat.min k n) (ev e y) with
        | some ys => (match H.storeR b o ys with | some H' => some (.int .i64 ((Nat.min k n : Nat) : Int), H') | none => none)
        | none => none)
      | .slice none 0 0, some k => some (.int .i64 0, H)
      | _, _ => none) := rfl
end
@[simp] theorem cellsEq_nil : cellsEq [] [] [] = some true := rfl
def andO (a b : Option Bool) : Option Bool := match a, b with | some a, some b => some (a && b) | _, _ => none
@[simp] theorem andO_some (a b : Bool) : andO (some a) (some b) = some (a && b) := rfl
@[simp] theorem cellsEq_cons (s : Srt) (ss : List Srt) (x y : Value) (xs ys : List Value) : cellsEq (s :: ss) (x :: xs) (y :: ys) = andO (cellEq s x y) (cellsEq ss xs ys) := by
  simp only [cellsEq, andO]
  generalize cellEq s x y = v0
  generalize cellsEq ss xs ys = v1
  cases v0 <;> cases v1 <;> rfl
@[simp] theorem cellEq_num (k : IntKind) (a b : Int) : cellEq (.num k) (.int k a) (.int k b) = some (decide (a = b)) := by simp [cellEq]
@[simp] theorem cellEq_txt (a b : ByteArray) : cellEq .txt (.string a) (.string b) = some (decide (a = b)) := rfl
@[simp] theorem cellEq_flag (a b : Bool) : cellEq .flag (.bool a) (.bool b) = some (decide (a = b)) := rfl
attribute [simp] mkrowV buildV
@[simp] theorem elems_at (H : Heap) (esz n b o m c : Nat) : elems H esz n (.slice (some ⟨b, o, none⟩) m c) = H.row b o (n * esz) := rfl
@[simp] theorem elems_nil (H : Heap) (esz n m c : Nat) : elems H esz n (.slice none m c) = if n * esz = 0 then some [] else none := rfl
theorem nums_rep (k : Nat) (x : Int) : numsOfRow (List.replicate k (.int .u8 x)) = some (List.replicate k x) := by
  induction k with
  | zero => rfl
  | succ k ih => rw [List.replicate_succ, numsOfRow_cons, ih]; rfl
theorem str_zero (k : Nat) : strOfNums (List.replicate k 0) = zer k := by apply L_inj; rw [L_strOfNums, L_zer]; simp
theorem row_fill1 (H : Heap) (b c n : Nat) (v : Value) (hb : b = H.next) (h : n ≤ c) : (H.add (fillB 1 c [v])).row b 0 n = some (List.replicate n v) := by
  refine row_of n 0 (by simp) fun j hj => ?_
  have : j < c := by omega
  simp [hb, hj, this, Nat.mod_one]

/-! ### elements of two and of four cells -/
theorem Rows.at1 {α : Type} {enc : α → List Value} {H : Heap} {p : Option Addr} {n c : Nat} {xs : List α} (h : Rows enc 1 H (.slice p n c) xs) {i : Nat} (hi : i < xs.length) : ∃ b o, p = some ⟨b, o, none⟩ ∧ b < H.next ∧ H.cell b (o + i) = (enc xs[i])[0]? := by
  obtain ⟨_, b, o, h1, h2, h3⟩ := h.at_ hi
  exact ⟨b, o, h1, h2, by simpa using h3 0 (by omega)⟩
theorem Rows.at2 {α : Type} {enc : α → List Value} {H : Heap} {p : Option Addr} {n c : Nat} {xs : List α} (h : Rows enc 2 H (.slice p n c) xs) {i : Nat} (hi : i < xs.length) : ∃ b o, p = some ⟨b, o, none⟩ ∧ b < H.next ∧ H.cell b (o + i * 2) = (enc xs[i])[0]? ∧ H.cell b (o + i * 2 + 1) = (enc xs[i])[1]? := by
  obtain ⟨_, b, o, h1, h2, h3⟩ := h.at_ hi
  exact ⟨b, o, h1, h2, by simpa using h3 0 (by omega), h3 1 (by omega)⟩
theorem Rows.at4 {α : Type} {enc : α → List Value} {H : Heap} {p : Option Addr} {n c : Nat} {xs : List α} (h : Rows enc 4 H (.slice p n c) xs) {i : Nat} (hi : i < xs.length) : ∃ b o, p = some ⟨b, o, none⟩ ∧ b < H.next ∧ H.cell b (o + i * 4) = (enc xs[i])[0]? ∧ H.cell b (o + i * 4 + 1) = (enc xs[i])[1]? ∧ H.cell b (o + i * 4 + 2) = (enc xs[i])[2]? ∧ H.cell b (o + i * 4 + 3) = (enc xs[i])[3]? := by
  obtain ⟨_, b, o, h1, h2, h3⟩ := h.at_ hi
  exact ⟨b, o, h1, h2, by simpa using h3 0 (by omega), h3 1 (by omega), h3 2 (by omega), h3 3 (by omega)⟩
/-- A loop in a block: what the loop's end must satisfy is what follows. -/
theorem wp_for {K : Cfg} {a : IC} {id : Nat} {e : Env} {H : Heap} {Q : IEx → Env → Heap → Prop} (Inv : Nat → Env → Heap → Prop) (d : Nat) (h0 : Inv d e H)
    (round : ∀ d e H, Inv d e H → wp (run K a e H) fun x e' H' => match x with | .norm => ∃ d', d' < d ∧ Inv d' e' H' | x => blockQ id Q x e' H') : wp (unblock id (run K (.loop a) e H)) Q :=
  wp_unblock (wp_loop Inv round d e H h0)

end Go.AM
end TextAhTxt
section TextAhOwn
/- AM: slices that grow. -/
namespace Go.AM
set_option linter.unusedVariables false
set_option linter.unusedSimpArgs false
/-- The memory of what an append has left behind is gone. -/
def killB (v : Value) (H : Heap) : Heap := match v with | .slice (some a) _ _ => H.set a.block none | _ => H
@[simp] theorem next_killB (v : Value) (H : Heap) : (killB v H).next = H.next := by unfold killB; split <;> rfl
/-- v is no slice of block b. -/
def NotIn (v : Value) (b : Nat) : Prop := ∀ a n c, v = .slice (some a) n c → b ≠ a.block
theorem blk_killB {v : Value} {H : Heap} {b : Nat} (h : NotIn v b) : (killB v H).blk b = H.blk b := by
  unfold killB; split
  · rename_i a n c; exact blk_set_ne (h a n c rfl)
  · rfl
theorem cell_killB {v : Value} {H : Heap} {b o : Nat} (h : NotIn v b) : (killB v H).cell b o = H.cell b o := by simp only [Heap.cell, blk_killB h]
theorem flat_len {α : Type} {enc : α → List Value} {sz : Nat} (he : ∀ x, (enc x).length = sz) : ∀ xs : List α, (xs.flatMap enc).length = xs.length * sz
  | [] => by simp
  | x :: xs => by rw [List.flatMap_cons, List.length_append, he, flat_len he xs, List.length_cons, Nat.succ_mul]; omega
theorem flat_get {α : Type} {enc : α → List Value} {sz : Nat} (he : ∀ x, (enc x).length = sz) : ∀ (xs : List α) (i : Nat) (h : i < xs.length) (j : Nat), j < sz → (xs.flatMap enc)[i * sz + j]? = (enc xs[i])[j]?
  | x :: xs, 0, _, j, hj => by
    rw [List.flatMap_cons, Nat.zero_mul, Nat.zero_add, List.getElem?_append_left (by rw [he]; exact hj)]; rfl
  | x :: xs, i + 1, h, j, hj => by
    rw [List.flatMap_cons, List.getElem?_append_right (by rw [he, Nat.succ_mul]; omega), he]
    rw [show (i + 1) * sz + j - sz = i * sz + j by rw [Nat.succ_mul]; omega, flat_get he xs i (by simpa using h) j hj]
    rfl
/-- v is a slice of xs that nobody else holds; its memory, if any, begins at block n0 or behind. -/
structure Own {α : Type} (enc : α → List Value) (sz n0 : Nat) (H : Heap) (v : Value) (xs : List α) : Prop where
  lim : xs.length ≤ 140737488355328
  is : (v = .slice none 0 0 ∧ xs = []) ∨ ∃ b B, v = .slice (some ⟨b, 0, none⟩) xs.length (2 * xs.length) ∧ n0 ≤ b ∧ b < H.next ∧ H.blk b = some B ∧ B.ro = false ∧ B.esz = sz ∧ ∀ j, j < xs.length * sz → B.at_ j = (xs.flatMap enc)[j]?
section
variable {α : Type} {enc : α → List Value} {sz n0 : Nat} {H : Heap} {v : Value} {xs : List α}
theorem Own.nil : Own enc sz n0 H (.slice none 0 0) ([] : List α) := ⟨by simp, .inl ⟨rfl, rfl⟩⟩
theorem Own.low (h : Own enc sz n0 H v xs) {m : Nat} (hm : m ≤ n0) : Own enc sz m H v xs := by
  refine ⟨h.lim, h.is.imp id ?_⟩
  rintro ⟨b, B, h1, h2, h3⟩; exact ⟨b, B, h1, by omega, h3⟩
theorem Own.ext (h : Own enc sz n0 H v xs) {H' : Heap} (he : Ext H H') : Own enc sz n0 H' v xs := by
  refine ⟨h.lim, h.is.imp id ?_⟩
  rintro ⟨b, B, h1, h2, h3, h4, h5⟩; exact ⟨b, B, h1, h2, by have := he.next; omega, by rw [he.blk b h3]; exact h4, h5⟩
theorem Own.frame (h : Own enc sz n0 H v xs) {H' : Heap} (hn : H.next ≤ H'.next) (hb : ∀ b, n0 ≤ b → b < H.next → ¬ NotIn v b → H'.blk b = H.blk b) : Own enc sz n0 H' v xs := by
  refine ⟨h.lim, h.is.imp id ?_⟩
  rintro ⟨b, B, h1, h2, h3, h4, h5⟩
  exact ⟨b, B, h1, h2, by omega, by rw [hb b h2 h3 (fun hn => hn _ _ _ h1 rfl)]; exact h4, h5⟩
theorem Own.rows (h : Own enc sz n0 H v xs) (he : ∀ x, (enc x).length = sz) : Rows enc sz H v xs := by
  rcases h.is with ⟨rfl, rfl⟩ | ⟨b, B, rfl, h2, h3, h4, h5, h6, h7⟩
  · exact Rows.nil
  · refine ⟨by have := h.lim; omega, _, _, rfl, .inr ⟨b, 0, rfl, h3, by omega, fun i hi j hj => ?_⟩⟩
    rw [Nat.zero_add, show H.cell b (i * sz + j) = B.at_ (i * sz + j) by simp only [Heap.cell, h4]]
    rw [h7 _ (by
      have : (i + 1) * sz ≤ xs.length * sz := Nat.mul_le_mul_right _ hi
      rw [Nat.succ_mul] at this; omega), flat_get he xs i hi j hj]
theorem Own.notIn (h : Own enc sz n0 H v xs) {b : Nat} (hb : b < n0) : NotIn v b := by
  intro a n c e
  rcases h.is with ⟨rfl, rfl⟩ | ⟨b', B, rfl, h2, _⟩
  · cases e
  · cases e; simp only; omega
theorem Own.ext_kill (h : Own enc sz n0 H v xs) {A G : Heap} (hA : A.next ≤ n0) (hE : Ext A G) : Ext A (killB v G) :=
  ⟨by rw [next_killB]; exact hE.next, fun b hb => by rw [blk_killB (h.notIn (by omega))]; exact hE.blk b hb⟩
theorem Own.new (hn : n0 ≤ H.next) (hl : xs.length ≤ 140737488355328) (cs : List Value) (hc : cs = xs.flatMap enc) : Own enc sz n0 (H.add (rowBlk sz cs)) (.slice (some ⟨H.next, 0, none⟩) xs.length (2 * xs.length)) xs :=
  ⟨hl, .inr ⟨H.next, _, rfl, hn, by simp, blk_add_new _ _, rfl, rfl, fun j hj => by subst hc; rfl⟩⟩
theorem Own.new' {b : Nat} (hb : b = H.next) (hn : n0 ≤ b) (hl : xs.length ≤ 140737488355328) {cs : List Value} (hc : cs = xs.flatMap enc) : Own enc sz n0 (H.add (rowBlk sz cs)) (.slice (some ⟨b, 0, none⟩) xs.length (2 * xs.length)) xs := by
  subst hb; exact Own.new hn hl cs hc
/-- An append to what is one's own: one block behind another. -/
theorem Own.app (h : Own enc sz n0 H v xs) (he : ∀ x, (enc x).length = sz) {bytes k : Nat} (ys : List Value) (hk : k ≠ 0) (hy : ys.all Value.oneCell' = true) (h1 : (xs.length + k) * bytes ≤ 2 ^ 47) (h2 : xs.length + k ≤ 2 ^ 47) :
    appV H sz bytes k v ys = some (.slice (some ⟨H.next, 0, none⟩) (xs.length + k) (2 * (xs.length + k)), (killB v H).add (rowBlk sz (xs.flatMap enc ++ ys))) := by
  unfold appV
  rw [if_neg hk]
  rcases h.is with ⟨rfl, rfl⟩ | ⟨b, B, rfl, h3, h4, h5, h6, h7, h8⟩
  · simp only [List.length_nil, Nat.zero_add] at h1 h2 ⊢
    rw [if_pos ⟨h1, h2, hy⟩]; rfl
  · simp only
    have hr : H.row b 0 (xs.length * sz) = some (xs.flatMap enc) := by
      refine row_of _ 0 (flat_len he xs) fun j hj => ?_
      rw [Nat.zero_add, show H.cell b j = B.at_ j by simp only [Heap.cell, h5]]
      exact h8 j hj
    rw [if_neg (by omega), if_pos ⟨h1, h2, hy⟩, hr, h5]
    simp only
    rw [if_neg (by omega), if_pos ⟨h6, h7⟩]
    rfl
end
section
variable {α : Type} {enc : α → List Value} {sz n0 : Nat} {H : Heap} {v y : Value} {xs ys : List α}
theorem Own.len (h : Own enc sz n0 H v xs) : lenO v = some (.int .i64 (xs.length : Int)) := by
  rcases h.is with ⟨rfl, rfl⟩ | ⟨b, B, rfl, _⟩ <;> rfl
theorem Rows.appE (h : Rows enc sz H y ys) (he : ∀ x, (enc x).length = sz) (bytes : Nat) (x : Value) : appE sz bytes x y H = appV H sz bytes ys.length x (ys.flatMap enc) := by
  obtain ⟨l, p, c, rfl, hp⟩ := h
  rw [appE_slice]
  rcases hp with ⟨rfl, rfl, rfl⟩ | ⟨b, o, rfl, h2, h3, h4⟩
  · simp
  · rw [elems_at, row_of (vs := ys.flatMap enc) _ o (flat_len he ys) fun j hj => ?_]
    · rfl
    · have hz : 0 < sz := by
        rcases Nat.eq_zero_or_pos sz with h | h
        · subst h; simp at hj
        · exact h
      have hq : j / sz < ys.length := by rw [Nat.div_lt_iff_lt_mul hz]; exact hj
      have hm : j % sz < sz := Nat.mod_lt _ hz
      have e : j / sz * sz + j % sz = j := by rw [Nat.mul_comm]; exact Nat.div_add_mod j sz
      have := h4 (j / sz) hq (j % sz) hm
      rw [Nat.add_assoc, e] at this
      rw [this, ← flat_get he ys _ hq _ hm, e]
theorem one_flat (h1 : ∀ x, (enc x).all Value.oneCell' = true) (xs : List α) : (xs.flatMap enc).all Value.oneCell' = true := by
  rw [List.all_eq_true]
  intro a ha
  obtain ⟨x, _, hx⟩ := List.mem_flatMap.1 ha
  exact List.all_eq_true.1 (h1 x) a hx
theorem Own.appR (h : Own enc sz n0 H v xs) (hy : Rows enc sz H y ys) (he : ∀ x, (enc x).length = sz) (h1 : ∀ x, (enc x).all Value.oneCell' = true) {bytes : Nat} (hk : ys.length ≠ 0) (h2 : (xs.length + ys.length) * bytes ≤ 2 ^ 47) (h3 : xs.length + ys.length ≤ 2 ^ 47) :
    AM.appE sz bytes v y H = some (.slice (some ⟨H.next, 0, none⟩) (xs ++ ys).length (2 * (xs ++ ys).length), (killB v H).add (rowBlk sz ((xs ++ ys).flatMap enc))) := by
  rw [hy.appE he, h.app he _ hk (one_flat h1 ys) h2 h3, List.length_append, List.flatMap_append]
end
/-- v's memory, if any, lies ahead of block m. -/
def BelowB (v : Value) (m : Nat) : Prop := ∀ a n c, v = .slice (some a) n c → a.block < m
theorem BelowB.notIn {v : Value} {m b : Nat} (h : BelowB v m) (hb : m ≤ b) : NotIn v b := fun a n c e => by have := h a n c e; omega
theorem BelowB.mono {v : Value} {m k : Nat} (h : BelowB v m) (hk : m ≤ k) : BelowB v k := fun a n c e => by have := h a n c e; omega
section
variable {α : Type} {enc : α → List Value} {sz n0 : Nat} {H : Heap} {v y : Value} {xs ys : List α}
theorem Own.below (h : Own enc sz n0 H v xs) : BelowB v H.next := by
  intro a n c e
  rcases h.is with ⟨rfl, _⟩ | ⟨b, B, rfl, h2, h3, _⟩
  · cases e
  · cases e; exact h3
theorem Own.slc (h : Own enc sz n0 H v xs) : ∃ p c, v = .slice p xs.length c ∧ (∀ a, p = some a → a.spot = none ∧ a.off = 0) := by
  rcases h.is with ⟨rfl, rfl⟩ | ⟨b, B, rfl, h2⟩
  · exact ⟨none, 0, rfl, fun a h => by cases h⟩
  · exact ⟨_, _, rfl, fun a h => by cases h; exact ⟨rfl, rfl⟩⟩
end
@[simp] theorem set_set (H : Heap) (b : Nat) (f g : Option Blk) : (H.set b f).set b g = H.set b g := by
  unfold Heap.set; congr 1; funext k; by_cases h : k = b <;> simp [h]
section
variable {α : Type} {enc : α → List Value} {sz n0 : Nat} {H : Heap} {v y : Value} {xs ys : List α}
theorem Own.set (h : Own enc sz n0 H v xs) {k : Nat} (hk : k < n0) (f : Option Blk) : Own enc sz n0 (H.set k f) v xs :=
  h.frame (Nat.le_refl _) fun b h1 h2 _ => blk_set_ne (by omega)
theorem Own.setB (h : Own enc sz n0 H v xs) {k : Nat} (hk : NotIn v k) (f : Option Blk) : Own enc sz n0 (H.set k f) v xs :=
  h.frame (Nat.le_refl _) fun b h1 h2 h3 => blk_set_ne (fun e => h3 (e ▸ hk))
theorem Own.killB (h : Own enc sz n0 H v xs) {D : Nat} (hv : BelowB v D) {w : Value} (hw : ∀ b, b < D → NotIn w b) : Own enc sz n0 (killB w H) v xs :=
  h.frame (by simp) fun b h1 h2 h3 => blk_killB (hw b (Nat.lt_of_not_le fun hb => h3 (hv.notIn hb)))
theorem BelowB.slice {b o n c m : Nat} {sp} (h : b < m) : BelowB (.slice (some ⟨b, o, sp⟩) n c) m := fun a n c e => by cases e; exact h
theorem BelowB.nil {n c m : Nat} : BelowB (.slice none n c) m := fun a n c e => by cases e
end
theorem flat_set {α : Type} {enc : α → List Value} {sz : Nat} (he : ∀ x, (enc x).length = sz) {xs : List α} {i k : Nat} (hi : i < xs.length) (hk : k < sz) {x' : α} {val : Value}
    (hx : ∀ r, r < sz → (enc x')[r]? = if r = k then some val else (enc xs[i])[r]?) {j : Nat} (hj : j < xs.length * sz) : ((xs.set i x').flatMap enc)[j]? = if j = i * sz + k then some val else (xs.flatMap enc)[j]? := by
  have hz : 0 < sz := by omega
  have hq : j / sz < xs.length := by rw [Nat.div_lt_iff_lt_mul hz]; exact hj
  have hm : j % sz < sz := Nat.mod_lt _ hz
  have e : j / sz * sz + j % sz = j := by rw [Nat.mul_comm]; exact Nat.div_add_mod j sz
  have a1 := flat_get he (xs.set i x') (j / sz) (by rw [List.length_set]; exact hq) _ hm
  have a2 := flat_get he xs (j / sz) hq _ hm
  rw [e] at a1 a2
  rw [a1, a2]
  by_cases hqi : j / sz = i
  · have : (xs.set i x')[j / sz]'(by rw [List.length_set]; exact hq) = x' := by simp [hqi]
    rw [this, hx _ hm]
    by_cases hr : j % sz = k
    · rw [if_pos hr, if_pos (by rw [← e, hqi, hr])]
    · rw [if_neg hr, if_neg (fun h => hr (by rw [h, Nat.mul_comm, Nat.mul_add_mod, Nat.mod_eq_of_lt hk]))]
      simp only [hqi]
  · have : (xs.set i x')[j / sz]'(by rw [List.length_set]; exact hq) = xs[j / sz] := by rw [List.getElem_set_ne (fun h => hqi h.symm)]
    rw [this, if_neg (fun h => hqi (by rw [h, Nat.mul_comm, Nat.mul_add_div hz, Nat.div_eq_of_lt hk]; rfl))]
section
variable {α : Type} {enc : α → List Value} {sz n0 : Nat} {H : Heap} {v y : Value} {xs ys : List α}
/-- One's own slice of something: its block, and a cell written. -/
theorem Own.blkOf (h : Own enc sz n0 H v xs) (he : ∀ x, (enc x).length = sz) (hne : xs ≠ []) : ∃ b B, v = .slice (some ⟨b, 0, none⟩) xs.length (2 * xs.length) ∧ n0 ≤ b ∧ b < H.next ∧ H.blk b = some B ∧ B.ro = false ∧
    (∀ (i : Nat) (hi : i < xs.length) (j : Nat), j < sz → B.at_ (i * sz + j) = (enc xs[i])[j]?) ∧
    ∀ (i k : Nat) (hi : i < xs.length) (hk : k < sz) (x' : α) (val : Value), (∀ r, r < sz → (enc x')[r]? = if r = k then some val else (enc xs[i])[r]?) → Own enc sz n0 (H.set b (some (B.put (i * sz + k) val))) v (xs.set i x') := by
  rcases h.is with ⟨_, rfl⟩ | ⟨b, B, rfl, h2, h3, h4, h5, h6, h7⟩
  · exact absurd rfl hne
  · refine ⟨b, B, rfl, h2, h3, h4, h5, fun i hi j hj => ?_, fun i k hi hk x' val hx => ?_⟩
    · rw [h7 _ (by
        have : (i + 1) * sz ≤ xs.length * sz := Nat.mul_le_mul_right _ hi
        rw [Nat.succ_mul] at this; omega), flat_get he xs i hi j hj]
    · refine ⟨by rw [List.length_set]; exact h.lim, .inr ⟨b, _, by rw [List.length_set], h2, h3, blk_set_self _ _ _, h5, h6, fun j hj => ?_⟩⟩
      rw [List.length_set] at hj
      rw [flat_set he hi hk hx hj, at_put, h7 j hj]
end
theorem Own.appAny {α : Type} {enc : α → List Value} {sz n0 : Nat} {H : Heap} {v y : Value} {xs ys : List α} (h : Own enc sz n0 H v xs) (hn : n0 ≤ H.next) (hy : Rows enc sz H y ys) (he : ∀ x, (enc x).length = sz) (h1 : ∀ x, (enc x).all Value.oneCell' = true) {bytes : Nat} (h2 : (xs.length + ys.length) * bytes ≤ 2 ^ 47) (h3 : xs.length + ys.length ≤ 2 ^ 47) :
    ∃ v' H', AM.appE sz bytes v y H = some (v', H') ∧ Own enc sz n0 H' v' (xs ++ ys) ∧ ∀ A, A.next ≤ n0 → Ext A H → Ext A H' := by
  by_cases hk : ys.length = 0
  · obtain rfl : ys = [] := List.eq_nil_of_length_eq_zero hk
    refine ⟨v, H, ?_, by rw [List.append_nil]; exact h, fun A _ hE => hE⟩
    rw [hy.appE he]
    rcases h.is with ⟨rfl, rfl⟩ | ⟨b, B, rfl, _⟩ <;> rfl
  · refine ⟨_, _, h.appR hy he h1 hk h2 h3, Own.new' (by simp) hn (by rw [List.length_append]; omega) rfl, fun A hA hE => (h.ext_kill hA hE).add _⟩
theorem wpf_choose {C : Heap → Option (Value × Heap)} {Q : Heap → Value → Heap → Prop} (h : ∀ G, wpf (C G) (Q G)) : ∃ (fv : Heap → Value) (fG : Heap → Heap), (∀ G, C G = some (fv G, fG G)) ∧ ∀ G, Q G (fv G) (fG G) := by
  refine ⟨fun G => Classical.choose (h G), fun G => Classical.choose (Classical.choose_spec (h G)), fun G => (Classical.choose_spec (Classical.choose_spec (h G))).1, fun G => (Classical.choose_spec (Classical.choose_spec (h G))).2⟩
theorem wpf_choose' {C : Heap → Option (Value × Heap)} {Pre : Heap → Prop} {Q : Heap → Value → Heap → Prop} (h : ∀ G, Pre G → wpf (C G) (Q G)) : ∃ (fv : Heap → Value) (fG : Heap → Heap), (∀ G, Pre G → C G = some (fv G, fG G)) ∧ ∀ G, Pre G → Q G (fv G) (fG G) := by
  have h' : ∀ G, ∃ v G', Pre G → C G = some (v, G') ∧ Q G v G' := fun G => by
    by_cases hp : Pre G
    · obtain ⟨v, G', h1, h2⟩ := h G hp; exact ⟨v, G', fun _ => ⟨h1, h2⟩⟩
    · exact ⟨undef, G, fun h => absurd h hp⟩
  exact ⟨fun G => Classical.choose (h' G), fun G => Classical.choose (Classical.choose_spec (h' G)), fun G hp => (Classical.choose_spec (Classical.choose_spec (h' G)) hp).1, fun G hp => (Classical.choose_spec (Classical.choose_spec (h' G)) hp).2⟩
end Go.AM
end TextAhOwn
section TextAhEntry
/- AM: a row's arguments as abstract values; the call's world behind it. -/
namespace Go.AM
open Go.ChangeShapes Go.WideShapes Go.Deep
set_option linter.unusedVariables false
/-- Nothing of this memory may be written. -/
def AllRo (H : Heap) : Prop := ∀ b B, H.blk b = some B → B.ro = true
/-- What stands for the arguments so far. -/
structure Ent (ρ : Rho) (H : Heap) (w : World) : Prop where
  hw : Hw H
  rel : RelH ρ H w
  ro : AllRo H
def rho0 : Rho := fun _ => none
def heap0 : Heap := ⟨0, fun _ => none⟩
theorem Ent.zero {w : World} (hj : gJ w) : Ent rho0 heap0 w := ⟨fun _ _ => rfl, ⟨fun b L h => (by cases h), fun b L B h => (by cases h), fun b1 b2 L1 L2 B1 B2 h => (by cases h), hj, fun b L B h => (by cases h), fun b L B h => (by cases h)⟩, fun b B h => (by cases h)⟩
theorem Ent.low {ρ : Rho} {H : Heap} (h : AllRo H) : ∀ b L B, ρ b = some L → H.blk b = some B → B.ro = false → gN ≤ L.blk := fun b L B _ hB hro => by rw [h b B hB] at hro; cases hro
theorem rset_le0 {ρ : Rho} {b : Nat} {L : Loc} (h : ρ b = none) : RhoLe ρ (rset ρ b L) := fun k M hk => by
  unfold rset; split
  · rename_i e; subst e; rw [h] at hk; cases hk
  · exact hk
/-- A slice of the world's: a block that may not be written stands for it. -/
theorem Ent.sliceG {ρ : Rho} {H : Heap} {w : World} (h : Ent ρ H w) (a : Addr) (len cap esz : Nat) (hs : 0 < cap → a.spot = none) (hl : len ≤ cap) (U V : Nat → Value)
    (hV : ∀ j, j < cap * esz → w.cell? ⟨a.block, a.off + j, none⟩ = some (V j)) (hf : ∀ j, j < cap * esz → V1 ρ (U j) (V j)) :
    ∃ ρ' H', Ent ρ' H' w ∧ RhoLe ρ ρ' ∧ Ext H H' ∧ H.next < H'.next ∧ V3 ρ' (.slice (some ⟨H.next, 0, none⟩) len (2 * len)) (.slice (some a) len cap) ∧ (∀ j, j < len * esz → H'.cell H.next j = some (U j)) ∧ (cap * esz = 0 ∨ H'.eszIs H.next esz = true) := by
  have hnone : ρ H.next = none := h.rel.none_ge (Nat.le_refl _)
  by_cases hc : cap * esz = 0
  · -- nothing can be read
    refine ⟨rset ρ H.next ⟨a.block, a.off, 0, a.off⟩, { next := H.next + 1, blk := H.blk }, ⟨fun b hb => h.hw b (by simp at hb; omega), ⟨?_, ?_, ?_, h.rel.j, Ent.low h.ro, fun b L B hL hB => by
      unfold rset at hL; split at hL
      · subst b; rw [h.hw _ (Nat.le_refl _)] at hB; cases hB
      · exact h.rel.typ b L B hL hB⟩, h.ro⟩, rset_le0 hnone, ⟨by simp, fun b hb => rfl⟩, by simp, ?_, ?_⟩
    · intro b L hb
      unfold rset at hb; split at hb
      · subst b; simp
      · have := h.rel.dom b L hb; simp; omega
    · intro b L B hb hB
      unfold rset at hb; split at hb
      · subst b; rw [h.hw _ (Nat.le_refl _)] at hB; cases hB
      · exact (h.rel.blk b L B hb hB).imp fun c hc => hc.imp fun t ht => ht.imp fun fr hfr => ⟨hfr.1, hfr.2.1, hfr.2.2.1, hfr.2.2.2.1, fun o v hv => by
          obtain ⟨v', h1, h2⟩ := hfr.2.2.2.2 o v hv
          exact ⟨v', h1, h2.mono (rset_le0 hnone)⟩⟩
    · intro b1 b2 L1 L2 B1 B2 hb1 hb2 hB1 hB2 hro
      have := h.ro b1 B1 hB1; rw [this] at hro; cases hro
    · refine ⟨_, a.off, cap, if_pos rfl, rfl, ⟨a.spot, rfl, hs⟩, by omega, by omega, by omega, fun _ => by simp, by simp⟩
    · refine ⟨fun j hj => ?_, .inl hc⟩
      have : len * esz ≤ cap * esz := Nat.mul_le_mul_right _ hl
      omega
  · have hpos : 0 < cap * esz := Nat.pos_of_ne_zero hc
    have h0 := hV 0 hpos
    obtain ⟨c, t, fr, hb⟩ : ∃ c t fr, w.heap[a.block]? = some (.cells c t fr) := by
      unfold World.cell? at h0
      split at h0
      · rename_i c t fr hh; exact ⟨c, t, fr, hh⟩
      · cases h0
    have hcell : ∀ j, j < cap * esz → c[a.off + j]? = some (V j) := fun j hj => by
      have := hV j hj
      simpa [World.cell?, hb] using this
    have hsize : a.off + cap * esz ≤ c.size := by
      have := hcell (cap * esz - 1) (by omega)
      have := (Array.getElem?_eq_some_iff.1 this).1
      omega
    have hle := rset_le0 (L := ⟨a.block, c.size, esz, a.off⟩) hnone
    have hall : AllRo (H.add { esz := esz, ro := true, at_ := fun o => if o < cap * esz then some (U o) else none }) := by
      intro b B hB
      rw [blk_add] at hB
      split at hB
      · cases hB; rfl
      · exact h.ro b B hB
    refine ⟨rset ρ H.next ⟨a.block, c.size, esz, a.off⟩, H.add { esz := esz, ro := true, at_ := fun o => if o < cap * esz then some (U o) else none }, ⟨fun b hb => ?_, ⟨?_, ?_, ?_, h.rel.j, Ent.low hall, fun b L B hL hB => by
      unfold rset at hL; split at hL
      · rename_i e; subst e; cases hL
        rw [blk_add, if_pos rfl] at hB; cases hB
        exact TyAt.none rfl rfl fun h => by cases h
      · rename_i hne
        rw [blk_add, if_neg hne] at hB
        exact h.rel.typ b L B hL hB⟩, hall⟩, hle, (Ext.refl H).add _, by simp, ?_, ?_⟩
    · simp at hb; rw [blk_add, if_neg (by omega)]; exact h.hw b (by omega)
    · intro b L hb
      unfold rset at hb; split at hb
      · subst b; simp
      · have := h.rel.dom b L hb; simp; omega
    · intro b L B hL hB
      unfold rset at hL; split at hL
      · rename_i e; subst e; cases hL
        rw [blk_add, if_pos rfl] at hB; cases hB
        refine ⟨c, t, fr, hb, rfl, rfl, (fun h => by cases h), fun o v hv => ?_⟩
        simp only at hv
        split at hv
        · rename_i ho; cases hv
          exact ⟨_, by rw [Nat.add_comm]; exact hcell o ho, (hf o ho).mono hle⟩
        · cases hv
      · rename_i hne
        rw [blk_add, if_neg hne] at hB
        exact (h.rel.blk b L B hL hB).imp fun c hc => hc.imp fun t ht => ht.imp fun fr hfr => ⟨hfr.1, hfr.2.1, hfr.2.2.1, hfr.2.2.2.1, fun o v hv => by
          obtain ⟨v', h1, h2⟩ := hfr.2.2.2.2 o v hv
          exact ⟨v', h1, h2.mono hle⟩⟩
    · intro b1 b2 L1 L2 B1 B2 hb1 hb2 hB1 hB2 hro
      rw [blk_add] at hB1
      split at hB1
      · cases hB1; cases hro
      · have := h.ro b1 B1 hB1; rw [this] at hro; cases hro
    · refine ⟨_, a.off, cap, if_pos rfl, rfl, ⟨a.spot, rfl, hs⟩, by omega, by omega, by omega, fun _ => by simp, ?_⟩
      exact hsize
    · refine ⟨fun j hj => ?_, .inr (by simp [Heap.eszIs])⟩
      have : len * esz ≤ cap * esz := Nat.mul_le_mul_right _ hl
      rw [cell_add, if_pos rfl]
      simp only
      rw [if_pos (by omega)]
theorem Ent.slice {ρ : Rho} {H : Heap} {w : World} (h : Ent ρ H w) (a : Addr) (hs : a.spot = none) (len cap esz : Nat) (hl : len ≤ cap) (V : Nat → Value)
    (hV : ∀ j, j < cap * esz → w.cell? ⟨a.block, a.off + j, none⟩ = some (V j)) (hf : ∀ j, j < cap * esz → flat1 (V j) = true) :
    ∃ ρ' H', Ent ρ' H' w ∧ RhoLe ρ ρ' ∧ Ext H H' ∧ H.next < H'.next ∧ V3 ρ' (.slice (some ⟨H.next, 0, none⟩) len (2 * len)) (.slice (some a) len cap) ∧ (∀ j, j < len * esz → H'.cell H.next j = some (V j)) ∧ (cap * esz = 0 ∨ H'.eszIs H.next esz = true) :=
  h.sliceG a len cap esz (fun _ => hs) hl V V hV fun j hj => V1.of_flat (hf j hj)
/-- What is read at type e is enc of something: flat cells. -/
structure Shp (P : Program) (e : TypeId) {α : Type} (enc : α → List Value) (sz : Nat) : Prop where
  cells : P.cellsOf e = sz
  len : ∀ x, (enc x).length = sz
  flat : ∀ x, (enc x).all flat1 = true
  shp : ∀ {H : Type} {en : TypeId × Value → H} {w : World} {base : Nat} {sp : Nat → Bool} {held : Bool} {fuel : Nat} {cs : List Value} {y : DataW H × List MemPlace}, DataW.trod en P w base sp held fuel e cs = some y → ∃ x, cs = enc x
theorem Ent.rows {P : Program} {e t : TypeId} {α : Type} [Inhabited α] {enc : α → List Value} {sz : Nat} (S : Shp P e enc sz) (ht : P.underlying t = some (.slice e)) {r : Reach} {base b0 : Nat} {held : Bool} {v : Value} {H : Type} {en : TypeId × Value → H} {d : DataW H} {p : List MemPlace} {w : World}
    (hval : Value.okWide P w r b0 t v) (hd : DataW.Trod en P w base (fun _ => true) held t v d p) {ρ : Rho} {A : Heap} (h : Ent ρ A w) :
    ∃ ρ' A' v' xs, Ent ρ' A' w ∧ RhoLe ρ ρ' ∧ Ext A A' ∧ V3 ρ' v' v ∧ Rows enc sz A' v' xs := by
  obtain ⟨a0, l0, c0, rfl⟩ := okWide_slice ht hval
  obtain ⟨fuel, hf⟩ := hd
  rcases open_slice ht hf with ⟨e0, _⟩ | ⟨a, len, cap, m, n, D, Pl, e0, hb, hl, hm, hmm, _, hx⟩
  · have e1 : (Value.slice a0 l0 c0) = .slice none 0 0 := by simpa [Value.cells] using e0
    cases e1
    exact ⟨ρ, A, .slice none 0 0, [], h, RhoLe.refl _, Ext.refl _, V3.of_flat rfl, Rows.nil⟩
  · have e1 : (Value.slice a0 l0 c0) = .slice (some a) len cap := by simpa [Value.cells] using e0
    obtain ⟨rfl, rfl, rfl⟩ := Value.slice.inj e1
    simp only [if_true] at hmm
    subst hmm
    have hs : a.spot = none := by
      simp only [Value.okWide, ht, Cell.okWide, Cell.ok] at hval
      exact hval.2.2.2.1
    rw [S.cells] at hx
    obtain ⟨X, hX⟩ := choose_lt (α := α) (p := fun i x => ∀ j, j < sz → w.cell? ⟨a.block, a.off + (i * sz + j), none⟩ = (enc x)[j]?) (fun i hi => by
      obtain ⟨cs', h1, h2⟩ := hx i hi
      obtain ⟨x, rfl⟩ := S.shp h2
      obtain ⟨_, _, hg⟩ := World.cells?_some h1
      refine ⟨x, fun j hj => ?_⟩
      rw [← hg j hj]
      have : (a.add (i * sz)).add j = ⟨a.block, a.off + (i * sz + j), none⟩ := by
        cases a; simp only at hs; subst hs; by_cases q1 : j = 0 <;> by_cases q2 : i * sz = 0 <;> simp [Addr.add, q1, q2, Nat.add_assoc]
      rw [this])
    have hV : ∀ j, j < m * sz → w.cell? ⟨a.block, a.off + j, none⟩ = some (((enc (X (j / sz)))[j % sz]?).getD undef) ∧ flat1 (((enc (X (j / sz)))[j % sz]?).getD undef) = true := fun j hj => by
      have hz : 0 < sz := by
        rcases Nat.eq_zero_or_pos sz with h | h
        · subst h; simp at hj
        · exact h
      have hq : j / sz < m := by rw [Nat.div_lt_iff_lt_mul hz]; exact hj
      have hmod : j % sz < sz := Nat.mod_lt _ hz
      have e : j / sz * sz + j % sz = j := by rw [Nat.mul_comm]; exact Nat.div_add_mod j sz
      have h1 := hX _ hq _ hmod
      rw [e] at h1
      have hlen := S.len (X (j / sz))
      have hg : (enc (X (j / sz)))[j % sz]? = some ((enc (X (j / sz)))[j % sz]'(by omega)) := List.getElem?_eq_getElem _
      rw [hg] at h1 ⊢
      refine ⟨h1, ?_⟩
      exact List.all_eq_true.1 (S.flat (X (j / sz))) _ (List.getElem_mem _)
    obtain ⟨ρ', A', g1, g2, g3, g4, g5, g6, g7⟩ := h.slice a hs l0 m sz hl (fun j => ((enc (X (j / sz)))[j % sz]?).getD undef) (fun j hj => (hV j hj).1) (fun j hj => (hV j hj).2)
    have hml : maxLen = 9223372036854775807 := by decide
    have hlim : ((List.range l0).map X).length ≤ 9223372036854775807 := by simp; omega
    refine ⟨ρ', A', _, (List.range l0).map X, g1, g2, g3, g5, ⟨hlim, some ⟨A.next, 0, none⟩, 2 * l0, by simp, .inr ⟨A.next, 0, rfl, g4, by simp, fun i hi j hj => ?_⟩⟩⟩
    simp at hi
    have hlt : i * sz + j < l0 * sz := by
      have : (i + 1) * sz ≤ l0 * sz := Nat.mul_le_mul_right _ hi
      rw [Nat.succ_mul] at this; omega
    rw [Nat.zero_add, g6 _ hlt]
    have hz : 0 < sz := by omega
    have hdiv : (i * sz + j) / sz = i := by rw [Nat.mul_comm, Nat.mul_add_div hz, Nat.div_eq_of_lt hj]; rfl
    have hmod : (i * sz + j) % sz = j := by rw [Nat.mul_comm, Nat.mul_add_mod, Nat.mod_eq_of_lt hj]
    rw [hdiv, hmod]
    have hlen := S.len (X i)
    have hg : (enc (X i))[j]? = some ((enc (X i))[j]'(by omega)) := List.getElem?_eq_getElem _
    simp [hg]
theorem Ent.rows2 {P : Program} {e t : TypeId} {α : Type} [Inhabited α] {enc : α → List Value} {sz : Nat} (S : Shp P e enc sz) (ht : P.underlying t = some (.slice e)) {r : Reach} {base b0 : Nat} {held : Bool} {v : Value} {H : Type} {en : TypeId × Value → H} {d : DataW H} {p : List MemPlace} {w : World}
    (hval : Value.okWide P w r b0 t v) (hd : DataW.Trod en P w base (fun _ => true) held t v d p) (hwt : (d.weights P t).all (· ≤ reachBytes) = true) (hsz0 : 0 < sz) {ρ : Rho} {A : Heap} (h : Ent ρ A w) :
    ∃ ρ' A' v' xs, Ent ρ' A' w ∧ RhoLe ρ ρ' ∧ Ext A A' ∧ V3 ρ' v' v ∧ Rows enc sz A' v' xs ∧ (∀ b o n c, v' = .slice (some ⟨b, o, none⟩) n c → n = 0 ∨ A'.eszIs b sz = true) ∧ xs.length * P.bytesOf e ≤ reachBytes := by
  obtain ⟨a0, l0, c0, rfl⟩ := okWide_slice ht hval
  obtain ⟨fuel, hf⟩ := hd
  rcases open_slice ht hf with ⟨e0, _⟩ | ⟨a, len, cap, m, n, D, Pl, e0, hb, hl, hm, hmm, hdd, hx⟩
  · have e1 : (Value.slice a0 l0 c0) = .slice none 0 0 := by simpa [Value.cells] using e0
    cases e1
    exact ⟨ρ, A, .slice none 0 0, [], h, RhoLe.refl _, Ext.refl _, V3.of_flat rfl, Rows.nil, (fun b o n c h => by cases h), by simp⟩
  · have e1 : (Value.slice a0 l0 c0) = .slice (some a) len cap := by simpa [Value.cells] using e0
    obtain ⟨rfl, rfl, rfl⟩ := Value.slice.inj e1
    simp only [if_true] at hmm
    subst hmm
    have hs : a.spot = none := by
      simp only [Value.okWide, ht, Cell.okWide, Cell.ok] at hval
      exact hval.2.2.2.1
    rw [S.cells] at hx
    obtain ⟨X, hX⟩ := choose_lt (α := α) (p := fun i x => ∀ j, j < sz → w.cell? ⟨a.block, a.off + (i * sz + j), none⟩ = (enc x)[j]?) (fun i hi => by
      obtain ⟨cs', h1, h2⟩ := hx i hi
      obtain ⟨x, rfl⟩ := S.shp h2
      obtain ⟨_, _, hg⟩ := World.cells?_some h1
      refine ⟨x, fun j hj => ?_⟩
      rw [← hg j hj]
      have : (a.add (i * sz)).add j = ⟨a.block, a.off + (i * sz + j), none⟩ := by
        cases a; simp only at hs; subst hs; by_cases q1 : j = 0 <;> by_cases q2 : i * sz = 0 <;> simp [Addr.add, q1, q2, Nat.add_assoc]
      rw [this])
    have hV : ∀ j, j < m * sz → w.cell? ⟨a.block, a.off + j, none⟩ = some (((enc (X (j / sz)))[j % sz]?).getD undef) ∧ flat1 (((enc (X (j / sz)))[j % sz]?).getD undef) = true := fun j hj => by
      have hz : 0 < sz := by
        rcases Nat.eq_zero_or_pos sz with h | h
        · subst h; simp at hj
        · exact h
      have hq : j / sz < m := by rw [Nat.div_lt_iff_lt_mul hz]; exact hj
      have hmod : j % sz < sz := Nat.mod_lt _ hz
      have e : j / sz * sz + j % sz = j := by rw [Nat.mul_comm]; exact Nat.div_add_mod j sz
      have h1 := hX _ hq _ hmod
      rw [e] at h1
      have hlen := S.len (X (j / sz))
      have hg : (enc (X (j / sz)))[j % sz]? = some ((enc (X (j / sz)))[j % sz]'(by omega)) := List.getElem?_eq_getElem _
      rw [hg] at h1 ⊢
      refine ⟨h1, ?_⟩
      exact List.all_eq_true.1 (S.flat (X (j / sz))) _ (List.getElem_mem _)
    obtain ⟨ρ', A', g1, g2, g3, g4, g5, g6, g7⟩ := h.slice a hs l0 m sz hl (fun j => ((enc (X (j / sz)))[j % sz]?).getD undef) (fun j hj => (hV j hj).1) (fun j hj => (hV j hj).2)
    have hml : maxLen = 9223372036854775807 := by decide
    have hlim : ((List.range l0).map X).length ≤ 9223372036854775807 := by simp; omega
    refine ⟨ρ', A', _, (List.range l0).map X, g1, g2, g3, g5, ?_, ?_, ?_⟩
    rotate_left
    · intro b o n c h
      cases h
      refine g7.imp (fun h => ?_) id
      rcases Nat.mul_eq_zero.1 h with h | h
      · omega
      · omega
    · have e1 := congrArg Prod.fst hdd
      simp only at e1
      rw [e1] at hwt
      simp only [DataW.weights, ht, List.all_cons, Bool.and_eq_true, decide_eq_true_eq] at hwt
      refine Nat.le_trans (Nat.mul_le_mul_right _ ?_) hwt.1
      simp
    refine ⟨hlim, some ⟨A.next, 0, none⟩, 2 * l0, by simp, .inr ⟨A.next, 0, rfl, g4, by simp, fun i hi j hj => ?_⟩⟩
    simp at hi
    have hlt : i * sz + j < l0 * sz := by
      have : (i + 1) * sz ≤ l0 * sz := Nat.mul_le_mul_right _ hi
      rw [Nat.succ_mul] at this; omega
    rw [Nat.zero_add, g6 _ hlt]
    have hz : 0 < sz := by omega
    have hdiv : (i * sz + j) / sz = i := by rw [Nat.mul_comm, Nat.mul_add_div hz, Nat.div_eq_of_lt hj]; rfl
    have hmod : (i * sz + j) % sz = j := by rw [Nat.mul_comm, Nat.mul_add_mod, Nat.mod_eq_of_lt hj]
    rw [hdiv, hmod]
    have hlen := S.len (X i)
    have hg : (enc (X i))[j]? = some ((enc (X i))[j]'(by omega)) := List.getElem?_eq_getElem _
    simp [hg]
/-- A struct whose fields are one cell each. -/
theorem struct_cells {P : Program} {t : TypeId} {fs : Array Field} (ht : P.underlying t = some (.struct fs)) (hf : ∀ (i : Nat) (f : Field), fs[i]? = some f → f.offset = i ∧ P.cellsOf f.type = 1) (hn : P.cellsOf t = fs.size)
    {H : Type} {en : TypeId × Value → H} {w : World} {base : Nat} {sp : Nat → Bool} {held : Bool} {fuel : Nat} {cs : List Value} {y : DataW H × List MemPlace} (h : DataW.trod en P w base sp held fuel t cs = some y) :
    cs.length = fs.size ∧ ∀ (i : Nat) (f : Field), fs[i]? = some f → ∃ v n y', cs[i]? = some v ∧ DataW.trod en P w base sp held n f.type [v] = some y' := by
  obtain ⟨xs, n, _, rfl, hl, hlen, hx⟩ := DataW.trod_struct ht h
  refine ⟨hl.trans hn, fun i f hi => ?_⟩
  obtain ⟨ho, hc⟩ := hf i f hi
  have hlt := (Array.getElem?_eq_some_iff.1 hi).1
  have h1 := hx i f hi
  rw [ho, hc] at h1
  have hci : i < cs.length := by rw [hl, hn]; exact hlt
  have e : (cs.drop i).take 1 = [cs[i]] := by rw [List.drop_eq_getElem_cons hci]; rfl
  rw [e, List.getElem?_eq_getElem (by omega)] at h1
  exact ⟨cs[i], n, _, List.getElem?_eq_getElem hci, h1⟩
theorem Shp.text {P : Program} {e : TypeId} (ht : P.underlying e = some .string) (hc : P.cellsOf e = 1) : Shp P e (fun s : ByteArray => [Value.string s]) 1 :=
  ⟨hc, fun _ => rfl, fun _ => rfl, fun h => by obtain ⟨s, rfl, _⟩ := DataW.trod_string ht h; exact ⟨s, rfl⟩⟩
/-! ### arguments behind the call: they read as they did -/
open Go.RowKit in
def rowed (P : Program) (ts : List TypeId) : Bool := ts.all fun t => P.readableRec t && decide (t < P.types.size)

section
open Go.RowKit Go.WideElems
variable {H : Type} {enc : TypeId × Value → H} {P : Program}

theorem args_stay (hl : laidOutB P = true) {W W' : World} (hb : Below W.heap.size W W') : ∀ {ts : List TypeId} {vs : List Value} {ds : List (DataW H)} {ps : List MemPlace}, rowed P ts = true →
    DataW.TrodAll enc P W 0 (fun _ => true) true ts vs ds ps → DataW.TrodAll enc P W' 0 (fun b => decide (b < W.heap.size)) true ts vs ds ps
  | [], [], [], _, _, h => h
  | [], [], _ :: _, _, _, h => h.elim
  | [], _ :: _, [], _, _, h => h.elim
  | [], _ :: _, _ :: _, _, _, h => h.elim
  | _ :: _, [], [], _, _, h => h.elim
  | _ :: _, [], _ :: _, _, _, h => h.elim
  | t :: ts, v :: vs, [], _, _, h => h.elim
  | t :: ts, v :: vs, d :: ds, ps, hr, h => by
    have hlt := h.lt
    obtain ⟨p, q, h1, h2, e⟩ := h
    simp only [rowed, List.all_cons, Bool.and_eq_true, decide_eq_true_eq] at hr
    have hp : ∀ x ∈ p, x.block < W.heap.size := fun x hx => hlt x (by rw [e]; simp [hx])
    exact ⟨p, q, Trod_stays hl hr.1.1 hr.1.2 h1 (fun x hx => hb.same (hp x hx)) (fun x hx => by simpa using hp x hx), args_stay hl hb hr.2 h2, e⟩

end

/-- The call of a law: true, and nothing below the old memory's end has turned. -/
theorem law_calls {K : Cfg} (hK : KOk K) {f : FuncId} {args args' : List Value} {ρ : Rho} {A A' : Heap} {w : World} (h : Ent ρ A w) (ha : All2 (V3 ρ) args args') (hc : call K f args A = some (.bool true, A')) (hab : Callable K.P f) :
    Calls K.P f args'.toArray w fun e w' => e = .returned (.bool true) ∧ Go.RowKit.Below w.heap.size w w' := by
  refine (call_sound hK hc h.hw h.rel ha hab).mono fun e w' he => ?_
  obtain ⟨v', ρ', rfl, hv, hadv⟩ := he
  obtain ⟨_, rfl⟩ := hv
  refine ⟨rfl, hadv.os, hadv.tape, hadv.output, hadv.size, fun cb hcb => hadv.keep cb hcb fun b L B hL hB hro => ?_⟩
  have := h.ro b B hB; rw [this] at hro; cases hro
theorem V3.bool' {ρ : Rho} (b : Bool) : V3 ρ (.bool b) (.bool b) := V3.of_flat rfl
theorem V3.int' {ρ : Rho} (k : IntKind) (n : Int) : V3 ρ (.int k n) (.int k n) := V3.of_flat rfl
theorem V3.string' {ρ : Rho} (s : ByteArray) : V3 ρ (.string s) (.string s) := V3.of_flat rfl
end Go.AM
end TextAhEntry
section TextAhEntry2
/- AM: arguments that are structs with slices in them. -/
namespace Go.AM
open Go.ChangeShapes Go.WideShapes Go.Deep
set_option linter.unusedVariables false
theorem spot_of {P : Program} {u e : TypeId} (hu : P.underlying u = some (.slice e)) {w : World} {r : Reach} {base : Nat} {a : Addr} {l c : Nat} (h : Cell.okWide P w r base u (.slice (some a) l c)) : a.spot = none := by
  simp only [Cell.okWide, hu, Cell.ok] at h
  exact h.2.2.2.1
theorem Ent.rowsC {P : Program} {e t : TypeId} {α : Type} [Inhabited α] {enc : α → List Value} {sz : Nat} (S : Shp P e enc sz) (ht : P.underlying t = some (.slice e)) {r : Reach} {base b0 : Nat} {held : Bool} {v : Value} {H : Type} {en : TypeId × Value → H} {y : DataW H × List MemPlace} {fuel : Nat} {w : World}
    (hval : Cell.okWide P w r b0 t v) (hf : DataW.trod en P w base (fun _ => true) held fuel t [v] = some y) (hwt : (y.1.weights P t).all (· ≤ reachBytes) = true) (hsz0 : 0 < sz) {ρ : Rho} {A : Heap} (h : Ent ρ A w) :
    ∃ ρ' A' v' xs, Ent ρ' A' w ∧ RhoLe ρ ρ' ∧ Ext A A' ∧ V1 ρ' v' v ∧ Rows enc sz A' v' xs ∧ (∀ b o n c, v' = .slice (some ⟨b, o, none⟩) n c → n = 0 ∨ A'.eszIs b sz = true) ∧ xs.length * P.bytesOf e ≤ reachBytes := by
  rcases open_slice ht hf with ⟨e0, _⟩ | ⟨a, len, cap, m, n, D, Pl, e0, hb, hl, hm, hmm, hdd, hx⟩
  · obtain rfl : v = .slice none 0 0 := by simpa using e0
    exact ⟨ρ, A, .slice none 0 0, [], h, RhoLe.refl _, Ext.refl _, V1.of_flat rfl, Rows.nil, (fun b o n c h => by cases h), by simp⟩
  · obtain rfl : v = .slice (some a) len cap := by simpa using e0
    simp only [if_true] at hmm
    subst hmm
    have hs : a.spot = none := spot_of ht hval
    rw [S.cells] at hx
    obtain ⟨X, hX⟩ := choose_lt (α := α) (p := fun i x => ∀ j, j < sz → w.cell? ⟨a.block, a.off + (i * sz + j), none⟩ = (enc x)[j]?) (fun i hi => by
      obtain ⟨cs', h1, h2⟩ := hx i hi
      obtain ⟨x, rfl⟩ := S.shp h2
      obtain ⟨_, _, hg⟩ := World.cells?_some h1
      refine ⟨x, fun j hj => ?_⟩
      rw [← hg j hj]
      have : (a.add (i * sz)).add j = ⟨a.block, a.off + (i * sz + j), none⟩ := by
        cases a; simp only at hs; subst hs; by_cases q1 : j = 0 <;> by_cases q2 : i * sz = 0 <;> simp [Addr.add, q1, q2, Nat.add_assoc]
      rw [this])
    have hV : ∀ j, j < m * sz → w.cell? ⟨a.block, a.off + j, none⟩ = some (((enc (X (j / sz)))[j % sz]?).getD undef) ∧ flat1 (((enc (X (j / sz)))[j % sz]?).getD undef) = true := fun j hj => by
      have hz : 0 < sz := hsz0
      have hq : j / sz < m := by rw [Nat.div_lt_iff_lt_mul hz]; exact hj
      have hmod : j % sz < sz := Nat.mod_lt _ hz
      have e : j / sz * sz + j % sz = j := by rw [Nat.mul_comm]; exact Nat.div_add_mod j sz
      have h1 := hX _ hq _ hmod
      rw [e] at h1
      have hlen := S.len (X (j / sz))
      have hg : (enc (X (j / sz)))[j % sz]? = some ((enc (X (j / sz)))[j % sz]'(by omega)) := List.getElem?_eq_getElem _
      rw [hg] at h1 ⊢
      refine ⟨h1, ?_⟩
      exact List.all_eq_true.1 (S.flat (X (j / sz))) _ (List.getElem_mem _)
    obtain ⟨ρ', A', g1, g2, g3, g4, g5, g6, g7⟩ := h.slice a hs len m sz hl (fun j => ((enc (X (j / sz)))[j % sz]?).getD undef) (fun j hj => (hV j hj).1) (fun j hj => (hV j hj).2)
    have hml : maxLen = 9223372036854775807 := by decide
    have hlim : ((List.range len).map X).length ≤ 9223372036854775807 := by simp; omega
    refine ⟨ρ', A', .slice (some ⟨A.next, 0, none⟩) len (2 * len), (List.range len).map X, g1, g2, g3, g5, ?_, ?_, ?_⟩
    rotate_left
    · intro b o n c h
      cases h
      refine g7.imp (fun h => ?_) id
      rcases Nat.mul_eq_zero.1 h with h | h
      · omega
      · omega
    · rw [hdd] at hwt
      simp only [DataW.weights, ht, List.all_cons, Bool.and_eq_true, decide_eq_true_eq] at hwt
      refine Nat.le_trans (Nat.mul_le_mul_right _ ?_) hwt.1
      simp
    refine ⟨hlim, some ⟨A.next, 0, none⟩, 2 * len, by simp, .inr ⟨A.next, 0, rfl, g4, by simp, fun i hi j hj => ?_⟩⟩
    simp at hi
    have hlt : i * sz + j < len * sz := by
      have : (i + 1) * sz ≤ len * sz := Nat.mul_le_mul_right _ hi
      rw [Nat.succ_mul] at this; omega
    rw [Nat.zero_add, g6 _ hlt]
    have hz : 0 < sz := by omega
    have hdiv : (i * sz + j) / sz = i := by rw [Nat.mul_comm, Nat.mul_add_div hz, Nat.div_eq_of_lt hj]; rfl
    have hmod : (i * sz + j) % sz = j := by rw [Nat.mul_comm, Nat.mul_add_mod, Nat.mod_eq_of_lt hj]
    rw [hdiv, hmod]
    have hlen := S.len (X i)
    have hg : (enc (X i))[j]? = some ((enc (X i))[j]'(by omega)) := List.getElem?_eq_getElem _
    simp [hg]
/-- A struct, opened field by field: its cells, what each field's cells read as, that each cell may be. -/
theorem open_struct {P : Program} {t : TypeId} {fs : Array Field} {ts : List TypeId} (ht : P.underlying t = some (.struct fs)) (hts : P.cellTypes P.depth t = some ts) (hn : ts.length = P.cellsOf t) {w : World} {r : Reach} {b0 base : Nat} {sp : Nat → Bool} {held : Bool} {v : Value} {H : Type} {en : TypeId × Value → H} {d : DataW H} {p : List MemPlace}
    (hv : Value.okWide P w r b0 t v) (h : DataW.Trod en P w base sp held t v d p) (hw : (d.weights P t).all (· ≤ reachBytes) = true) :
    ∃ (cs : Array Value) (xs : List (DataW H × List MemPlace)) (n : Nat), v = .agg cs ∧ cs.size = P.cellsOf t ∧ (∀ (i : Nat) (x : Value), cs[i]? = some x → ∃ u, ts[i]? = some u ∧ Cell.okWide P w r b0 u x) ∧ xs.length = fs.size ∧
      (∀ (i : Nat) (f : Field), fs[i]? = some f → ∃ y, xs[i]? = some y ∧ DataW.trod en P w base sp held n f.type ((cs.toList.drop f.offset).take (P.cellsOf f.type)) = some y ∧ (y.1.weights P f.type).all (· ≤ reachBytes) = true) := by
  have hv' : ∃ cs, v = .agg cs ∧ cs.size = P.cellsOf t ∧ Row.okWide P w r b0 t cs := by
    simp only [Value.okWide, ht] at hv; exact hv
  obtain ⟨cs, rfl, hsz, ts', hts', _, hc⟩ := hv'
  rw [hts] at hts'
  cases hts'
  obtain ⟨fuel, hf⟩ := h
  obtain ⟨xs, n, _, hx, hl, hlen, hfs⟩ := DataW.trod_struct ht hf
  refine ⟨cs, xs, n, rfl, hsz, fun i x hi => ?_, hlen, fun i f hi => ?_⟩
  · obtain ⟨u, hu, ho⟩ := hc i x hi
    have : i < cs.size := (Array.getElem?_eq_some_iff.1 hi).1
    rw [Nat.mod_eq_of_lt (by omega)] at hu
    exact ⟨u, hu, ho⟩
  · have hlt : i < fs.size := (Array.getElem?_eq_some_iff.1 hi).1
    refine ⟨xs[i]'(by omega), List.getElem?_eq_getElem _, by rw [← List.getElem?_eq_getElem]; exact hfs i f hi, ?_⟩
    have hd : d = .agg (xs.map (·.1)) := by have := congrArg Prod.fst hx; simpa using this
    rw [hd] at hw
    simp only [DataW.weights, ht] at hw
    rw [List.all_eq_true] at hw ⊢
    exact fun m hm => hw m (DataW.weights_mem_each (j := i) (t := f.type) (d := xs[i].1) (by simp [hi]) (by simp [List.getElem?_eq_getElem (show i < xs.length by omega)]) m hm)
end Go.AM
end TextAhEntry2
section TextAhRoom
/- AG: stores where there is room; appends of made zeros; copies. -/
namespace Go.AM
set_option linter.unusedVariables false
set_option linter.unusedSimpArgs false
section
variable {P : Program} {C : CallF} {e : Env} {H : Heap}
def appZE (esz bytes : Nat) (z : List Value) (x y : Value) (H : Heap) : Option (Value × Heap) := match natOf y with | some k => if k * bytes ≤ 2 ^ 46 ∧ k ≤ 2 ^ 46 then appV H esz bytes k x (rep z k) else none | none => none
@[simp] theorem appZE_nat (esz bytes k : Nat) (z : List Value) (x : Value) (q : IntKind) : appZE esz bytes z x (.int q (k : Int)) H = if k * bytes ≤ 2 ^ 46 ∧ k ≤ 2 ^ 46 then appV H esz bytes k x (rep z k) else none := by simp [appZE]
@[simp] theorem step_appZ (esz bytes : Nat) (z : List Value) (x y : Arg) : step P C (.appZ esz bytes z x y) e H = appZE esz bytes z (ev e x) (ev e y) H := rfl
@[simp] theorem step_newT (t : TypeId) (z : List Value) : step P C (.newT t z) e H = some (ptr H.next 0, H.add { rowBlk z.length z with ty := some (t, true) }) := rfl
def capO (v : Value) : Option Value := match v with | .slice a _ c => if a = none then some (.int .i64 0) else if c % 2 = 1 then some (.int .i64 ((c / 2 : Nat) : Int)) else none | _ => none
@[simp] theorem capO_odd (a : Addr) (n c : Nat) : capO (.slice (some a) n (2 * c + 1)) = some (.int .i64 (c : Int)) := by
  have h1 : (2 * c + 1) % 2 = 1 := by omega
  have h2 : (2 * c + 1) / 2 = c := by omega
  simp [capO, h1, h2]
@[simp] theorem step_capV (x : Arg) : step P C (.capV x) e H = oV (capO (ev e x)) H := by
  simp only [step, oV, capO]
  generalize ev e x = v0
  repeat' split
  all_goals first | rfl | (simp_all; done)
def clrV (z : List Value) (v : Value) (H : Heap) : Option (Value × Heap) := match v with
  | .slice none _ _ => some (undef, H)
  | .slice (some ⟨b, o, none⟩) n _ => (match H.store b o (rep z n) with | some H' => some (undef, H') | none => none)
  | _ => none
@[simp] theorem step_clr (z : List Value) (x : Arg) : step P C (.clr z x) e H = clrV z (ev e x) H := rfl
def copyN (k : Nat) (r : Option Heap) : Option (Value × Heap) := match r with | some H' => some (.int .i64 (k : Int), H') | none => none
@[simp] theorem copyN_some (k : Nat) (H' : Heap) : copyN k (some H') = some (.int .i64 (k : Int), H') := rfl
def copyO (b o k : Nat) (r : Option (List Value)) (H : Heap) : Option (Value × Heap) := match r with | some ys => copyN k (H.storeR b o ys) | none => none
@[simp] theorem copyO_some (b o k : Nat) (ys : List Value) : copyO b o k (some ys) H = copyN k (H.storeR b o ys) := rfl
def copyV (esz : Nat) (x y : Value) (H : Heap) : Option (Value × Heap) := match x, strLen y with
  | .slice (some ⟨b, o, none⟩) n _, some k => copyO b o (Nat.min k n) (elems H esz (Nat.min k n) y) H
  | .slice none 0 0, some k => some (.int .i64 0, H)
  | _, _ => none
@[simp] theorem copyV_slice (esz b o n c m c' : Nat) (p : Option Addr) : copyV esz (.slice (some ⟨b, o, none⟩) n c) (.slice p m c') H = copyO b o (Nat.min m n) (elems H esz (Nat.min m n) (.slice p m c')) H := rfl
theorem step_copyV (esz : Nat) (x y : Arg) : step P C (.copy esz x y) e H = copyV esz (ev e x) (ev e y) H := by
  rw [step_copy]
  unfold copyV copyO copyN
  rfl
end
theorem set_same {H : Heap} {b : Nat} {B : Blk} (h : H.blk b = some B) : H.set b (some B) = H := by
  unfold Heap.set
  cases H with
  | mk n f =>
    congr 1
    funext k
    by_cases e : k = b
    · subst e; simpa using h.symm
    · simp [e]
theorem storeR_room {H : Heap} {b o r : Nat} {B : Blk} {vs : List Value} (hB : H.blk b = some B) (hro : B.ro = false) (hr : B.room = some r) (hf : o + vs.length ≤ r) (h1 : vs.all Value.oneCell' = true) : H.storeR b o vs = some (H.set b (some (B.puts o vs))) := by
  unfold Heap.storeR
  cases hs : H.store b o vs with
  | none => simp only [hB, hr]; rw [if_pos ⟨hro, hf, h1⟩]
  | some H1 =>
    simp only
    cases vs with
    | nil => simp only [Heap.store] at hs; cases hs; rw [puts_nil, set_same hB]
    | cons v vs =>
      simp only [Heap.store, hB] at hs
      split at hs <;> cases hs
      rfl
theorem storeR_row {H : Heap} {b o : Nat} {B : Blk} {vs : List Value} (hB : H.blk b = some B) (hro : B.ro = false) (hr : (H.row b o vs.length).isSome = true) (h1 : vs.all Value.oneCell' = true) : H.storeR b o vs = some (H.set b (some (B.puts o vs))) := by
  unfold Heap.storeR
  cases vs with
  | nil => simp only [Heap.store, puts_nil]; rw [set_same hB]
  | cons v vs => simp only [Heap.store, hB]; rw [if_pos ⟨hro, hr, h1⟩]
theorem appV_room {H H' : Heap} {esz bytes k b o n c : Nat} {ys : List Value} (hk : k ≠ 0) (hn : n + k ≤ c / 2) (hst : H.storeR b (o + n * esz) ys = some H') : appV H esz bytes k (.slice (some ⟨b, o, none⟩) n c) ys = some (.slice (some ⟨b, o, none⟩) (n + k) c, H') := by
  unfold appV
  rw [if_neg hk]
  simp only
  rw [if_pos hn, hst]
theorem appV_odd {H : Heap} {esz bytes k b o n c : Nat} {xs ys : List Value} (hk : k ≠ 0) (hn : c / 2 < n + k) (ho : c % 2 = 1) (h1 : (n + k) * bytes ≤ 2 ^ 47) (h2 : n + k ≤ 2 ^ 47) (h3 : ys.all Value.oneCell' = true) (hr : H.row b o (n * esz) = some xs) :
    appV H esz bytes k (.slice (some ⟨b, o, none⟩) n c) ys = some (.slice (some ⟨H.next, 0, none⟩) (n + k) (2 * (n + k)), H.add (rowBlk esz (xs ++ ys))) := by
  unfold appV
  rw [if_neg hk]
  simp only
  rw [if_neg (by omega), if_pos ⟨h1, h2, h3⟩, hr]
  simp only
  rw [if_pos ho]
theorem add_set_new {H : Heap} {X : Blk} {f : Option Blk} {n : Nat} (hn : n = H.next) : (H.add X).set n f = { next := H.next + 1, blk := fun k => if k = H.next then f else H.blk k } := by
  subst hn
  unfold Heap.add Heap.set
  congr 1
  funext k
  by_cases e : k = H.next <;> simp [e]
theorem add_set_some {H : Heap} {X Y : Blk} {n : Nat} (hn : n = H.next) : (H.add X).set n (some Y) = H.add Y := by rw [add_set_new hn]; rfl
theorem puts_at : ∀ (vs : List Value) (o : Nat) (B : Blk) (j : Nat), (B.puts o vs).at_ j = if o ≤ j ∧ j < o + vs.length then vs[j - o]? else B.at_ j
  | [], o, B, j => by simp; intro h1 h2; omega
  | v :: vs, o, B, j => by
    rw [puts_cons, puts_at vs (o + 1) (B.put o v) j, at_put]
    by_cases h : j = o
    · subst h
      rw [if_neg (by omega), if_pos rfl, if_pos ⟨Nat.le_refl _, by simp⟩]; simp
    · by_cases h2 : o + 1 ≤ j ∧ j < o + 1 + vs.length
      · rw [if_pos h2, if_pos ⟨by omega, by simp; omega⟩, show j - o = (j - (o + 1)) + 1 by omega, List.getElem?_cons_succ]
      · rw [if_neg h2, if_neg h, if_neg (by simp; omega)]
theorem rep_len (z : List Value) : ∀ n, (rep z n).length = n * z.length
  | 0 => by simp [rep]
  | n + 1 => by rw [rep, List.length_append, rep_len z n, Nat.succ_mul]; omega
theorem row_some_of {H : Heap} {b : Nat} (n o : Nat) (h : ∀ j, j < n → (H.cell b (o + j)).isSome = true) : (H.row b o n).isSome = true := by
  have : ∃ vs : List Value, vs.length = n ∧ ∀ j, j < n → H.cell b (o + j) = vs[j]? := by
    refine ⟨(List.range n).map fun j => (H.cell b (o + j)).getD undef, by simp, fun j hj => ?_⟩
    rw [List.getElem?_map, List.getElem?_range hj]
    obtain ⟨v, hv⟩ := Option.isSome_iff_exists.1 (h j hj)
    simp [hv]
  obtain ⟨vs, h1, h2⟩ := this
  rw [row_of (vs := vs) n o h1 h2]; rfl
theorem row_cell {H : Heap} {b o n : Nat} {xs : List Value} (h : H.row b o n = some xs) : xs.length = n ∧ ∀ j, j < n → H.cell b (o + j) = xs[j]? :=
  ⟨row_length _ _ h, fun j hj => by
    have := row_get _ _ h j hj
    exact this⟩
theorem row_sub {H : Heap} {b o n : Nat} {xs : List Value} (h : H.row b o n = some xs) (a m : Nat) (hm : a + m ≤ n) : H.row b (o + a) m = some ((xs.drop a).take m) := by
  obtain ⟨h1, h2⟩ := row_cell h
  refine row_of _ _ (by rw [List.length_take, List.length_drop]; omega) fun j hj => ?_
  rw [List.getElem?_take, if_pos hj, List.getElem?_drop, Nat.add_assoc, h2 (a + j) (by omega)]
end Go.AM
end TextAhRoom
section TextAhIns
/- AG: a slice whose memory may have moved: one new block for the old one, whichever way it went. -/
namespace Go.AM
set_option linter.unusedVariables false
set_option linter.unusedSimpArgs false
theorem set_blk {H : Heap} {b k : Nat} {f : Option Blk} : (H.set b f).blk k = if k = b then f else H.blk k := rfl
theorem add_blk {H : Heap} {X : Blk} {k : Nat} : (H.add X).blk k = if k = H.next then some X else H.blk k := rfl
theorem V1.mono' {ρ ρ' : Rho} (h : RhoLe ρ ρ') {v v' : Value} (hv : V1 ρ v v') : V1 ρ' v v' := hv.mono h
/-- It is where it was: it gets a new number. -/
theorem adv_swap {ρ ρ1 : Rho} {H : Heap} {B B0 B' C : Blk} {b : Nat} {L : Loc} {w w' : World} (hw : Hw H) (hB : H.blk b = some B) (hro : B.ro = false) (hL : ρ b = some L) (ha : Adv H.next ρ (H.set b (some B0)) w ρ1 (H.set b (some B')) w') (hB0 : B0.ro = false)
    (hB' : B'.ro = false) (hesz : B'.esz = C.esz) (hC : C.ro = false) (hty : C.ty = none) (hrm : C.room = none) (hcells : ∀ j v, C.at_ j = some v → B'.at_ j = some v) : Adv H.next ρ H w (rset ρ1 H.next L) ((H.set b none).add C) w' := by
  have hbn : b < H.next := hw.lt hB
  have hnone : ρ1 H.next = none := by
    cases h : ρ1 H.next with
    | none => rfl
    | some M => have := ha.rel.dom _ _ h; simp at this
  have hle : RhoLe ρ1 (rset ρ1 H.next L) := rset_le hnone
  have hL1 : ρ1 b = some L := ha.ext b L hL
  have hself : (H.set b (some B')).blk b = some B' := blk_set_self _ _ _
  have old : ∀ {k : Nat} {C' : Blk}, k ≠ H.next → ((H.set b none).add C).blk k = some C' → k ≠ b ∧ H.blk k = some C' ∧ (H.set b (some B')).blk k = some C' := by
    intro k C' hk h
    rw [add_blk, next_set, if_neg hk, set_blk] at h
    split at h
    · cases h
    · rename_i hkb
      exact ⟨hkb, h, by rw [blk_set_ne hkb]; exact h⟩
  have new : ∀ {C' : Blk}, ((H.set b none).add C).blk H.next = some C' → C' = C := by
    intro C' h
    rw [add_blk, next_set, if_pos rfl] at h
    cases h; rfl
  obtain ⟨c, t, fr, p1, p2, p3, p4, p5⟩ := ha.rel.blk b L B' hL1 hself
  refine ⟨fun k M hk => hle k M (ha.ext k M hk), ⟨?_, ?_, ?_, ha.rel.j, ?_, ?_⟩, ha.os, ha.tape, ha.output, ha.size, ?_, ?_, ?_, by simp, ?_⟩
  · intro k M hk
    unfold rset at hk
    split at hk
    · subst k; simp
    · have := ha.rel.dom k M hk; simp at this ⊢; omega
  · intro k M D hk hD
    unfold rset at hk
    split at hk
    · rename_i e; subst e; cases hk
      obtain rfl := new hD
      refine ⟨c, t, fr, p1, p2, by rw [p3, hesz], fun _ => p4 hB', fun o v hv => ?_⟩
      obtain ⟨v', h1, h2⟩ := p5 o v (hcells o v hv)
      exact ⟨v', h1, h2.mono hle⟩
    · rename_i e
      obtain ⟨h1, h2, h3⟩ := old e hD
      obtain ⟨c', t', fr', q1, q2, q3, q4, q5⟩ := ha.rel.blk k M D hk h3
      refine ⟨c', t', fr', q1, q2, q3, q4, fun o v hv => ?_⟩
      obtain ⟨v', r1, r2⟩ := q5 o v hv
      exact ⟨v', r1, r2.mono hle⟩
  · intro k1 k2 M1 M2 D1 D2 g1 g2 g3 g4 g5 g6
    unfold rset at g1 g2
    split at g1
    · rename_i e1
      split at g2
      · rename_i e2; rw [e1, e2]
      · rename_i e2
        cases g1
        obtain ⟨h1, h2, h3⟩ := old e2 g4
        exact absurd (ha.rel.inj b k2 L M2 B' D2 hL1 g2 hself h3 hB' g6).symm h1
    · rename_i e1
      obtain ⟨h1, h2, h3⟩ := old e1 g3
      split at g2
      · rename_i e2
        cases g2
        exact absurd (ha.rel.inj k1 b M1 L D1 B' g1 hL1 h3 hself g5 g6) h1
      · rename_i e2
        obtain ⟨h4, h5, h6⟩ := old e2 g4
        exact ha.rel.inj k1 k2 M1 M2 D1 D2 g1 g2 h3 h6 g5 g6
  · intro k M D hk hD hro'
    unfold rset at hk
    split at hk
    · cases hk; exact ha.rel.low b L B' hL1 hself hB'
    · rename_i e
      obtain ⟨h1, h2, h3⟩ := old e hD
      exact ha.rel.low k M D hk h3 hro'
  · intro k M D hk hD
    unfold rset at hk
    split at hk
    · rename_i e; subst e; cases hk
      obtain rfl := new hD
      exact TyAt.none hty hrm fun h1 h2 => (ha.rel.typ b L B' hL1 hself).2.2 hB' (by rw [hesz]; exact h2)
    · rename_i e
      obtain ⟨h1, h2, h3⟩ := old e hD
      exact ha.rel.typ k M D hk h3
  · intro cb hcb hno
    refine ha.keep cb hcb fun k M D hk hD hro' => ?_
    rw [set_blk] at hD
    split at hD
    · rename_i e; subst e
      rw [hL] at hk; cases hk
      exact hno k L B hL hB hro
    · exact hno k M D hk hD hro'
  · intro k hk h0
    obtain ⟨h1, h2⟩ := ha.ghost k hk h0
    have hkb : k ≠ b := fun e => by subst e; rw [hL] at h0; cases h0
    refine ⟨by unfold rset; rw [if_neg (by omega)]; exact h1, ?_⟩
    rw [add_blk, next_set, if_neg (by omega), blk_set_ne hkb]
  · intro k M h0 hk
    unfold rset at hk
    split at hk
    · rename_i e; subst e; cases hk
      exact ⟨Nat.le_refl _, .inr ⟨b, L, B, hL, hB, hro, rfl⟩⟩
    · obtain ⟨h1, h2⟩ := ha.fresh k M h0 hk
      refine ⟨h1, h2.imp id ?_⟩
      rintro ⟨b0, L0, D0, r1, r2, r3, r4⟩
      rw [set_blk] at r2
      split at r2
      · rename_i e; subst e
        rw [hL] at r1; cases r1
        exact ⟨b0, L, B, hL, hB, hro, r4⟩
      · exact ⟨b0, L0, D0, r1, r2, r3, r4⟩
  · intro k M D hk hD
    have hkn : k ≠ H.next := fun e => by
      have := ha.rel.dom k M (ha.ext k M hk); simp at this; omega
    obtain ⟨h1, h2, h3⟩ := old hkn hD
    exact ⟨D, h2, rfl, rfl⟩
/-- It is elsewhere: what was left behind is forgotten. -/
theorem adv_left {ρ ρ1 : Rho} {H : Heap} {B' C : Blk} {b : Nat} {L : Loc} {w w' : World} (hw : Hw H) (hbn : b < H.next) (hL : ρ b = some L) (ha : Adv H.next ρ H w ρ1 (H.add B') w')
    (hB' : B'.ro = false) (hesz : B'.esz = C.esz) (hC : C.ro = false) (hty : C.ty = none) (hrm : C.room = none) (hcells : ∀ j v, C.at_ j = some v → B'.at_ j = some v) : Adv H.next ρ H w ρ1 ((H.set b none).add C) w' := by
  have old : ∀ {k : Nat} {C' : Blk}, k ≠ H.next → ((H.set b none).add C).blk k = some C' → k ≠ b ∧ H.blk k = some C' ∧ (H.add B').blk k = some C' := by
    intro k C' hk h
    rw [add_blk, next_set, if_neg hk, set_blk] at h
    split at h
    · cases h
    · rename_i hkb
      exact ⟨hkb, h, by rw [add_blk, if_neg hk]; exact h⟩
  have new : ∀ {C' : Blk}, ((H.set b none).add C).blk H.next = some C' → C' = C := by
    intro C' h
    rw [add_blk, next_set, if_pos rfl] at h
    cases h; rfl
  have hself : (H.add B').blk H.next = some B' := blk_add_new _ _
  -- each block of the new memory stands in the other
  have both : ∀ {k : Nat} {D : Blk}, ((H.set b none).add C).blk k = some D → ∃ D', (H.add B').blk k = some D' ∧ D'.ro = D.ro ∧ D'.esz = D.esz ∧ ∀ j v, D.at_ j = some v → D'.at_ j = some v := by
    intro k D hD
    by_cases e : k = H.next
    · subst e
      obtain rfl := new hD
      exact ⟨B', hself, by rw [hB', hC], hesz, hcells⟩
    · exact ⟨D, (old e hD).2.2, rfl, rfl, fun _ _ h => h⟩
  refine ⟨ha.ext, ⟨?_, ?_, ?_, ha.rel.j, ?_, ?_⟩, ha.os, ha.tape, ha.output, ha.size, ha.keep, ?_, ha.fresh, by simp, ?_⟩
  · intro k M hk
    have := ha.rel.dom k M hk; simpa using this
  · intro k M D hk hD
    obtain ⟨D', h1, h2, h3, h4⟩ := both hD
    obtain ⟨c, t, fr, p1, p2, p3, p4, p5⟩ := ha.rel.blk k M D' hk h1
    exact ⟨c, t, fr, p1, p2, by rw [p3, h3], fun h => p4 (by rw [h2]; exact h), fun o v hv => p5 o v (h4 o v hv)⟩
  · intro k1 k2 M1 M2 D1 D2 g1 g2 g3 g4 g5 g6
    obtain ⟨D1', h1, h2, _⟩ := both g3
    obtain ⟨D2', h3, _⟩ := both g4
    exact ha.rel.inj k1 k2 M1 M2 D1' D2' g1 g2 h1 h3 (by rw [h2]; exact g5) g6
  · intro k M D hk hD hro
    obtain ⟨D', h1, h2, _⟩ := both hD
    exact ha.rel.low k M D' hk h1 (by rw [h2]; exact hro)
  · intro k M D hk hD
    by_cases e : k = H.next
    · subst e
      obtain rfl := new hD
      exact TyAt.none hty hrm fun h1 h2 => (ha.rel.typ _ M B' hk hself).2.2 hB' (by rw [hesz]; exact h2)
    · exact ha.rel.typ k M D hk (old e hD).2.2
  · intro k hk h0
    obtain ⟨h1, h2⟩ := ha.ghost k hk h0
    have hkb : k ≠ b := fun e => by subst e; rw [hL] at h0; cases h0
    exact ⟨h1, by rw [add_blk, next_set, if_neg (by omega), blk_set_ne hkb]⟩
  · intro k M D hk hD
    by_cases e : k = H.next
    · subst e
      obtain ⟨D', h1, h2, h3⟩ := ha.back _ M B' hk hself
      rw [hw _ (Nat.le_refl _)] at h1; cases h1
    · exact ⟨D, (old e hD).2.1, rfl, rfl⟩
end Go.AM
end TextAhIns
