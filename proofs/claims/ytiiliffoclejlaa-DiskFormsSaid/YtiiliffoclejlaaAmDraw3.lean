/- AM: regions whose order is drawn: the theorem. -/
import Derived.Test.YtiiliffoclejlaaAmDraw2
namespace Go.AM
set_option linter.unusedVariables false
set_option linter.unusedSimpArgs false
section
variable {X : Ctx}
theorem cOp_rdArg {P : Program} {op : Op} {i : Ins} (hc : cOp P op = some i) : (∀ x, i = .ld x → ∃ y, cArg y = some x) ∧ (∀ n x, i = .ldn n x → ∃ y, cArg y = some x) ∧ (∀ x, i = .b2s x → ∃ y, cArg y = some x) ∧ (∀ n x lo hi mx, i = .slv n x lo hi mx → ∃ y, cArg y = some x) := by
  refine ⟨fun x e => ?_, fun n x e => ?_, fun x e => ?_, fun n x lo hi mx e => ?_⟩ <;> subst e
  all_goals
    cases op
    case call c =>
      obtain ⟨callee, args, argTypes⟩ := c
      simp only [cOp] at hc
      cases callee
      case value g => cases g <;> simp at hc
      case invoke => cases hc
      case builtin b =>
        simp only at hc
        split at hc <;> try (cases hc; done)
        cases b <;> simp only [cBuiltin, cLen, cApp, cCopy, cClear, cCap, cMM] at hc <;> try (cases hc; done)
        all_goals (repeat' split at hc)
        all_goals first | (cases hc; done) | (simp at hc; done)
    case makeFunc fn first cap =>
      cases fn <;> simp only [cOp] at hc <;> try (cases hc; done)
      split at hc
      · simp at hc
      · cases hc
    all_goals first
      | (simp only [cOp] at hc; cases hc; done)
      | (simp [cOp] at hc; done)
      | (simp only [cOp, cBin] at hc; repeat' split at hc
         all_goals first | (cases hc; done) | (simp at hc; done) | (cases hc; exact ⟨_, ‹_›⟩))
theorem rdBlk_congr {e e' : Env} {i : Ins} (h : ∀ t ∈ i.tmps, e t = e' t) : rdBlk i e = rdBlk i e' := by
  cases i <;> simp only [Ins.tmps, List.mem_append] at h <;> simp only [rdBlk]
  case ld x => rw [ev_congr h]
  case ldn n x => rw [ev_congr h]
  case b2s x => rw [ev_congr h]
  case slv n x lo hi mx => rw [ev_congr (a := x) fun t ht => h t (.inl (.inl (.inl ht)))]
theorem rd_dom {P : Program} {ρ : Rho} {e : Env} {f : Operand → Value} (ha : ArgR ρ e f) {op : Op} {i : Ins} (hc : cOp P op = some i) {b : Nat} (h : rdBlk i e = some b) : ∃ L, ρ b = some L := by
  obtain ⟨c1, c2, c3, c4⟩ := cOp_rdArg hc
  have ptr : ∀ x, (∃ y, cArg y = some x) → (match ev e x with | .pointer (some a) => some a.block | _ => none) = some b → ∃ L, ρ b = some L := by
    rintro x ⟨y, hy⟩ hx
    have hv := ha y x hy
    cases hxv : ev e x <;> rw [hxv] at hx <;> try (cases hx; done)
    rename_i ad
    cases ad with
    | none => cases hx
    | some ad =>
      simp only [Option.some.injEq] at hx
      subst hx
      rw [hxv] at hv
      obtain ⟨L, h1, _⟩ := hv
      exact ⟨L, h1⟩
  have sl : ∀ x, (∃ y, cArg y = some x) → (match ev e x with | .slice (some a) _ _ => some a.block | _ => none) = some b → ∃ L, ρ b = some L := by
    rintro x ⟨y, hy⟩ hx
    have hv := ha y x hy
    cases hxv : ev e x <;> rw [hxv] at hx <;> try (cases hx; done)
    rename_i ad n c
    cases ad with
    | none => cases hx
    | some ad =>
      simp only [Option.some.injEq] at hx
      subst hx
      rw [hxv] at hv
      obtain ⟨L, o', c', h1, _⟩ := hv
      exact ⟨L, h1⟩
  cases i <;> simp only [rdBlk] at h <;> try (cases h; done)
  case ld x => exact ptr x (c1 x rfl) h
  case ldn n x => exact ptr x (c2 n x rfl) h
  case b2s x => exact sl x (c3 x rfl) h
  case slv n x lo hi mx => exact sl x (c4 n x lo hi mx rfl) h
/-- Effects that stand ahead in our order are listed, if one is ready. -/
theorem Inv.noEff (g : Good X) {listed : Array Bool} {m : Nat} {ρ : Rho} {G : Heap} {Y : Env} {a : Act} {w : World} (v : Inv X listed m ρ G Y a w) {k j : Nat} {o : Oper} {i : Ir} (r : Ready X listed k j o i) : X.NoEff m j := by
  intro p h1 h2 ip hip
  cases he : isEff ip.ins with
  | false => rfl
  | true =>
    exfalso
    obtain ⟨op, hop⟩ := g.order_lt (g.lt_is hip)
    rcases g.facts.pair p j op k ip i h2 hop r.pos hip r.ir with hd | ⟨_, h3, _⟩
    · have := (v.eff p ip hip he).1 (g.dep v.closed hop r.pos hd r.edges); omega
    · rw [he] at h3; cases h3
theorem Inv.below (g : Good X) {listed : Array Bool} {ρ : Rho} {G : Heap} {Y : Env} {a : Act} {w : World} {k j : Nat} (v : Inv X listed j ρ G Y a w) {o : Oper} {i : Ir} (r : Ready X listed k j o i) (he : isEff i.ins = true) : ∀ b L, ρ b = some L → b < (X.Hp j).next := by
  intro b L hL
  rcases v.dom b L hL with h | ⟨p, p1, p2, p3, p4⟩
  · exact h
  · exfalso
    rcases Nat.lt_or_ge j p with h | h
    · obtain ⟨op, hop, hlp⟩ := p2
      obtain ⟨ip, hip⟩ := g.is_lt (g.al_lt p3)
      rcases g.facts.pair j p k op i ip h r.pos hop r.ir hip with hd | ⟨_, h2, _⟩
      · exact r.free (g.dep v.closed r.pos hop hd fun e he => v.closed op hlp e he)
      · rw [he] at h2; cases h2
    · obtain rfl : p = j := by omega
      exact r.free p2
/-- All have run. -/
theorem Inv.done (g : Good X) {listed : Array Bool} {m : Nat} {ρ : Rho} {G : Heap} {Y : Env} {a : Act} {w : World} (v : Inv X listed m ρ G Y a w) (hall : ∀ p, p < X.n → X.L listed p) : EnvR ρ (X.E X.n) a X.N ∧ Adv (X.Hp 0).next X.ρ0 (X.Hp 0) X.w0 ρ (X.Hp X.n) w := by
  obtain ⟨G', v'⟩ := v.move g v.mle (Nat.le_refl _) (fun p h1 h2 ip hip => by
    cases he : isEff ip.ins with
    | false => rfl
    | true => have := (v.eff p ip hip he).1 (hall p h2); omega)
  have hY : Y = X.E X.n := funext fun t => v'.xval t X.n (Nat.le_refl _) fun q iq hiq hd => ⟨fun _ => g.lt_is hiq, fun h => hall q h⟩
  have hd : ∀ b L, ρ b = some L → b < (X.Hp X.n).next := fun b L hL => by
    rcases v'.dom b L hL with h | ⟨p, p1, _, p3, _⟩
    · exact h
    · have := g.al_lt p3; omega
  refine ⟨hY ▸ v'.env, v'.adv.reheap (by have := v'.adv.next; rw [v'.gnext] at this; exact this) hd fun b hb => (v'.g1 b ?_).symm⟩
  rcases hb with ⟨L, h⟩ | h
  · exact hd b L h
  · have := g.next_le (Nat.zero_le X.n) (Nat.le_refl _); omega
theorem mem_ready {listed : Array Bool} {k : Nat} : k ∈ Region.ready .any X.ops listed ↔ k < X.ops.size ∧ listed.getD k true = false ∧ ∃ o, X.ops[k]? = some o ∧ ∀ e ∈ edgesAt X.ops k, listed.getD e false = true := by
  unfold Region.ready
  simp only [List.mem_filter, List.mem_range, Bool.and_eq_true, Bool.not_eq_true']
  constructor
  · rintro ⟨h1, h2, h3⟩
    cases ho : X.ops[k]? with
    | none => rw [ho] at h3; simp at h3
    | some o =>
      rw [ho] at h3
      simp only [Option.map_some, Option.getD_some] at h3
      refine ⟨h1, h2, o, rfl, fun e he => ?_⟩
      simp only [edgesAt, ho, edgesOf, List.mem_map, List.mem_filter] at he
      obtain ⟨ed, ⟨he1, he2⟩, rfl⟩ := he
      rw [Array.all_eq_true_iff_forall_mem] at h3
      have := h3 ed (by simpa using he1)
      simpa [he2] using this
  · rintro ⟨h1, h2, o, ho, h3⟩
    refine ⟨h1, h2, ?_⟩
    rw [ho]
    simp only [Option.map_some, Option.getD_some]
    rw [Array.all_eq_true_iff_forall_mem]
    intro ed hed
    by_cases hb : Region.binds .any ed = true
    · have := h3 ed.on (by simp only [edgesAt, ho, edgesOf, List.mem_map, List.mem_filter]; exact ⟨ed, ⟨by simpa using hed, hb⟩, rfl⟩)
      simp [this]
    · simp [hb]
theorem getD_two {l : Array Bool} {k : Nat} (hk : k < l.size) : l.getD k true = l.getD k false := by
  simp [Array.getD_eq_getD_getElem?, hk]
theorem draw_any (g : Good X) {Q : Exit → Act → World → Prop} (hQ : ∀ a' w' ρ', EnvR ρ' (X.E X.n) a' X.N → Adv (X.Hp 0).next X.ρ0 (X.Hp 0) X.w0 ρ' (X.Hp X.n) w' → Q .normal a' w') :
    ∀ (fuel : Nat) (listed : Array Bool) (left : List Nat) {m : Nat} {ρ : Rho} {G : Heap} {Y : Env} {a : Act} {w : World}, Inv X listed m ρ G Y a w → left.length ≤ fuel → (∀ p, p < X.n → ¬ X.L listed p → p ∈ left) → wpAny X.P .any X.ops Q fuel listed a w := by
  intro fuel
  induction fuel with
  | zero =>
    intro listed left m ρ G Y a w v hl hleft
    have hnil : left = [] := List.length_eq_zero_iff.1 (by omega)
    have hall : ∀ p, p < X.n → X.L listed p := fun p hp => Classical.byContradiction fun h => by
      have := hleft p hp h
      rw [hnil] at this; cases this
    obtain ⟨h1, h2⟩ := v.done g hall
    refine ⟨?_, hQ a w ρ h1 h2⟩
    cases hr : Region.ready .any X.ops listed with
    | nil => rfl
    | cons k ks =>
      exfalso
      have hk : k ∈ Region.ready .any X.ops listed := by rw [hr]; simp
      obtain ⟨q1, q2, _⟩ := mem_ready.1 hk
      obtain ⟨p, hp⟩ := g.facts.surj k q1
      have hpn : p < X.n := by have := (List.getElem?_eq_some_iff.1 hp).1; rw [g.facts.len] at this; exact this
      obtain ⟨k', h3, h4⟩ := hall p hpn
      rw [hp] at h3; cases h3
      rw [getD_two (by rw [v.size]; exact q1), h4] at q2
      cases q2
  | succ fuel ih =>
    intro listed left m ρ G Y a w v hl hleft
    refine ⟨fun hr => ?_, fun k hk => ?_⟩
    · -- none is ready: all have run
      have hall : ∀ p, p < X.n → X.L listed p := by
        intro p
        induction p using Nat.strongRecOn with
        | _ p ihp =>
          intro hp
          refine Classical.byContradiction fun hno => ?_
          obtain ⟨k, hk⟩ := g.order_lt hp
          obtain ⟨o, i, ho, _, _⟩ := g.facts.code p k hk
          have hkn := g.facts.lt p k hk
          have : k ∈ Region.ready .any X.ops listed := by
            refine mem_ready.2 ⟨hkn, ?_, o, ho, fun e he => ?_⟩
            · rw [getD_two (by rw [v.size]; exact hkn)]
              cases hx : listed.getD k false with
              | false => rfl
              | true => exact absurd ⟨k, hk, hx⟩ hno
            · obtain ⟨q, hq, hqe⟩ := g.facts.edge p k hk e he
              obtain ⟨e', h1, h2⟩ := ihp q hq (by omega)
              rw [hqe] at h1; cases h1
              exact h2
          rw [hr] at this; cases this
      obtain ⟨h1, h2⟩ := v.done g hall
      exact hQ a w ρ h1 h2
    · obtain ⟨hkn, hfree, o, ho, hedges⟩ := mem_ready.1 hk
      obtain ⟨j, hj⟩ := g.facts.surj k hkn
      obtain ⟨o', i, ho', hi, hcode⟩ := g.facts.code j k hj
      rw [ho] at ho'; cases ho'
      have hjn := g.lt_is hi
      have r : Ready X listed k j o i := ⟨hj, ho, hi, hcode, (fun ⟨k', h1, h2⟩ => by
        rw [hj] at h1; cases h1
        rw [getD_two (by rw [v.size]; exact hkn), h2] at hfree; cases hfree), hedges⟩
      have hlook := v.look g r
      obtain ⟨hdst, hins⟩ := cOper_ins hcode
      -- what is left to do once j has run
      have next : ∀ {m' : Nat} {ρ' : Rho} {G' : Heap} {Y' : Env} {a' : Act} {w' : World}, Inv X (listed.setIfInBounds k true) m' ρ' G' Y' a' w' → wpAny X.P .any X.ops Q fuel (listed.setIfInBounds k true) a' w' := by
        intro m' ρ' G' Y' a' w' v'
        refine ih (listed.setIfInBounds k true) (left.erase j) v' ?_ fun p hp hno => ?_
        · rw [List.length_erase_of_mem (hleft j hjn r.free)]; omega
        · have hpj : p ≠ j := fun e => hno ((L_set g v.size hj).2 (.inr e))
          exact (List.mem_erase_of_ne hpj).2 (hleft p hp fun h => hno ((L_set g v.size hj).2 (.inl h)))
      unfold wpOp
      rw [ho]
      simp only
      rw [wanted_sound v.env hcode, wanted_congr (e := Y) (e' := X.E j) hlook]
      have htr := g.tr j i hi
      unfold stepIr at htr
      by_cases hw : wanted i (X.E j) = true
      · rw [if_pos hw] at htr ⊢
        split at htr
        case h_2 => cases htr
        rename_i x H' hs
        have h3 : put i.dst x (X.E j) = X.E (j + 1) ∧ H' = X.Hp (j + 1) := by simpa using htr
        obtain ⟨hE, rfl⟩ := h3
        left
        by_cases he : isEff i.ins = true
        · -- an effect
          have hmj : m ≤ j := by
            rcases Nat.lt_or_ge j m with h | h
            · exact absurd ((v.eff j i hi he).2 h) r.free
            · exact h
          obtain ⟨G1, v1⟩ := v.move g hmj (Nat.le_of_lt hjn) (v.noEff g r)
          have hbelow := v1.below g r he
          have hrel : RelH ρ (X.Hp j) w := ⟨hbelow, fun b L B hL hB => v1.adv.rel.blk b L B hL (by rw [v1.g1 b (hbelow b L hL)]; exact hB), fun b1 b2 L1 L2 B1 B2 q1 q2 q3 q4 q5 q6 =>
            v1.adv.rel.inj b1 b2 L1 L2 B1 B2 q1 q2 (by rw [v1.g1 b1 (hbelow b1 L1 q1)]; exact q3) (by rw [v1.g1 b2 (hbelow b2 L2 q2)]; exact q4) q5 q6⟩
          have hsY : step X.P X.C i.ins Y (X.Hp j) = some (x, X.Hp (j + 1)) := by
            rw [step_congr (e := Y) (e' := X.E j) fun t ht => hlook t (by simp [Ir.looks, ht])]; exact hs
          refine ins_sound g.ok hcode hsY v1.env.arg (g.hwp j (Nat.le_of_lt hjn)) hrel _ _ fun x' w' ρ' hv hadv => ?_
          obtain ⟨G2, v2⟩ := v1.effect g r hE.symm he hv hadv
          rw [← hdst]
          exact next v2
        · have he' : isEff i.ins = false := by simpa using he
          have hc2 : cOp X.P o.op = some i.ins := by
            rcases hins with h | h
            · exact h
            · rw [h] at he'; simp [isEff] at he'
          by_cases ha : isAl i.ins = true
          · -- a new block
            obtain ⟨f, B, q1, q2, q3⟩ := step_alc ha hs
            have hal : X.Al j := ⟨i, hi, ha, hw⟩
            have hq1 : alc i.ins Y = some (f, B) := by rw [alc_congr (e := Y) (e' := X.E j) fun t ht => hlook t (by simp [Ir.looks, ht])]; exact q1
            obtain ⟨hro, v', w', L, c, t, fr, md⟩ := al_sound (P := X.P) (w := w) hc2 hq1 v.env.arg
            obtain ⟨ρ', G', v2⟩ := v.made g r hal (by rw [← hE, q2]; rfl) q3 hro md
            refine wp_value md.run ?_
            rw [← hdst]
            exact next v2
          · have ha' : isAl i.ins = false := by simpa using ha
            have hsame := step_same ha' he' hs
            rw [hsame] at hs
            have go : ∀ {m1 : Nat} {G1 : Heap}, Inv X listed m1 ρ G1 Y a w → j ≤ m1 → o.wp X.P a w (wpAny X.P .any X.ops Q fuel (listed.setIfInBounds k true)) Q := by
              intro m1 G1 v1 hjm
              have hsG := v1.reads g r ha' he' hw hs hjm fun b hb => rd_dom (P := X.P) v1.env.arg hc2 (by rw [rdBlk_congr (e := Y) (e' := X.E j) fun t ht => hlook t (by simp [Ir.looks, ht])]; exact hb)
              obtain ⟨_, x', p1, p2⟩ := rd_sound (P := X.P) (w := w) hc2 ha' he' hsG v1.env.arg v1.adv.rel
              refine wp_value p1 ?_
              have v2 := v1.still g r hE.symm p2 (fun ⟨i', hi', h1, _⟩ => by rw [hi] at hi'; cases hi'; rw [ha'] at h1; cases h1) he'
              rw [← hdst]
              exact next v2
            rcases Nat.lt_or_ge m j with h | h
            · obtain ⟨G1, v1⟩ := v.move g (Nat.le_of_lt h) (Nat.le_of_lt hjn) (v.noEff g r)
              exact go v1 (Nat.le_refl _)
            · exact go v h
      · rw [if_neg hw] at htr ⊢
        have h3 : put i.dst undef (X.E j) = X.E (j + 1) ∧ X.Hp j = X.Hp (j + 1) := by simpa using htr
        by_cases he : isEff i.ins = true
        · have hmj : m ≤ j := by
            rcases Nat.lt_or_ge j m with h | h
            · exact absurd ((v.eff j i hi he).2 h) r.free
            · exact h
          obtain ⟨G1, v1⟩ := v.move g hmj (Nat.le_of_lt hjn) (v.noEff g r)
          have hbelow := v1.below g r he
          have hrel : RelH ρ (X.Hp j) w := ⟨hbelow, fun b L B hL hB => v1.adv.rel.blk b L B hL (by rw [v1.g1 b (hbelow b L hL)]; exact hB), fun b1 b2 L1 L2 B1 B2 q1 q2 q3 q4 q5 q6 =>
            v1.adv.rel.inj b1 b2 L1 L2 B1 B2 q1 q2 (by rw [v1.g1 b1 (hbelow b1 L1 q1)]; exact q3) (by rw [v1.g1 b2 (hbelow b2 L2 q2)]; exact q4) q5 q6⟩
          obtain ⟨G2, v2⟩ := v1.effect g r h3.1.symm he V3.undef (by rw [← h3.2]; exact Adv.refl hrel)
          rw [← hdst]
          exact next v2
        · have v2 := v.still g r h3.1.symm (x' := undef) V3.undef (fun ⟨i', hi', _, h2⟩ => by rw [hi] at hi'; cases hi'; exact hw h2) (by simpa using he)
          rw [← hdst]
          exact next v2
end
theorem regd_sound {P : Program} {C : CallF} (hP : P.follows .mixedOrders = true) (hC : COk P C) {ops : Array Oper} {N id : Nat} {Q : Exit → Act → World → Prop} {is0 is : List Ir} {order : List Nat} {ch : List (Nat × Nat)} {e e' : Env} {H H' : Heap} {a : Act} {ρ : Rho} {w : World}
    (h0 : cOpers P ops ops.toList = some is0) (h1 : pickL is0 order = some is) (h2 : drawOk ops order is ch = true) (hn : SlotsIn N is)
    (hs : runD P C is ch e H = some (e', H')) (he : EnvR ρ e a N) (hw : Hw H) (hr : RelH ρ H w) (hQ : ∀ a' w' ρ', EnvR ρ' e' a' N → Adv H.next ρ H w ρ' H' w' → Q .normal a' w') : (Code.region id ops true).wp P Q a w := by
  have facts := facts_of h0 h1 h2
  unfold runD at hs
  split at hs
  case h_2 => cases hs
  rename_i tr htr
  split at hs
  case isFalse => cases hs
  rename_i hchk
  obtain ⟨t1, t2, t3⟩ := tr_states is htr
  let X : Ctx := ⟨P, C, ops, order, is, ch, N, fun p => (tr.getD p (e, H)).1, fun p => (tr.getD p (e, H)).2, ρ, w⟩
  have hget : ∀ p s, tr[p]? = some s → tr.getD p (e, H) = s := fun p s h => by rw [List.getD_eq_getElem?_getD, h]; rfl
  have g : Good X := by
    refine ⟨hC, facts, hn, fun p i hi => ?_, fun p q hpq i hi hwt => ?_, ?_⟩
    · obtain ⟨s, s', q1, q2, q3⟩ := t3 p i hi
      show stepIr P C i (tr.getD p (e, H)).1 (tr.getD p (e, H)).2 = some ((tr.getD (p + 1) (e, H)).1, (tr.getD (p + 1) (e, H)).2)
      rw [hget p s q1, hget (p + 1) s' q2]; exact q3
    · have hc := hchk (p, q) hpq
      unfold Chk at hc
      simp only at hc
      split at hc
      · rename_i i' e1 H1 e2 G1 a1 a2 a3
        rw [hi] at a1; cases a1
        show (step P _ i.ins (tr.getD p (e, H)).1 (tr.getD (q + 1) (e, H)).2).map Prod.fst = (step P _ i.ins (tr.getD p (e, H)).1 (tr.getD p (e, H)).2).map Prod.fst
        have hwt' : wanted i (tr.getD p (e, H)).1 = true := hwt
        rw [hget p _ a2] at hwt' ⊢
        rw [hget (q + 1) _ a3]
        exact hc hwt'
      · exact hc.elim
    · show Hw (tr.getD 0 (e, H)).2
      rw [hget 0 _ t2]; exact hw
  have hE0 : X.E 0 = e := by show (tr.getD 0 (e, H)).1 = e; rw [hget 0 _ t2]
  have hH0 : X.Hp 0 = H := by show (tr.getD 0 (e, H)).2 = H; rw [hget 0 _ t2]
  have hn' : X.n = is.length := by show ops.size = is.length; exact facts.ilen.symm
  have hlast : tr.getD X.n (e, H) = (e', H') := by
    rw [List.getLast?_eq_getElem?, t1] at hs
    exact hget _ _ (by rw [hn']; simpa using hs)
  have hEn : X.E X.n = e' := by show (tr.getD X.n (e, H)).1 = e'; rw [hlast]
  have hHn : X.Hp X.n = H' := by show (tr.getD X.n (e, H)).2 = H'; rw [hlast]
  refine wp_region_any hP ?_
  have hrep : ∀ k, (Array.replicate ops.size false).getD k false = false := fun k => by
    rw [Array.getD_eq_getD_getElem?, Array.getElem?_replicate]
    split <;> rfl
  have hL0 : ∀ p, ¬ X.L (Array.replicate ops.size false) p := fun p ⟨k, _, h⟩ => by rw [hrep] at h; cases h
  have hnx : H.next ≤ H'.next := by have := g.next_le (Nat.zero_le X.n) (Nat.le_refl _); rw [hH0, hHn] at this; exact this
  let G : Heap := { next := H'.next, blk := H.blk }
  have hw1 : RelH ρ H { w with drawn := w.drawn + 1 } := hr.same rfl
  have v : Inv X (Array.replicate ops.size false) 0 ρ G e a { w with drawn := w.drawn + 1 } := by
    refine ⟨(by simp; rfl), (fun k hk => by have hk' : (Array.replicate ops.size false).getD k false = true := hk; rw [hrep] at hk'; cases hk'), Nat.zero_le _, (fun p i hi hee => ⟨fun h => absurd h (hL0 p), fun h => by omega⟩), he, (fun t p hp hq => ?_), (by show H'.next = _; rw [hHn]), (fun b hb => by show H.blk b = _; rw [hH0]), (fun p _ h _ => absurd h (hL0 p)), (fun b L hL => .inl (by rw [hH0]; exact hr.dom b L hL)), (fun p hp _ => ⟨?_, fun h => by omega⟩), ?_⟩
    · rw [E_const g (Nat.zero_le p) hp fun q i h1 h2 hi hd => ?_, hE0]
      exact hL0 q ((hq q i hi hd).2 h2)
    · cases hx : ρ (X.idn p) with
      | none => rfl
      | some L =>
        have h3 := hr.dom _ L hx
        have h4 := g.next_le (Nat.zero_le p) (Nat.le_of_lt (g.al_lt hp))
        rw [hH0] at h4
        unfold Ctx.idn at h3; omega
    · have a0 : Adv (X.Hp 0).next ρ H w ρ H { w with drawn := w.drawn + 1 } := Adv.same hr rfl rfl rfl rfl
      rw [hH0] at a0 ⊢
      exact a0.reheap (G := G) hnx (fun b L hL => by have := hr.dom b L hL; show b < H'.next; omega) fun b _ => rfl
  refine draw_any g (Q := Q) (fun a' w' ρ' q1 q2 => ?_) ops.size _ (List.range ops.size) v (by simp) fun p hp _ => List.mem_range.2 hp
  rw [hEn] at q1
  rw [hH0, hHn] at q2
  exact hQ a' w' ρ' q1 q2
end Go.AM
