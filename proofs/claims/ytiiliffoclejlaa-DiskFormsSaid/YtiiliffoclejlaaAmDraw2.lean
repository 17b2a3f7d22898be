/- AM: regions whose order is drawn: whatever the order, the states of our own order come out. -/
import Derived.Test.YtiiliffoclejlaaAmDraw
namespace Go.AM
set_option linter.unusedVariables false
set_option linter.unusedSimpArgs false

/-- What stays fixed while a region runs. -/
structure Ctx where
  P : Program
  C : CallF
  ops : Array Oper
  order : List Nat
  is : List Ir
  ch : List (Nat × Nat)
  N : Nat
  E : Nat → Env
  Hp : Nat → Heap
  ρ0 : Rho
  w0 : World
structure Good (X : Ctx) : Prop where
  ok : COk X.P X.C
  facts : Facts X.P X.ops X.order X.is X.ch
  slots : SlotsIn X.N X.is
  tr : ∀ (p : Nat) (i : Ir), X.is[p]? = some i → stepIr X.P X.C i (X.E p) (X.Hp p) = some (X.E (p + 1), X.Hp (p + 1))
  chk : ∀ p q, (p, q) ∈ X.ch → ∀ i, X.is[p]? = some i → wanted i (X.E p) = true → (step X.P (fun _ _ _ => none) i.ins (X.E p) (X.Hp (q + 1))).map Prod.fst = (step X.P (fun _ _ _ => none) i.ins (X.E p) (X.Hp p)).map Prod.fst
  hw : Hw (X.Hp 0)
section
variable {X : Ctx}
def Ctx.n (X : Ctx) : Nat := X.ops.size
def Ctx.L (X : Ctx) (listed : Array Bool) (p : Nat) : Prop := ∃ k, X.order[p]? = some k ∧ listed.getD k false = true
def Ctx.Al (X : Ctx) (p : Nat) : Prop := ∃ i, X.is[p]? = some i ∧ isAl i.ins = true ∧ wanted i (X.E p) = true
def Ctx.idn (X : Ctx) (p : Nat) : Nat := (X.Hp p).next
theorem Good.is_lt (g : Good X) {p : Nat} (h : p < X.n) : ∃ i, X.is[p]? = some i := ⟨_, List.getElem?_eq_getElem (by rw [g.facts.ilen]; exact h)⟩
theorem Good.lt_is (g : Good X) {p : Nat} {i : Ir} (h : X.is[p]? = some i) : p < X.n := by have := (List.getElem?_eq_some_iff.1 h).1; rw [g.facts.ilen] at this; exact this
theorem Good.order_lt (g : Good X) {p : Nat} (h : p < X.n) : ∃ k, X.order[p]? = some k := ⟨_, List.getElem?_eq_getElem (by rw [g.facts.len]; exact h)⟩
theorem Good.hwp (g : Good X) : ∀ p, p ≤ X.n → Hw (X.Hp p)
  | 0, _ => g.hw
  | p + 1, h => by
    obtain ⟨i, hi⟩ := g.is_lt (show p < X.n by omega)
    exact (stepIr_next g.ok.next (g.tr p i hi) (g.hwp p (by omega))).1
theorem Good.next1 (g : Good X) {p : Nat} (h : p < X.n) : (X.Hp p).next ≤ (X.Hp (p + 1)).next := by
  obtain ⟨i, hi⟩ := g.is_lt h
  exact (stepIr_next g.ok.next (g.tr p i hi) (g.hwp p (by omega))).2
theorem Good.next_le (g : Good X) {p q : Nat} (hpq : p ≤ q) (hq : q ≤ X.n) : (X.Hp p).next ≤ (X.Hp q).next := by
  induction q with
  | zero => obtain rfl : p = 0 := by omega
            exact Nat.le_refl _
  | succ q ih =>
    rcases Nat.lt_or_ge p (q + 1) with h | h
    · exact Nat.le_trans (ih (by omega) (by omega)) (g.next1 (by omega))
    · obtain rfl : p = q + 1 := by omega
      exact Nat.le_refl _
theorem Good.al (g : Good X) {p : Nat} (h : X.Al p) : ∃ i f B, X.is[p]? = some i ∧ wanted i (X.E p) = true ∧ isAl i.ins = true ∧ alc i.ins (X.E p) = some (f, B) ∧ X.Hp (p + 1) = (X.Hp p).add B ∧ X.E (p + 1) = put i.dst (f (X.Hp p).next) (X.E p) := by
  obtain ⟨i, hi, h1, h2⟩ := h
  have ht := g.tr p i hi
  unfold stepIr at ht
  rw [if_pos h2] at ht
  split at ht
  · rename_i v H' hs
    obtain ⟨f, B, q1, rfl, rfl⟩ := step_alc h1 hs
    have h3 : put i.dst (f (X.Hp p).next) (X.E p) = X.E (p + 1) ∧ (X.Hp p).add B = X.Hp (p + 1) := by simpa using ht
    exact ⟨i, f, B, hi, h2, h1, q1, h3.2.symm, h3.1.symm⟩
  · cases ht
theorem Good.al_next (g : Good X) {p : Nat} (h : X.Al p) : (X.Hp (p + 1)).next = (X.Hp p).next + 1 := by
  obtain ⟨i, f, B, _, _, _, _, h1, _⟩ := g.al h
  rw [h1]; rfl
theorem Good.al_lt (g : Good X) {p : Nat} (h : X.Al p) : p < X.n := by obtain ⟨i, hi, _⟩ := h; exact g.lt_is hi
theorem Good.idn_lt (g : Good X) {p q : Nat} (h : X.Al p) (hpq : p < q) (hq : q ≤ X.n) : X.idn p < (X.Hp q).next := by
  have := g.al_next h
  have := g.next_le (show p + 1 ≤ q by omega) hq
  show (X.Hp p).next < _
  omega
theorem Good.idn_inj (g : Good X) {p q : Nat} (hp : X.Al p) (hq : X.Al q) (h : X.idn p = X.idn q) : p = q := by
  rcases Nat.lt_trichotomy p q with hl | hl | hl
  · have := g.idn_lt hp hl (Nat.le_of_lt (g.al_lt hq)); unfold Ctx.idn at h this; omega
  · exact hl
  · have := g.idn_lt hq hl (Nat.le_of_lt (g.al_lt hp)); unfold Ctx.idn at h this; omega
/-- A step that is neither an effect nor a making. -/
theorem Good.still (g : Good X) {p : Nat} (hp : p < X.n) (h : ∀ i, X.is[p]? = some i → wanted i (X.E p) = true → isEff i.ins = false ∧ isAl i.ins = false) : X.Hp (p + 1) = X.Hp p := by
  obtain ⟨i, hi⟩ := g.is_lt hp
  have ht := g.tr p i hi
  unfold stepIr at ht
  by_cases hw : wanted i (X.E p) = true
  · rw [if_pos hw] at ht
    obtain ⟨h1, h2⟩ := h i hi hw
    split at ht
    · rename_i v H' hs
      obtain rfl := step_same h2 h1 hs
      have h3 : put i.dst v (X.E p) = X.E (p + 1) ∧ X.Hp p = X.Hp (p + 1) := by simpa using ht
      exact h3.2.symm
    · cases ht
  · rw [if_neg hw] at ht
    have h3 : put i.dst undef (X.E p) = X.E (p + 1) ∧ X.Hp p = X.Hp (p + 1) := by simpa using ht
    exact h3.2.symm
def Ctx.NoEff (X : Ctx) (r m : Nat) : Prop := ∀ q, r ≤ q → q < m → ∀ i, X.is[q]? = some i → isEff i.ins = false
theorem Good.keep1 (g : Good X) {p : Nat} (hp : p < X.n) (h : ∀ i, X.is[p]? = some i → isEff i.ins = false) : ∀ b, b < (X.Hp p).next → (X.Hp (p + 1)).blk b = (X.Hp p).blk b := by
  intro b hb
  by_cases ha : X.Al p
  · obtain ⟨i, f, B, _, _, _, _, h1, _⟩ := g.al ha
    rw [h1]; simp only [Heap.add]; rw [if_neg (by omega)]
  · rw [g.still hp fun i hi hw => ⟨h i hi, by
      cases hx : isAl i.ins
      · rfl
      · exact absurd ⟨i, hi, hx, hw⟩ ha⟩]
theorem Good.keep (g : Good X) {r m : Nat} (hrm : r ≤ m) (hm : m ≤ X.n) (h : X.NoEff r m) : ∀ b, b < (X.Hp r).next → (X.Hp m).blk b = (X.Hp r).blk b := by
  induction m with
  | zero => obtain rfl : r = 0 := by omega
            intro b _; rfl
  | succ m ih =>
    rcases Nat.lt_or_ge r (m + 1) with hl | hl
    · intro b hb
      rw [g.keep1 (show m < X.n by omega) (fun i hi => h m (by omega) (by omega) i hi) b (by have := g.next_le (show r ≤ m by omega) (by omega); omega)]
      exact ih (by omega) (by omega) (fun q h1 h2 => h q h1 (by omega)) b hb
    · obtain rfl : r = m + 1 := by omega
      intro b _; rfl

/-- The state of affairs while the region runs in whatever order. -/
structure Inv (X : Ctx) (listed : Array Bool) (m : Nat) (ρ : Rho) (G : Heap) (Y : Env) (a : Act) (w : World) : Prop where
  size : listed.size = X.n
  closed : Closed X.ops fun k => listed.getD k false = true
  mle : m ≤ X.n
  eff : ∀ p i, X.is[p]? = some i → isEff i.ins = true → (X.L listed p ↔ p < m)
  env : EnvR ρ Y a X.N
  xval : ∀ t p, p ≤ X.n → (∀ q i, X.is[q]? = some i → i.dst = some t → (X.L listed q ↔ q < p)) → Y t = X.E p t
  gnext : G.next = (X.Hp X.n).next
  g1 : ∀ b, b < (X.Hp m).next → G.blk b = (X.Hp m).blk b
  g2 : ∀ p, m ≤ p → X.L listed p → X.Al p → G.blk (X.idn p) = (X.Hp (p + 1)).blk (X.idn p)
  dom : ∀ b Lc, ρ b = some Lc → b < (X.Hp m).next ∨ ∃ p, m ≤ p ∧ X.L listed p ∧ X.Al p ∧ b = X.idn p
  ghost : ∀ p, X.Al p → ¬ X.L listed p → ρ (X.idn p) = none ∧ (p < m → (X.Hp m).blk (X.idn p) = (X.Hp (p + 1)).blk (X.idn p))
  adv : Adv (X.Hp 0).next X.ρ0 (X.Hp 0) X.w0 ρ G w
/-- The mark may move over what is no effect. -/
theorem Inv.move (g : Good X) {listed : Array Bool} {m j : Nat} {ρ : Rho} {G : Heap} {Y : Env} {a : Act} {w : World} (v : Inv X listed m ρ G Y a w) (hmj : m ≤ j) (hj : j ≤ X.n) (hno : X.NoEff m j) : ∃ G', Inv X listed j ρ G' Y a w := by
  have hk := g.keep hmj hj hno
  have hnx := g.next_le hmj hj
  let G' : Heap := { next := G.next, blk := fun b => if b < (X.Hp j).next then (X.Hp j).blk b else G.blk b }
  have hsame : ∀ b, (∃ L, ρ b = some L) ∨ b < (X.Hp 0).next → G'.blk b = G.blk b := by
    intro b hb
    show (if b < (X.Hp j).next then (X.Hp j).blk b else G.blk b) = G.blk b
    by_cases hlt : b < (X.Hp j).next
    · rw [if_pos hlt]
      have hlow : b < (X.Hp m).next → (X.Hp j).blk b = G.blk b := fun h => by rw [hk b h, v.g1 b h]
      rcases hb with ⟨L, hL⟩ | hb
      · rcases v.dom b L hL with h | ⟨p, p1, p2, p3, rfl⟩
        · exact hlow h
        · have hpj : p < j := by
            rcases Nat.lt_or_ge p j with h | h
            · exact h
            · have := g.next_le h (Nat.le_of_lt (g.al_lt p3)); unfold Ctx.idn at hlt; omega
          rw [v.g2 p p1 p2 p3]
          exact g.keep (show p + 1 ≤ j by omega) hj (fun q h1 h2 => hno q (by omega) h2) _ (by have := g.al_next p3; unfold Ctx.idn; omega)
      · exact hlow (by have := g.next_le (Nat.zero_le m) v.mle; omega)
    · rw [if_neg hlt]
  refine ⟨G', v.size, v.closed, hj, ?_, v.env, v.xval, v.gnext, ?_, ?_, ?_, ?_, ?_⟩
  · intro p i hi he
    rw [v.eff p i hi he]
    constructor
    · intro h; omega
    · intro h
      rcases Nat.lt_or_ge p m with h1 | h1
      · exact h1
      · have := hno p h1 h i hi; rw [he] at this; cases this
  · intro b hb
    show (if b < (X.Hp j).next then (X.Hp j).blk b else G.blk b) = _
    rw [if_pos hb]
  · intro p hp hl ha
    show (if X.idn p < (X.Hp j).next then (X.Hp j).blk (X.idn p) else G.blk (X.idn p)) = _
    rw [if_neg (by have := g.next_le hp (Nat.le_of_lt (g.al_lt ha)); unfold Ctx.idn; omega)]
    exact v.g2 p (by omega) hl ha
  · intro b L hL
    rcases v.dom b L hL with h | ⟨p, p1, p2, p3, p4⟩
    · exact .inl (by omega)
    · rcases Nat.lt_or_ge p j with h | h
      · left; rw [p4]; exact g.idn_lt p3 h hj
      · exact .inr ⟨p, h, p2, p3, p4⟩
  · intro p ha hl
    obtain ⟨q1, q2⟩ := v.ghost p ha hl
    refine ⟨q1, fun hp => ?_⟩
    rcases Nat.lt_or_ge p m with h | h
    · rw [hk _ (g.idn_lt ha h v.mle)]; exact q2 h
    · exact g.keep (show p + 1 ≤ j by omega) hj (fun q h1 h2 => hno q (by omega) h2) _ (by have := g.al_next ha; unfold Ctx.idn; omega)
  · exact v.adv.reheap (G := G') (by have := v.adv.next; exact this) (fun b L hL => v.adv.rel.dom b L hL) hsame
/-- Dependence, seen from the positions. -/
theorem Good.dep (g : Good X) {listed : Array Bool} (hc : Closed X.ops fun k => listed.getD k false = true) {p q op oq : Nat} (hop : X.order[p]? = some op) (hoq : X.order[q]? = some oq) (hd : Dep X.ops oq op) (hl : ∀ e ∈ edgesAt X.ops oq, listed.getD e false = true) : X.L listed p :=
  ⟨op, hop, hd _ hc hl⟩
theorem L_set {listed : Array Bool} (g : Good X) (hs : listed.size = X.n) {j k p : Nat} (hk : X.order[j]? = some k) : X.L (listed.setIfInBounds k true) p ↔ X.L listed p ∨ p = j := by
  have hkn : k < listed.size := by rw [hs]; exact g.facts.lt j k hk
  constructor
  · rintro ⟨k', h1, h2⟩
    by_cases e : k' = k
    · subst e; exact .inr (g.facts.inj p j k' h1 hk)
    · left; refine ⟨k', h1, ?_⟩
      rw [Array.getD_eq_getD_getElem?, Array.getElem?_setIfInBounds_ne (by omega)] at h2
      rw [Array.getD_eq_getD_getElem?]; exact h2
  · rintro (⟨k', h1, h2⟩ | rfl)
    · refine ⟨k', h1, ?_⟩
      rw [Array.getD_eq_getD_getElem?] at h2 ⊢
      by_cases e : k' = k
      · subst e; simp [Array.getElem?_setIfInBounds_self_of_lt hkn]
      · rw [Array.getElem?_setIfInBounds_ne (by omega)]; exact h2
    · exact ⟨k, hk, by simp [Array.getD_eq_getD_getElem?, Array.getElem?_setIfInBounds_self_of_lt hkn]⟩
/-- Two that share a slot (one writes it) stand in an order. -/
theorem apart_no {i j : Ir} (h : i.apart j = true) {t : Nat} : (i.dst = some t → t ∈ j.looks → False) ∧ (i.dst = some t → j.dst = some t → False) ∧ (j.dst = some t → t ∈ i.looks → False) := by
  unfold Ir.apart at h
  simp only [Bool.and_eq_true] at h
  obtain ⟨h1, h2⟩ := h
  refine ⟨fun e hm => ?_, fun e e2 => ?_, fun e hm => ?_⟩
  · rw [e] at h1; simp at h1; exact h1.1 hm
  · rw [e] at h1; simp at h1; exact h1.2 e2
  · rw [e] at h2; simp at h2; exact h2 hm
structure Ready (X : Ctx) (listed : Array Bool) (k j : Nat) (o : Oper) (i : Ir) : Prop where
  pos : X.order[j]? = some k
  op : X.ops[k]? = some o
  ir : X.is[j]? = some i
  code : cOper X.P X.ops o = some i
  free : ¬ X.L listed j
  edges : ∀ e ∈ edgesAt X.ops k, listed.getD e false = true
/-- What a ready one looks at is what it looked at in our own order. -/
theorem Inv.look (g : Good X) {listed : Array Bool} {m : Nat} {ρ : Rho} {G : Heap} {Y : Env} {a : Act} {w : World} (v : Inv X listed m ρ G Y a w) {k j : Nat} {o : Oper} {i : Ir} (r : Ready X listed k j o i) : ∀ t ∈ i.looks, Y t = X.E j t := by
  intro t ht
  refine v.xval t j (Nat.le_of_lt (g.lt_is r.ir)) fun q iq hq hdq => ?_
  obtain ⟨oq, hoq⟩ := g.order_lt (g.lt_is hq)
  rcases Nat.lt_trichotomy q j with h | h | h
  · refine ⟨fun _ => h, fun _ => ?_⟩
    rcases g.facts.pair q j oq k iq i h hoq r.pos hq r.ir with hd | ⟨ha, _⟩
    · exact g.dep v.closed hoq r.pos hd r.edges
    · exact ((apart_no ha).1 hdq ht).elim
  · subst h; exact ⟨fun hl => absurd hl r.free, fun h => by omega⟩
  · refine ⟨fun hl => ?_, fun h' => by omega⟩
    exfalso
    rcases g.facts.pair j q k oq i iq h r.pos hoq r.ir hq with hd | ⟨ha, _⟩
    · obtain ⟨oq', h1, h2⟩ := hl
      rw [hoq] at h1; cases h1
      exact r.free (g.dep v.closed r.pos hoq hd fun e he => v.closed oq h2 e he)
    · exact (apart_no ha).2.2 hdq ht
theorem E_const (g : Good X) {t r p : Nat} (hrp : r ≤ p) (hp : p ≤ X.n) (h : ∀ q i, r ≤ q → q < p → X.is[q]? = some i → i.dst ≠ some t) : X.E p t = X.E r t := by
  induction p with
  | zero => obtain rfl : r = 0 := by omega
            rfl
  | succ p ih =>
    rcases Nat.lt_or_ge r (p + 1) with hl | hl
    · rw [← ih (by omega) (by omega) fun q i h1 h2 => h q i h1 (by omega)]
      obtain ⟨i, hi⟩ := g.is_lt (show p < X.n by omega)
      have hd := h p i (by omega) (by omega) hi
      have ht := g.tr p i hi
      have hput : ∀ (x : Value) (e : Env), put i.dst x e t = e t := fun x e => by
        cases hdd : i.dst with
        | none => rfl
        | some d => simp only [put, upd]; rw [if_neg (fun e => hd (by rw [hdd, e]))]
      unfold stepIr at ht
      split at ht
      · split at ht
        · rename_i x H' hs
          have h3 : put i.dst x (X.E p) = X.E (p + 1) ∧ H' = X.Hp (p + 1) := by simpa using ht
          rw [← h3.1, hput]
        · cases ht
      · have h3 : put i.dst undef (X.E p) = X.E (p + 1) ∧ X.Hp p = X.Hp (p + 1) := by simpa using ht
        rw [← h3.1, hput]
    · obtain rfl : r = p + 1 := by omega
      rfl
/-- The slots after a ready one has run. -/
theorem Inv.xval' (g : Good X) {listed : Array Bool} {m : Nat} {ρ : Rho} {G : Heap} {Y : Env} {a : Act} {w : World} (v : Inv X listed m ρ G Y a w) {k j : Nat} {o : Oper} {i : Ir} (r : Ready X listed k j o i) {x : Value} (hx : X.E (j + 1) = put i.dst x (X.E j)) :
    ∀ t p, p ≤ X.n → (∀ q iq, X.is[q]? = some iq → iq.dst = some t → (X.L (listed.setIfInBounds k true) q ↔ q < p)) → put i.dst x Y t = X.E p t := by
  intro t p hp hq
  by_cases hd : i.dst = some t
  · have hjp : j < p := (hq j i r.ir hd).1 ((L_set g v.size r.pos).2 (.inr rfl))
    have h1 : put i.dst x Y t = x := by rw [hd]; simp [put, upd]
    have h2 : X.E (j + 1) t = x := by rw [hx, hd]; simp [put, upd]
    rw [h1, ← h2]
    refine (E_const g (by omega) hp fun q iq q1 q2 hiq hdq => ?_).symm
    have hl := (L_set g v.size r.pos).1 ((hq q iq hiq hdq).2 q2)
    rcases hl with hl | hl
    · obtain ⟨oq, hoq, hlq⟩ := hl
      rcases g.facts.pair j q k oq i iq (by omega) r.pos hoq r.ir hiq with hdd | ⟨ha, _⟩
      · exact r.free (g.dep v.closed r.pos hoq hdd fun e he => v.closed oq hlq e he)
      · exact (apart_no ha).2.1 hd hdq
    · omega
  · have h1 : put i.dst x Y t = Y t := by
      cases hdd : i.dst with
      | none => rfl
      | some d => simp only [put, upd]; rw [if_neg (fun e => hd (by rw [hdd, e]))]
    rw [h1]
    refine v.xval t p hp fun q iq hiq hdq => ?_
    rw [← hq q iq hiq hdq, L_set g v.size r.pos]
    constructor
    · intro h; exact .inl h
    · rintro (h | rfl)
      · exact h
      · rw [r.ir] at hiq; cases hiq; exact absurd hdq hd
theorem closed_set {listed : Array Bool} (hs : listed.size = X.n) (hc : Closed X.ops fun k => listed.getD k false = true) {k : Nat} (hk : k < X.n) (he : ∀ e ∈ edgesAt X.ops k, listed.getD e false = true) : Closed X.ops fun j => (listed.setIfInBounds k true).getD j false = true := by
  have up : ∀ e, listed.getD e false = true → (listed.setIfInBounds k true).getD e false = true := fun e h => by
    rw [Array.getD_eq_getD_getElem?] at h ⊢
    by_cases e1 : e = k
    · subst e1; simp [Array.getElem?_setIfInBounds_self_of_lt (show e < listed.size by omega)]
    · rw [Array.getElem?_setIfInBounds_ne (by omega)]; exact h
  intro j hj e hje
  by_cases e1 : j = k
  · subst e1; exact up e (he e hje)
  · have : listed.getD j false = true := by
      have hj' : (listed.setIfInBounds k true).getD j false = true := hj
      rw [Array.getD_eq_getD_getElem?, Array.getElem?_setIfInBounds_ne (by omega)] at hj'
      rw [Array.getD_eq_getD_getElem?]; exact hj'
    exact up e (hc j this e hje)
/-- A step that changes neither heap nor blocks. -/
theorem Inv.still (g : Good X) {listed : Array Bool} {m : Nat} {ρ : Rho} {G : Heap} {Y : Env} {a : Act} {w : World} (v : Inv X listed m ρ G Y a w) {k j : Nat} {o : Oper} {i : Ir} (r : Ready X listed k j o i) {x x' : Value} (hx : X.E (j + 1) = put i.dst x (X.E j)) (hv : V3 ρ x x')
    (hna : ¬ X.Al j) (he : isEff i.ins = false) : Inv X (listed.setIfInBounds k true) m ρ G (put i.dst x Y) (a.put i.dst x') w := by
  have hL := fun p => L_set (p := p) g v.size r.pos
  refine ⟨by simp [v.size], closed_set v.size v.closed (g.facts.lt j k r.pos) r.edges, v.mle, ?_, v.env.put hv (g.slots i (List.mem_of_getElem? r.ir)), v.xval' g r hx, v.gnext, v.g1, ?_, ?_, ?_, v.adv⟩
  · intro p ip hp hep
    rw [hL, ← v.eff p ip hp hep]
    constructor
    · rintro (h | rfl)
      · exact h
      · rw [r.ir] at hp; cases hp; rw [he] at hep; cases hep
    · exact .inl
  · intro p h1 h2 h3
    rcases (hL p).1 h2 with h | rfl
    · exact v.g2 p h1 h h3
    · exact absurd h3 hna
  · intro b L hL'
    rcases v.dom b L hL' with h | ⟨p, p1, p2, p3, p4⟩
    · exact .inl h
    · exact .inr ⟨p, p1, (hL p).2 (.inl p2), p3, p4⟩
  · intro p h1 h2
    exact v.ghost p h1 fun h => h2 ((hL p).2 (.inl h))
/-- A step that makes a block. -/
theorem Inv.made (g : Good X) {listed : Array Bool} {m : Nat} {ρ : Rho} {G : Heap} {Y : Env} {a : Act} {w w' : World} (v : Inv X listed m ρ G Y a w) {k j : Nat} {o : Oper} {i : Ir} (r : Ready X listed k j o i) {f : Nat → Value} {B : Blk} (ha : X.Al j)
    (hx : X.E (j + 1) = put i.dst (f (X.idn j)) (X.E j)) (hH : X.Hp (j + 1) = (X.Hp j).add B) {s : Sem Next} {v' : Value} {L : Loc} {c : Array Value} {t : TypeId} {fr : Nat × Nat} (hro : B.ro = false) (md : Made X.P w ρ s f B v' w' L c t fr) :
    ∃ ρ' G', Inv X (listed.setIfInBounds k true) m ρ' G' (put i.dst (f (X.idn j)) Y) (a.put i.dst v') w' := by
  have hL := fun p => L_set (p := p) g v.size r.pos
  obtain ⟨hfree, hgh⟩ := v.ghost j ha r.free
  have hjn := g.al_lt ha
  have hbase : (X.Hp 0).next ≤ X.idn j := g.next_le (Nat.zero_le j) (Nat.le_of_lt hjn)
  have hidn : X.idn j < (X.Hp X.n).next := g.idn_lt ha hjn (Nat.le_refl _)
  let G' : Heap := { next := G.next, blk := fun b => if b = X.idn j then some B else G.blk b }
  have hB : (X.Hp (j + 1)).blk (X.idn j) = some B := by rw [hH]; simp [Heap.add, Ctx.idn]
  have adv : Adv (X.Hp 0).next ρ G w (rset ρ (X.idn j) L) G' w' :=
    Adv.alloc (H' := G') v.adv.rel (X.idn j) hfree hbase (by show X.idn j < G.next; rw [v.gnext]; exact hidn) (Nat.le_refl _) B (by simp [G']) (fun b hb => by simp [G', hb]) L c t fr md.heap md.blk md.size md.esz md.fr md.cells md.os md.tape md.output
  have heff : isEff i.ins = false := by
    obtain ⟨i', hi', h1, _⟩ := ha
    rw [r.ir] at hi'; cases hi'
    cases hii : i.ins <;> rw [hii] at h1 <;> simp [isAl] at h1 <;> rfl
  refine ⟨rset ρ (X.idn j) L, G', by simp [v.size], closed_set v.size v.closed (g.facts.lt j k r.pos) r.edges, v.mle, ?_, (v.env.mono adv.ext).put (md.val _ _ (by simp [rset])) (g.slots i (List.mem_of_getElem? r.ir)), v.xval' g r hx, v.gnext, ?_, ?_, ?_, ?_, v.adv.trans adv⟩
  · intro p ip hp hep
    rw [hL, ← v.eff p ip hp hep]
    constructor
    · rintro (h | rfl)
      · exact h
      · rw [r.ir] at hp; cases hp; rw [heff] at hep; cases hep
    · exact .inl
  · intro b hb
    show (if b = X.idn j then some B else G.blk b) = _
    by_cases e : b = X.idn j
    · rw [if_pos e, e, hgh ?_, hB]
      rcases Nat.lt_or_ge j m with h | h
      · exact h
      · have := g.next_le h (Nat.le_of_lt hjn); rw [e] at hb; unfold Ctx.idn at hb; omega
    · rw [if_neg e]; exact v.g1 b hb
  · intro p h1 h2 h3
    show (if X.idn p = X.idn j then some B else G.blk (X.idn p)) = _
    by_cases e : X.idn p = X.idn j
    · obtain rfl := g.idn_inj h3 ha e
      rw [if_pos rfl, hB]
    · rw [if_neg e]
      rcases (hL p).1 h2 with h | rfl
      · exact v.g2 p h1 h h3
      · exact absurd rfl e
  · intro b M hM
    unfold rset at hM
    by_cases e : b = X.idn j
    · rcases Nat.lt_or_ge j m with h | h
      · left; rw [e]; exact g.idn_lt ha h v.mle
      · exact .inr ⟨j, h, (hL j).2 (.inr rfl), ha, e⟩
    · rw [if_neg e] at hM
      rcases v.dom b M hM with h | ⟨p, p1, p2, p3, p4⟩
      · exact .inl h
      · exact .inr ⟨p, p1, (hL p).2 (.inl p2), p3, p4⟩
  · intro p h1 h2
    have hnj : p ≠ j := fun e => h2 ((hL p).2 (.inr e))
    have hne : X.idn p ≠ X.idn j := fun e => hnj (g.idn_inj h1 ha e)
    obtain ⟨q1, q2⟩ := v.ghost p h1 fun h => h2 ((hL p).2 (.inl h))
    exact ⟨by unfold rset; rw [if_neg hne]; exact q1, q2⟩
/-- An effect: all that stands behind it in our order waits for it. -/
theorem Inv.effect (g : Good X) {listed : Array Bool} {ρ ρ' : Rho} {G : Heap} {Y : Env} {a : Act} {w w' : World} {k j : Nat} (v : Inv X listed j ρ G Y a w) {o : Oper} {i : Ir} (r : Ready X listed k j o i) {x x' : Value} (hx : X.E (j + 1) = put i.dst x (X.E j)) (he : isEff i.ins = true)
    (hv : V3 ρ' x x') (adv : Adv (X.Hp j).next ρ (X.Hp j) w ρ' (X.Hp (j + 1)) w') : ∃ G', Inv X (listed.setIfInBounds k true) (j + 1) ρ' G' (put i.dst x Y) (a.put i.dst x') w' := by
  have hL := fun p => L_set (p := p) g v.size r.pos
  have hjn := g.lt_is r.ir
  have hna : ¬ X.Al j := fun ⟨i', hi', h1, _⟩ => by
    rw [r.ir] at hi'; cases hi'
    cases hii : i.ins <;> rw [hii] at h1 he <;> simp [isAl, isEff] at h1 he
  -- nothing behind it is listed
  have later : ∀ p, j < p → ¬ X.L listed p := fun p hp hl => by
    obtain ⟨op, hop, hlp⟩ := hl
    have hpn : p < X.n := by have := (List.getElem?_eq_some_iff.1 hop).1; rw [g.facts.len] at this; exact this
    obtain ⟨ip, hip⟩ := g.is_lt hpn
    rcases g.facts.pair j p k op i ip hp r.pos hop r.ir hip with hd | ⟨_, h2, _⟩
    · exact r.free (g.dep v.closed r.pos hop hd fun e he => v.closed op hlp e he)
    · rw [he] at h2; cases h2
  have hdom : ∀ b L, ρ b = some L → b < (X.Hp j).next := fun b L hL' => by
    rcases v.dom b L hL' with h | ⟨p, p1, p2, p3, p4⟩
    · exact h
    · rcases Nat.lt_or_ge j p with h | h
      · exact absurd p2 (later p h)
      · obtain rfl : p = j := by omega
        exact absurd p3 hna
  have hle := g.next_le (Nat.zero_le j) (Nat.le_of_lt hjn)
  let G' : Heap := { next := (X.Hp X.n).next, blk := (X.Hp (j + 1)).blk }
  have hn1 := g.next_le (show j + 1 ≤ X.n by omega) (Nat.le_refl _)
  have a1 : Adv (X.Hp 0).next ρ (X.Hp j) w ρ' G' w' := (adv.base hle).reheap (G := G') (by have := g.next1 hjn; show _ ≤ (X.Hp X.n).next; omega) (fun b L h => by have := adv.rel.dom b L h; show b < (X.Hp X.n).next; omega) (fun b _ => rfl)
  have a2 : Adv (X.Hp 0).next ρ G w ρ' G' w' := a1.src (by rw [v.gnext]; exact Nat.le_refl _) fun b hb => v.g1 b (by
    rcases hb with ⟨L, h⟩ | h
    · exact hdom b L h
    · omega)
  refine ⟨G', by simp [v.size], closed_set v.size v.closed (g.facts.lt j k r.pos) r.edges, by omega, ?_, (v.env.mono adv.ext).put hv (g.slots i (List.mem_of_getElem? r.ir)), v.xval' g r hx, rfl, fun b _ => rfl, ?_, ?_, ?_, v.adv.trans a2⟩
  · intro p ip hp hep
    rw [hL, v.eff p ip hp hep]
    constructor
    · rintro (h | rfl) <;> omega
    · intro h; omega
  · intro p h1 h2 h3
    rcases (hL p).1 h2 with h | rfl
    · exact absurd h (later p (by omega))
    · omega
  · intro b L hL'
    exact .inl (adv.rel.dom b L hL')
  · intro p h1 h2
    have hnj : p ≠ j := fun e => h2 ((hL p).2 (.inr e))
    obtain ⟨q1, q2⟩ := v.ghost p h1 fun h => h2 ((hL p).2 (.inl h))
    rcases Nat.lt_or_ge p j with h | h
    · obtain ⟨s1, s2⟩ := adv.ghost (X.idn p) (g.idn_lt h1 h (Nat.le_of_lt hjn)) q1
      exact ⟨s1, fun _ => s2.trans (q2 h)⟩
    · have hpj : j < p := by omega
      refine ⟨?_, fun h' => by omega⟩
      cases hr : ρ' (X.idn p) with
      | none => rfl
      | some L =>
        have := adv.rel.dom _ L hr
        have h5 := g.next_le (show j + 1 ≤ p by omega) (Nat.le_of_lt (g.al_lt h1))
        unfold Ctx.idn at this; omega
/-- A reader reads where things stand what it read in our own order. -/
theorem Inv.reads (g : Good X) {listed : Array Bool} {m : Nat} {ρ : Rho} {G : Heap} {Y : Env} {a : Act} {w : World} (v : Inv X listed m ρ G Y a w) {k j : Nat} {o : Oper} {i : Ir} (r : Ready X listed k j o i) {x : Value} (h1 : isAl i.ins = false) (h2 : isEff i.ins = false) (hw : wanted i (X.E j) = true)
    (hs : step X.P X.C i.ins (X.E j) (X.Hp j) = some (x, X.Hp j)) (hjm : j ≤ m) (hdomr : ∀ b, rdBlk i.ins (X.E j) = some b → ∃ L, ρ b = some L) : step X.P X.C i.ins Y G = some (x, G) := by
  have hlook := v.look g r
  rw [step_congr (e := Y) (e' := X.E j) fun t ht => hlook t (by simp [Ir.looks, ht])]
  -- the last effect between j and m
  have key : ∃ q, q ≤ m ∧ j ≤ q ∧ X.NoEff q m ∧ ∃ H', step X.P (fun _ _ _ => none) i.ins (X.E j) (X.Hp q) = some (x, H') := by
    have base : step X.P (fun _ _ _ => none) i.ins (X.E j) (X.Hp j) = some (x, X.Hp j) := rd_agree h1 h2 hs fun b _ _ => rfl
    have ind : ∀ d, ∀ q, q + d = m → j ≤ q → X.NoEff q m → ∃ q, q ≤ m ∧ j ≤ q ∧ X.NoEff q m ∧ ∃ H', step X.P (fun _ _ _ => none) i.ins (X.E j) (X.Hp q) = some (x, H') := by
      intro d
      intro q hq hjq hno
      clear hq d
      induction q with
      | zero => obtain rfl : j = 0 := by omega
                exact ⟨0, by omega, Nat.le_refl _, hno, _, base⟩
      | succ q ih =>
        rcases Nat.lt_or_ge j (q + 1) with hl | hl
        · by_cases hqm : q < m
          · obtain ⟨iq, hiq⟩ := g.is_lt (show q < X.n by have := v.mle; omega)
            by_cases heq : isEff iq.ins = true
            · have hne : q ≠ j := fun e => by subst e; rw [r.ir] at hiq; cases hiq; rw [h2] at heq; cases heq
              have hlq : X.L listed q := (v.eff q iq hiq heq).2 hqm
              obtain ⟨oq, hoq, hlo⟩ := hlq
              rcases g.facts.pair j q k oq i iq (by omega) r.pos hoq r.ir hiq with hd | ⟨_, _, hch⟩
              · exact absurd (g.dep v.closed r.pos hoq hd fun e he => v.closed oq hlo e he) r.free
              · by_cases hrd : isRd i.ins = true
                · have hc := g.chk j q (hch hrd heq) i r.ir hw
                  rw [base] at hc
                  cases hst : step X.P (fun _ _ _ => none) i.ins (X.E j) (X.Hp (q + 1)) with
                  | none => rw [hst] at hc; cases hc
                  | some p =>
                    rw [hst] at hc
                    simp only [Option.map_some, Option.some.injEq] at hc
                    obtain ⟨px, pH⟩ := p
                    simp only at hc
                    subst hc
                    exact ⟨q + 1, by omega, by omega, hno, pH, hst⟩
                · -- it reads nothing
                  have hnb : rdBlk i.ins (X.E j) = none := by
                    cases hii : i.ins <;> rw [hii] at hrd <;> simp [isRd] at hrd <;> rfl
                  exact ⟨q + 1, by omega, by omega, hno, _, rd_agree h1 h2 base fun b hb _ => by rw [hnb] at hb; cases hb⟩
            · exact ih (by omega) fun q' s1 s2 => by
                rcases Nat.lt_or_ge q q' with h | h
                · exact hno q' (by omega) s2
                · obtain rfl : q' = q := by omega
                  intro i' hi'
                  rw [hiq] at hi'; cases hi'
                  simpa using heq
          · exact ih (by omega) fun q' s1 s2 => by omega
        · obtain rfl : j = q + 1 := by omega
          by_cases hjm' : q + 1 ≤ m
          · exact ⟨q + 1, hjm', Nat.le_refl _, hno, _, base⟩
          · omega
    exact ind 0 m (by omega) hjm fun q s1 s2 => by omega
  obtain ⟨q, q1, q2, q3, H', q4⟩ := key
  refine rd_agree h1 h2 q4 fun b hb hne => ?_
  obtain ⟨L, hL⟩ := hdomr b hb
  have hqn : q ≤ X.n := by have := v.mle; omega
  have hbq : b < (X.Hp q).next := by
    rcases Nat.lt_or_ge b (X.Hp q).next with h | h
    · exact h
    · exact absurd (g.hwp q hqn b h) hne
  rw [v.g1 b (by have := g.next_le q1 v.mle; omega)]
  exact g.keep q1 v.mle q3 b hbq
end
end Go.AM
