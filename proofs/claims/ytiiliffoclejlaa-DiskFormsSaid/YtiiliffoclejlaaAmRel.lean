/- AM: how the abstract memory stands to the model's. -/
import Derived.Test.YtiiliffoclejlaaAmLim
import Derived.Test.YtiiliffoclejlaaAmComp
namespace Go.AM
set_option linter.unusedVariables false
set_option linter.unusedSimpArgs false

/-! ### lists in pairs -/
def All2 {α β : Type} (R : α → β → Prop) : List α → List β → Prop
  | [], [] => True
  | a :: as, b :: bs => R a b ∧ All2 R as bs
  | _, _ => False
section
variable {α β : Type} {R : α → β → Prop}
theorem All2.length : ∀ {as : List α} {bs : List β}, All2 R as bs → as.length = bs.length
  | [], [], _ => rfl
  | _ :: _, _ :: _, h => by simp [h.2.length]
theorem All2.mono {S : α → β → Prop} (hRS : ∀ a b, R a b → S a b) : ∀ {as : List α} {bs : List β}, All2 R as bs → All2 S as bs
  | [], [], _ => trivial
  | _ :: _, _ :: _, h => ⟨hRS _ _ h.1, h.2.mono hRS⟩
theorem All2.get : ∀ {as : List α} {bs : List β}, All2 R as bs → ∀ {i : Nat} {a : α}, as[i]? = some a → ∃ b, bs[i]? = some b ∧ R a b
  | [], [], _, i, a, h => by simp at h
  | x :: as, y :: bs, h, 0, a, ha => by simp at ha; subst ha; exact ⟨y, rfl, h.1⟩
  | x :: as, y :: bs, h, i + 1, a, ha => by simpa using h.2.get (i := i) (by simpa using ha)
theorem All2.of_get : ∀ {as : List α} {bs : List β}, as.length = bs.length → (∀ (i : Nat) (a : α) (b : β), as[i]? = some a → bs[i]? = some b → R a b) → All2 R as bs
  | [], [], _, _ => trivial
  | [], _ :: _, h, _ => by simp at h
  | _ :: _, [], h, _ => by simp at h
  | a :: as, b :: bs, h, hg => ⟨hg 0 a b rfl rfl, All2.of_get (by simpa using h) fun i x y hx hy => hg (i + 1) x y (by simpa using hx) (by simpa using hy)⟩
theorem All2.append : ∀ {as as' : List α} {bs bs' : List β}, All2 R as bs → All2 R as' bs' → All2 R (as ++ as') (bs ++ bs')
  | [], _, [], _, _, h => h
  | _ :: _, _, _ :: _, _, h, h' => ⟨h.1, h.2.append h'⟩
theorem All2.take : ∀ {as : List α} {bs : List β} (n : Nat), All2 R as bs → All2 R (as.take n) (bs.take n)
  | [], [], _, _ => by simp [All2]
  | _ :: _, _ :: _, 0, _ => by simp [All2]
  | _ :: _, _ :: _, n + 1, h => ⟨h.1, h.2.take n⟩
theorem All2.drop : ∀ {as : List α} {bs : List β} (n : Nat), All2 R as bs → All2 R (as.drop n) (bs.drop n)
  | [], [], _, _ => by simp [All2]
  | _ :: _, _ :: _, 0, h => h
  | _ :: _, _ :: _, n + 1, h => by simpa using h.2.drop n
theorem All2.nil_left {bs : List β} (h : All2 R [] bs) : bs = [] := by cases bs <;> first | rfl | exact h.elim
theorem All2.cons_left {a : α} {as : List α} {bs : List β} (h : All2 R (a :: as) bs) : ∃ b bs', bs = b :: bs' ∧ R a b ∧ All2 R as bs' := by
  cases bs with
  | nil => exact h.elim
  | cons b bs => exact ⟨b, bs, rfl, h.1, h.2⟩
theorem All2.refl {R : α → α → Prop} : ∀ {as : List α}, (∀ a ∈ as, R a a) → All2 R as as
  | [], _ => trivial
  | a :: as, h => ⟨h a (by simp), All2.refl fun x hx => h x (by simp [hx])⟩
theorem All2.eq_of : ∀ {as bs : List α} {R : α → α → Prop}, All2 R as bs → (∀ a b, a ∈ as → R a b → b = a) → bs = as
  | [], [], _, _, _ => rfl
  | a :: as, b :: bs, R, h, he => by rw [he a b (by simp) h.1, h.2.eq_of fun x y hx => he x y (by simp [hx])]
theorem All2.map_left {γ : Type} {f : γ → α} : ∀ {cs : List γ} {bs : List β}, All2 (fun c b => R (f c) b) cs bs → All2 R (cs.map f) bs
  | [], [], _ => trivial
  | _ :: _, _ :: _, h => ⟨h.1, h.2.map_left⟩
theorem All2.map_both {γ δ : Type} {f : γ → α} {g : δ → β} : ∀ {cs : List γ} {ds : List δ}, All2 (fun c d => R (f c) (g d)) cs ds → All2 R (cs.map f) (ds.map g)
  | [], [], _ => trivial
  | _ :: _, _ :: _, h => ⟨h.1, h.2.map_both⟩
end

/-! ### values -/
structure Loc where
  blk : Nat
  size : Nat
  esz : Nat
  shift : Nat
abbrev Rho := Nat → Option Loc
def V0 (ρ : Rho) : Value → Value → Prop
  | .pointer (some a), v' => ∃ L, ρ a.block = some L ∧ a.spot = none ∧ v' = .pointer (some ⟨L.blk, a.off + L.shift, none⟩)
  | .slice (some a) n c, v' => ∃ L o' c', ρ a.block = some L ∧ a.spot = none ∧ v' = .slice (some ⟨L.blk, o', none⟩) n c' ∧
      n ≤ c / 2 ∧ c / 2 ≤ c' ∧ (c % 2 = 1 → c' = c / 2) ∧ (0 < c / 2 → o' = a.off + L.shift) ∧ o' + c' * L.esz ≤ L.size
  | v, v' => flat1 v = true ∧ v' = v
def V1 (ρ : Rho) : Value → Value → Prop
  | .func fn first cap, v' => (∃ f, fn = .func f) ∧ first = #[] ∧ ∃ cap', v' = .func fn #[] cap' ∧ All2 (V0 ρ) cap.toList cap'.toList
  | v, v' => V0 ρ v v'
def V2 (ρ : Rho) : Value → Value → Prop
  | .agg cs, v' => ∃ cs', v' = .agg cs' ∧ All2 (V1 ρ) cs.toList cs'.toList
  | v, v' => V1 ρ v v'
def V3 (ρ : Rho) : Value → Value → Prop
  | .tuple vs, v' => ∃ vs', v' = .tuple vs' ∧ All2 (V2 ρ) vs.toList vs'.toList
  | v, v' => V2 ρ v v'
def RhoLe (ρ ρ' : Rho) : Prop := ∀ b L, ρ b = some L → ρ' b = some L
theorem RhoLe.refl (ρ : Rho) : RhoLe ρ ρ := fun _ _ h => h
theorem RhoLe.trans {a b c : Rho} (h : RhoLe a b) (h' : RhoLe b c) : RhoLe a c := fun x L hx => h' x L (h x L hx)
theorem V0.mono {ρ ρ' : Rho} (h : RhoLe ρ ρ') {v v' : Value} (hv : V0 ρ v v') : V0 ρ' v v' := by
  cases v
  case pointer a =>
    cases a with
    | none => exact hv
    | some a => obtain ⟨L, h1, h2⟩ := hv; exact ⟨L, h _ _ h1, h2⟩
  case slice a n c =>
    cases a with
    | none => exact hv
    | some a => obtain ⟨L, o', c', h1, h2⟩ := hv; exact ⟨L, o', c', h _ _ h1, h2⟩
  all_goals exact hv
theorem V1.mono {ρ ρ' : Rho} (h : RhoLe ρ ρ') {v v' : Value} (hv : V1 ρ v v') : V1 ρ' v v' := by
  cases v
  case func fn first cap => obtain ⟨h1, h2, cap', h3, h4⟩ := hv; exact ⟨h1, h2, cap', h3, h4.mono fun _ _ => V0.mono h⟩
  case pointer a => exact V0.mono (v := .pointer a) h hv
  case slice a n c => exact V0.mono (v := .slice a n c) h hv
  all_goals exact hv
theorem V2.mono {ρ ρ' : Rho} (h : RhoLe ρ ρ') {v v' : Value} (hv : V2 ρ v v') : V2 ρ' v v' := by
  cases v
  case agg cs => obtain ⟨cs', h1, h2⟩ := hv; exact ⟨cs', h1, h2.mono fun _ _ => V1.mono h⟩
  case pointer a => exact V1.mono (v := .pointer a) h hv
  case slice a n c => exact V1.mono (v := .slice a n c) h hv
  case func fn first cap => exact V1.mono (v := .func fn first cap) h hv
  all_goals exact hv
theorem V3.mono {ρ ρ' : Rho} (h : RhoLe ρ ρ') {v v' : Value} (hv : V3 ρ v v') : V3 ρ' v v' := by
  cases v
  case tuple cs => obtain ⟨cs', h1, h2⟩ := hv; exact ⟨cs', h1, h2.mono fun _ _ => V2.mono h⟩
  case pointer a => exact V2.mono (v := .pointer a) h hv
  case slice a n c => exact V2.mono (v := .slice a n c) h hv
  case func fn first cap => exact V2.mono (v := .func fn first cap) h hv
  case agg cs => exact V2.mono (v := .agg cs) h hv
  all_goals exact hv

theorem arr_nil {α : Type} {a : Array α} (h : a.size = 0) : a = #[] := Array.eq_empty_of_size_eq_zero h
theorem V0.of_flat {ρ : Rho} {v : Value} (h : flat1 v = true) : V0 ρ v v := by
  cases v
  case pointer a => cases a <;> first | exact ⟨h, rfl⟩ | cases h
  case slice a n c => cases a <;> first | exact ⟨h, rfl⟩ | cases h
  all_goals exact ⟨h, rfl⟩
theorem V1.of_flat {ρ : Rho} {v : Value} (h : flat1 v = true) : V1 ρ v v := by
  cases v
  case func fn first cap =>
    cases fn <;> simp [flat1] at h
    obtain ⟨rfl, rfl⟩ := h
    exact ⟨⟨_, rfl⟩, rfl, #[], rfl, trivial⟩
  case pointer a => exact V0.of_flat (v := .pointer a) h
  case slice a n c => exact V0.of_flat (v := .slice a n c) h
  all_goals exact ⟨h, rfl⟩
theorem V2.of_flat {ρ : Rho} {v : Value} (h : flat2 v = true) : V2 ρ v v := by
  cases v
  case agg cs => exact ⟨cs, rfl, All2.refl fun a ha => V1.of_flat (List.all_eq_true.1 (show cs.toList.all flat1 = true from h) a ha)⟩
  case pointer a => exact V1.of_flat (v := .pointer a) h
  case slice a n c => exact V1.of_flat (v := .slice a n c) h
  case func fn first cap => exact V1.of_flat (v := .func fn first cap) h
  all_goals exact ⟨h, rfl⟩
theorem V3.of_flat {ρ : Rho} {v : Value} (h : flat v = true) : V3 ρ v v := by
  cases v
  case tuple cs => exact ⟨cs, rfl, All2.refl fun a ha => V2.of_flat (List.all_eq_true.1 (show cs.toList.all flat2 = true from h) a ha)⟩
  case pointer a => exact V2.of_flat (v := .pointer a) h
  case slice a n c => exact V2.of_flat (v := .slice a n c) h
  case func fn first cap => exact V2.of_flat (v := .func fn first cap) h
  case agg cs => exact V2.of_flat (v := .agg cs) h
  all_goals exact ⟨h, rfl⟩
theorem V1.flat {ρ : Rho} {v v' : Value} (h : flat1 v = true) (hv : V1 ρ v v') : v' = v := by
  cases v
  case func fn first cap =>
    obtain ⟨_, rfl, cap', rfl, h4⟩ := hv
    cases fn <;> simp [flat1] at h
    subst h
    have := h4.nil_left
    rw [show cap' = #[] from by cases cap'; simp_all]
  case pointer a => cases a <;> first | exact hv.2 | cases h
  case slice a n c => cases a <;> first | exact hv.2 | cases h
  all_goals exact hv.2
theorem V2.flat {ρ : Rho} {v v' : Value} (h : flat2 v = true) (hv : V2 ρ v v') : v' = v := by
  cases v
  case agg cs =>
    obtain ⟨cs', rfl, h2⟩ := hv
    have := h2.eq_of fun a b ha hr => V1.flat (List.all_eq_true.1 (show cs.toList.all flat1 = true from h) a ha) hr
    rw [show cs' = cs from by cases cs; cases cs'; simp_all]
  case pointer a => exact V1.flat (v := .pointer a) h hv
  case slice a n c => exact V1.flat (v := .slice a n c) h hv
  case func fn first cap => exact V1.flat (v := .func fn first cap) h hv
  all_goals exact hv.2
theorem V3.flat {ρ : Rho} {v v' : Value} (h : AM.flat v = true) (hv : V3 ρ v v') : v' = v := by
  cases v
  case tuple cs =>
    obtain ⟨cs', rfl, h2⟩ := hv
    have := h2.eq_of fun a b ha hr => V2.flat (List.all_eq_true.1 (show cs.toList.all flat2 = true from h) a ha) hr
    rw [show cs' = cs from by cases cs; cases cs'; simp_all]
  case pointer a => exact V2.flat (v := .pointer a) h hv
  case slice a n c => exact V2.flat (v := .slice a n c) h hv
  case func fn first cap => exact V2.flat (v := .func fn first cap) h hv
  case agg cs => exact V2.flat (v := .agg cs) h hv
  all_goals exact hv.2
theorem V3.undef {ρ : Rho} : V3 ρ undef undef := ⟨#[], rfl, trivial⟩
/-- The cells of a value stand in pairs. -/
theorem V2.cells {ρ : Rho} {v v' : Value} (hv : V2 ρ v v') : All2 (V1 ρ) v.cells.toList v'.cells.toList := by
  cases v
  case agg cs => obtain ⟨cs', rfl, h2⟩ := hv; exact h2
  case func fn first cap => have h := hv; obtain ⟨_, _, cap', rfl, _⟩ := h; exact ⟨hv, trivial⟩
  case pointer a =>
    cases a with
    | none => have h := hv; obtain ⟨_, rfl⟩ := h; exact ⟨hv, trivial⟩
    | some a => have h := hv; obtain ⟨L, _, _, rfl⟩ := h; exact ⟨hv, trivial⟩
  case slice a n c =>
    cases a with
    | none => have h := hv; obtain ⟨_, rfl⟩ := h; exact ⟨hv, trivial⟩
    | some a => have h := hv; obtain ⟨L, _, _, _, _, rfl, _⟩ := h; exact ⟨hv, trivial⟩
  all_goals (have h := hv; obtain ⟨_, rfl⟩ := h; exact ⟨hv, trivial⟩)
theorem V3.two {ρ : Rho} {v v' : Value} (hv : V3 ρ v v') (h : ∀ vs, v ≠ .tuple vs) : V2 ρ v v' := by
  cases v
  case tuple vs => exact absurd rfl (h vs)
  all_goals exact hv
theorem V2.three {ρ : Rho} {v v' : Value} (hv : V2 ρ v v') : V3 ρ v v' := by
  cases v
  case tuple vs => exact absurd hv.1 (by simp [flat1])
  all_goals exact hv
theorem V1.two {ρ : Rho} {v v' : Value} (hv : V1 ρ v v') : V2 ρ v v' := by
  cases v
  case agg vs => exact absurd hv.1 (by simp [flat1])
  all_goals exact hv
theorem V0.one {ρ : Rho} {v v' : Value} (hv : V0 ρ v v') : V1 ρ v v' := by
  cases v
  case func fn first cap =>
    obtain ⟨h, rfl⟩ := hv
    exact V1.of_flat h
  all_goals exact hv
theorem V1.oneCell {ρ : Rho} {v v' : Value} (hv : V1 ρ v v') : v.oneCell' = true ∧ v'.oneCell' = true := by
  cases v
  case func fn first cap => obtain ⟨_, _, cap', rfl, _⟩ := hv; exact ⟨rfl, rfl⟩
  case pointer a =>
    cases a with
    | none => obtain ⟨_, rfl⟩ := hv; exact ⟨rfl, rfl⟩
    | some a => obtain ⟨L, _, _, rfl⟩ := hv; exact ⟨rfl, rfl⟩
  case slice a n c =>
    cases a with
    | none => obtain ⟨_, rfl⟩ := hv; exact ⟨rfl, rfl⟩
    | some a => obtain ⟨L, _, _, _, _, rfl, _⟩ := hv; exact ⟨rfl, rfl⟩
  case agg cs => exact absurd hv.1 (by simp [flat1])
  case tuple cs => exact absurd hv.1 (by simp [flat1])
  all_goals (obtain ⟨_, rfl⟩ := hv; exact ⟨rfl, rfl⟩)

/-! ### memory -/
/-- Nothing stands past the next block. -/
def Hw (H : Heap) : Prop := ∀ b, H.next ≤ b → H.blk b = none
structure RelH (ρ : Rho) (H : Heap) (w : World) : Prop where
  dom : ∀ b L, ρ b = some L → b < H.next
  blk : ∀ b L B, ρ b = some L → H.blk b = some B → ∃ c t fr, w.heap[L.blk]? = some (.cells c t fr) ∧ c.size = L.size ∧ L.esz = B.esz ∧
    (B.ro = false → fr.2 ≤ fr.1 ∨ c.size ≤ fr.1) ∧ ∀ o v, B.at_ o = some v → ∃ v', c[o + L.shift]? = some v' ∧ V1 ρ v v'
  inj : ∀ b1 b2 L1 L2 B1 B2, ρ b1 = some L1 → ρ b2 = some L2 → H.blk b1 = some B1 → H.blk b2 = some B2 → B1.ro = false → L1.blk = L2.blk → b1 = b2
/-- From one state to another. Blocks below 'base' that stand for nothing stay so. -/
structure Adv (base : Nat) (ρ : Rho) (H : Heap) (w : World) (ρ' : Rho) (H' : Heap) (w' : World) : Prop where
  ext : RhoLe ρ ρ'
  rel : RelH ρ' H' w'
  os : w'.os = w.os
  tape : w'.tape = w.tape
  output : w'.output = w.output
  size : w.heap.size ≤ w'.heap.size
  keep : ∀ cb, cb < w.heap.size → (∀ b L B, ρ b = some L → H.blk b = some B → B.ro = false → L.blk ≠ cb) → w'.heap[cb]? = w.heap[cb]?
  ghost : ∀ b, b < base → ρ b = none → ρ' b = none ∧ H'.blk b = H.blk b
  fresh : ∀ b L, ρ b = none → ρ' b = some L → base ≤ b ∧ (w.heap.size ≤ L.blk ∨ ∃ b0 L0 B0, ρ b0 = some L0 ∧ H.blk b0 = some B0 ∧ B0.ro = false ∧ L0.blk = L.blk)
  next : H.next ≤ H'.next
  back : ∀ b L B', ρ b = some L → H'.blk b = some B' → ∃ B, H.blk b = some B ∧ B.ro = B'.ro ∧ B.esz = B'.esz
theorem Adv.refl {base : Nat} {ρ : Rho} {H : Heap} {w : World} (h : RelH ρ H w) : Adv base ρ H w ρ H w where
  ext := RhoLe.refl _
  rel := h
  os := rfl
  tape := rfl
  output := rfl
  size := Nat.le_refl _
  keep := fun _ _ _ => rfl
  ghost := fun _ _ h => ⟨h, rfl⟩
  fresh := fun b L h h' => by rw [h] at h'; cases h'
  next := Nat.le_refl _
  back := fun b L B' _ h => ⟨B', h, rfl, rfl⟩
theorem Adv.trans {base : Nat} {ρ ρ1 ρ2 : Rho} {H H1 H2 : Heap} {w w1 w2 : World} (a : Adv base ρ H w ρ1 H1 w1) (b : Adv base ρ1 H1 w1 ρ2 H2 w2) : Adv base ρ H w ρ2 H2 w2 where
  ext := a.ext.trans b.ext
  rel := b.rel
  os := b.os.trans a.os
  tape := b.tape.trans a.tape
  output := b.output.trans a.output
  size := Nat.le_trans a.size b.size
  keep := fun cb hcb hno => by
    rw [b.keep cb (Nat.lt_of_lt_of_le hcb a.size) ?_, a.keep cb hcb hno]
    intro k L B hk hB hro heq
    cases h0 : ρ k with
    | some L0 =>
      have := a.ext k L0 h0
      rw [hk] at this; cases this
      obtain ⟨B0, hB0, hr, _⟩ := a.back k L B h0 hB
      exact hno k L B0 h0 hB0 (hr.trans hro) heq
    | none =>
      obtain ⟨_, h | ⟨b0, L0, B0, h1, h2, h3, h4⟩⟩ := a.fresh k L h0 hk
      · omega
      · exact hno b0 L0 B0 h1 h2 h3 (h4.trans heq)
  ghost := fun k hk h0 => by
    obtain ⟨h1, h2⟩ := a.ghost k hk h0
    obtain ⟨h3, h4⟩ := b.ghost k hk h1
    exact ⟨h3, h4.trans h2⟩
  fresh := fun k L h0 h2 => by
    cases h1 : ρ1 k with
    | some L1 =>
      have := b.ext k L1 h1
      rw [h2] at this; cases this
      exact a.fresh k L h0 h1
    | none =>
      obtain ⟨hb, h | ⟨b0, L0, B0, g1, g2, g3, g4⟩⟩ := b.fresh k L h1 h2
      · exact ⟨hb, .inl (Nat.le_trans a.size h)⟩
      · refine ⟨hb, ?_⟩
        cases h00 : ρ b0 with
        | some L00 =>
          have := a.ext b0 L00 h00
          rw [g1] at this; cases this
          obtain ⟨B00, hB0, hr, _⟩ := a.back b0 L0 B0 h00 g2
          exact .inr ⟨b0, L0, B00, h00, hB0, hr.trans g3, g4⟩
        | none =>
          obtain ⟨_, h | ⟨b1, L1, B1, f1, f2, f3, f4⟩⟩ := a.fresh b0 L0 h00 g1
          · exact .inl (by omega)
          · exact .inr ⟨b1, L1, B1, f1, f2, f3, f4.trans g4⟩
  next := Nat.le_trans a.next b.next
  back := fun k L B2 hk hB => by
    obtain ⟨B1, h1, hr, he⟩ := b.back k L B2 (a.ext k L hk) hB
    obtain ⟨B0, h0, hr', he'⟩ := a.back k L B1 hk h1
    exact ⟨B0, h0, hr'.trans hr, he'.trans he⟩
theorem Adv.base {base base' : Nat} {ρ ρ' : Rho} {H H' : Heap} {w w' : World} (a : Adv base' ρ H w ρ' H' w') (h : base ≤ base') : Adv base ρ H w ρ' H' w' :=
  { a with ghost := fun b hb => a.ghost b (by omega), fresh := fun b L h0 h1 => let ⟨p, q⟩ := a.fresh b L h0 h1; ⟨by omega, q⟩ }
/-- A world with the same heap. -/
theorem RelH.same {ρ : Rho} {H : Heap} {w w' : World} (h : RelH ρ H w) (e : w'.heap = w.heap) : RelH ρ H w' :=
  ⟨h.dom, fun b L B hb hB => by rw [e]; exact h.blk b L B hb hB, h.inj⟩
theorem Adv.same {base : Nat} {ρ : Rho} {H : Heap} {w w' : World} (h : RelH ρ H w) (e : w'.heap = w.heap) (h1 : w'.os = w.os) (h2 : w'.tape = w.tape) (h3 : w'.output = w.output) : Adv base ρ H w ρ H w' where
  ext := RhoLe.refl _
  rel := h.same e
  os := h1
  tape := h2
  output := h3
  size := by rw [e]; exact Nat.le_refl _
  keep := fun _ _ _ => by rw [e]
  ghost := fun _ _ h => ⟨h, rfl⟩
  fresh := fun b L h h' => by rw [h] at h'; cases h'
  next := Nat.le_refl _
  back := fun b L B' _ h => ⟨B', h, rfl, rfl⟩
def rset (ρ : Rho) (b : Nat) (L : Loc) : Rho := fun k => if k = b then some L else ρ k
theorem RelH.none_ge {ρ : Rho} {H : Heap} {w : World} (h : RelH ρ H w) {b : Nat} (hb : H.next ≤ b) : ρ b = none := by
  cases hr : ρ b with
  | none => rfl
  | some L => have := h.dom b L hr; omega
theorem rset_le {ρ : Rho} {b : Nat} {L : Loc} (h : ρ b = none) : RhoLe ρ (rset ρ b L) := fun k M hk => by
  unfold rset; by_cases e : k = b
  · subst e; rw [h] at hk; cases hk
  · rw [if_neg e]; exact hk
/-- One more block on both sides. -/
theorem Adv.alloc {base : Nat} {ρ : Rho} {H H' : Heap} {w w' : World} (h : RelH ρ H w) (b : Nat) (hb : ρ b = none) (hbase : base ≤ b) (hbn : b < H'.next) (hn : H.next ≤ H'.next)
    (B : Blk) (hBl : H'.blk b = some B) (hoth : ∀ k, k ≠ b → H'.blk k = H.blk k) (L : Loc) (c : Array Value) (t : TypeId) (fr : Nat × Nat)
    (hw : w'.heap = w.heap.push (.cells c t fr)) (hL : L.blk = w.heap.size) (hsz : c.size = L.size) (he : L.esz = B.esz) (hfr : fr.2 ≤ fr.1 ∨ c.size ≤ fr.1)
    (hc : ∀ o v, B.at_ o = some v → ∃ v', c[o + L.shift]? = some v' ∧ V1 ρ v v')
    (h1 : w'.os = w.os) (h2 : w'.tape = w.tape) (h3 : w'.output = w.output) : Adv base ρ H w (rset ρ b L) H' w' := by
  have hle : RhoLe ρ (rset ρ b L) := rset_le hb
  have hold : ∀ k, k < w.heap.size → w'.heap[k]? = w.heap[k]? := fun k hk => by rw [hw, Array.getElem?_push, if_neg (by omega)]
  have hlt : ∀ k M C, ρ k = some M → H.blk k = some C → M.blk < w.heap.size := fun k M C hk hC => by
    obtain ⟨c, t, fr, hh, _⟩ := h.blk k M C hk hC
    exact (Array.getElem?_eq_some_iff.1 hh).1
  refine ⟨hle, ⟨?_, ?_, ?_⟩, h1, h2, h3, by rw [hw]; simp, fun cb hcb _ => hold cb hcb, ?_, ?_, hn, ?_⟩
  · intro k M hk
    unfold rset at hk
    by_cases e : k = b
    · subst e; exact hbn
    · rw [if_neg e] at hk; have := h.dom k M hk; omega
  · intro k M C hk hC
    unfold rset at hk
    by_cases e : k = b
    · subst e
      rw [if_pos rfl] at hk; cases hk
      rw [hBl] at hC; cases hC
      refine ⟨c, t, fr, by rw [hw, hL]; simp, hsz, he, fun _ => hfr, fun o v hv => ?_⟩
      obtain ⟨v', q1, q2⟩ := hc o v hv
      exact ⟨v', q1, q2.mono hle⟩
    · rw [if_neg e] at hk
      rw [hoth k e] at hC
      obtain ⟨c, t, fr, q0, q1, q2, q3, q4⟩ := h.blk k M C hk hC
      refine ⟨c, t, fr, by rw [hold _ (hlt k M C hk hC)]; exact q0, q1, q2, q3, fun o v hv => ?_⟩
      obtain ⟨v', r1, r2⟩ := q4 o v hv
      exact ⟨v', r1, r2.mono hle⟩
  · intro k1 k2 M1 M2 C1 C2 g1 g2 g3 g4 g5 g6
    unfold rset at g1 g2
    by_cases e1 : k1 = b
    · by_cases e2 : k2 = b
      · rw [e1, e2]
      · rw [if_pos e1] at g1; cases g1
        rw [if_neg e2] at g2
        rw [hoth k2 e2] at g4
        have := hlt k2 M2 C2 g2 g4
        omega
    · rw [if_neg e1] at g1
      rw [hoth k1 e1] at g3
      have := hlt k1 M1 C1 g1 g3
      by_cases e2 : k2 = b
      · rw [if_pos e2] at g2; cases g2; omega
      · rw [if_neg e2] at g2
        rw [hoth k2 e2] at g4
        exact h.inj k1 k2 M1 M2 C1 C2 g1 g2 g3 g4 g5 g6
  · intro k hk h0
    have e : k ≠ b := by omega
    exact ⟨by unfold rset; rw [if_neg e]; exact h0, hoth k e⟩
  · intro k M h0 hk
    unfold rset at hk
    by_cases e : k = b
    · rw [if_pos e] at hk; cases hk; exact ⟨by omega, .inl (by omega)⟩
    · rw [if_neg e] at hk; rw [h0] at hk; cases hk
  · intro k M B' hk hB'
    have e : k ≠ b := fun e => by subst e; rw [hb] at hk; cases hk
    rw [hoth k e] at hB'
    exact ⟨B', hB', rfl, rfl⟩
end Go.AM
