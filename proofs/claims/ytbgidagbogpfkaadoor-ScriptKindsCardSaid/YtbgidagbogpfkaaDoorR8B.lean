import Derived.Test.YtbgidagbogpfkaaDoorR8Y
import Derived.Test.YtbgidagbogpfkaaDoorR8S
/- strings.Builder for the machine: WriteString and String as contracts from elsewhere. -/
namespace Go.AM
open Go.Proofs Go.RowKit
set_option linter.unusedVariables false
set_option linter.unusedSimpArgs false
set_option maxRecDepth 1000000
/-- A block is forgotten whose memory has turned. -/
theorem Adv.touch {base : Nat} {ρ : Rho} {H : Heap} {w w' : World} (hr : RelH ρ H w) {b : Nat} {L : Loc} {B : Blk} (hb : ρ b = some L) (hB : H.blk b = some B) (hro : B.ro = false)
    (h1 : w'.os = w.os) (h2 : w'.tape = w.tape) (h3 : w'.output = w.output) (hs : w'.heap.size = w.heap.size) (hk : ∀ k, k ≠ L.blk → w'.heap[k]? = w.heap[k]?) : Adv base ρ H w ρ (H.set b none) w' := by
  have inv : ∀ k C, (H.set b none).blk k = some C → k ≠ b ∧ H.blk k = some C := fun k C hC => by
    have e : k ≠ b := fun e => by subst e; simp [Heap.set] at hC
    exact ⟨e, by simpa [Heap.set, e] using hC⟩
  have oth : ∀ k M C, ρ k = some M → (H.set b none).blk k = some C → M.blk ≠ L.blk := fun k M C hM hC he => by
    obtain ⟨e, hC'⟩ := inv k C hC
    exact e (hr.inj b k L M B C hb hM hB hC' hro he.symm).symm
  refine ⟨RhoLe.refl _, ⟨hr.dom, ?_, ?_, gStable (fun cb hcb => hk cb (by have := hr.low b L B hb hB hro; omega)) hr.j, ?_, ?_⟩, h1, h2, h3, by omega, fun cb hcb hno => hk cb (fun e => hno b L B hb hB hro e.symm), ?_, ?_, Nat.le_refl _, ?_⟩
  · intro k M C hM hC
    obtain ⟨c, t, fr, q⟩ := hr.blk k M C hM (inv k C hC).2
    exact ⟨c, t, fr, by rw [hk _ (oth k M C hM hC)]; exact q.1, q.2⟩
  · intro k1 k2 M1 M2 C1 C2 g1 g2 g3 g4 g5 g6
    exact hr.inj k1 k2 M1 M2 C1 C2 g1 g2 (inv _ _ g3).2 (inv _ _ g4).2 g5 g6
  · intro k M C hM hC; exact hr.low k M C hM (inv _ _ hC).2
  · intro k M C hM hC; exact (hr.typ k M C hM (inv _ _ hC).2).keep (hk _ (oth k M C hM hC))
  · intro k hlt h0
    have e : k ≠ b := fun e => by subst e; rw [hb] at h0; cases h0
    exact ⟨h0, by simp [Heap.set, e]⟩
  · intro k M h0 h1; rw [h0] at h1; cases h1
  · intro k M B' hM hB'; exact ⟨B', (inv _ _ hB').2, rfl, rfl⟩
/-- More is known of a block's type. -/
theorem Adv.retype {base : Nat} {ρ : Rho} {H : Heap} {w : World} (hr : RelH ρ H w) {b : Nat} {L : Loc} {B : Blk} (hb : ρ b = some L) (hB : H.blk b = some B) (t : Option (TypeId × Bool)) (ht : TyAt w L { B with ty := t }) :
    Adv base ρ H w ρ (H.set b (some { B with ty := t })) w := by
  have inv : ∀ k C, (H.set b (some { B with ty := t })).blk k = some C → ∃ C0, H.blk k = some C0 ∧ C.ro = C0.ro ∧ C.esz = C0.esz ∧ C.at_ = C0.at_ ∧ (k ≠ b → C = C0) ∧ (k = b → C = { B with ty := t }) := fun k C hC => by
    by_cases e : k = b
    · subst e; simp [Heap.set] at hC; subst hC; exact ⟨B, hB, rfl, rfl, rfl, fun h => absurd rfl h, fun _ => rfl⟩
    · exact ⟨C, by simpa [Heap.set, e] using hC, rfl, rfl, rfl, fun _ => rfl, fun h => absurd h e⟩
  refine ⟨RhoLe.refl _, ⟨hr.dom, ?_, ?_, hr.j, ?_, ?_⟩, rfl, rfl, rfl, Nat.le_refl _, fun _ _ _ => rfl, ?_, ?_, Nat.le_refl _, ?_⟩
  · intro k M C hM hC
    obtain ⟨C0, h0, h1, h2, h3, _⟩ := inv k C hC
    obtain ⟨c, ty, fr, q1, q2, q3, q4, q5⟩ := hr.blk k M C0 hM h0
    exact ⟨c, ty, fr, q1, q2, q3.trans h2.symm, fun h => q4 (h1 ▸ h), fun o v hv => q5 o v (by rw [← h3]; exact hv)⟩
  · intro k1 k2 M1 M2 C1 C2 g1 g2 g3 g4 g5 g6
    obtain ⟨D1, e1, r1, _⟩ := inv k1 C1 g3
    obtain ⟨D2, e2, _⟩ := inv k2 C2 g4
    exact hr.inj k1 k2 M1 M2 D1 D2 g1 g2 e1 e2 (r1 ▸ g5) g6
  · intro k M C hM hC hro
    obtain ⟨C0, h0, h1, _⟩ := inv k C hC
    exact hr.low k M C0 hM h0 (h1 ▸ hro)
  · intro k M C hM hC
    obtain ⟨C0, h0, h1, h2, h3, h4, h5⟩ := inv k C hC
    by_cases e : k = b
    · rw [h5 e]; subst e; rw [hb] at hM; cases hM; exact ht
    · rw [h4 e]; exact hr.typ k M C0 hM h0
  · intro k hlt h0
    have e : k ≠ b := fun e => by subst e; rw [hb] at h0; cases h0
    exact ⟨h0, by simp [Heap.set, e]⟩
  · intro k M h0 h1; rw [h0] at h1; cases h1
  · intro k M B' hM hB'
    obtain ⟨C0, h0, h1, h2, _⟩ := inv k B' hB'
    exact ⟨C0, h0, h1.symm, h2.symm⟩
/-! ### String -/
open Classical in
noncomputable def stringX : List Value → Heap → Option (Value × Heap)
  | [.pointer (some ⟨b, 0, none⟩)], H => match H.blk b with
    | some B => if B.ty = some (46, true) ∧ B.ro = false ∧ B.esz = 2 then (match B.at_ 1 with
      | some (.slice none 0 0) => some (.string ⟨#[]⟩, H)
      | some (.slice (some ⟨bb, 0, none⟩) n c) => (match H.blk bb with
        | some C => (match H.row bb 0 n with
          | some vs => (match bytesOfRow vs with
            | some l => if C.ty = some (5, false) ∧ C.ro = false ∧ C.esz = 1 ∧ 0 < n ∧ n ≤ 140737488355328 ∧ vs = rowOfBytes ⟨l.toArray⟩ then some (.string ⟨l.toArray⟩, H.set bb none) else none
            | none => none)
          | none => none)
        | none => none)
      | _ => none) else none
    | none => none
  | _, _ => none
theorem two_cells {c : Array Value} {p v : Value} (hs : c.size = 2) (h0 : c[0]? = some p) (h1 : c[1]? = some v) : c = #[p, v] := by
  apply Array.ext_getElem?
  intro i
  match i with
  | 0 => rw [h0]; rfl
  | 1 => rw [h1]; rfl
  | i + 2 => rw [Array.getElem?_eq_none (by omega), Array.getElem?_eq_none (by simp)]
/-- A builder's block, in the model's memory. -/
theorem bld_block {ρ : Rho} {H : Heap} {w : World} (hr : RelH ρ H w) {b : Nat} {L : Loc} {B : Blk} (hb : ρ b = some L) (hB : H.blk b = some B) (ht : B.ty = some (46, true)) (he : B.esz = 2) {v : Value} (hv : B.at_ 1 = some v) :
    L.shift = 0 ∧ ∃ p v', w.heap[L.blk]? = some (.cells #[p, v'] 46 (0, 0)) ∧ V1 ρ v v' ∧ ∀ p0, B.at_ 0 = some p0 → V1 ρ p0 p := by
  obtain ⟨hs, c, hc, hsz⟩ := (hr.typ b L B hb hB).1 _ _ ht
  obtain ⟨c', t, fr, q1, q2, q3, q4, q5⟩ := hr.blk b L B hb hB
  rw [hc] at q1; cases q1
  have hs2 : c.size = 2 := (hsz rfl).trans he
  obtain ⟨v', r1, r2⟩ := q5 1 v hv
  rw [hs] at r1
  have r1' : c[1]? = some v' := r1
  obtain ⟨p, hp⟩ : ∃ p, c[0]? = some p := ⟨_, Array.getElem?_eq_getElem (by omega)⟩
  refine ⟨hs, p, v', by rw [hc, two_cells hs2 hp r1'], r2, fun p0 h0 => ?_⟩
  obtain ⟨p', s1, s2⟩ := q5 0 p0 h0
  rw [hs] at s1
  have s1' : c[0]? = some p' := s1
  rw [hp] at s1'; cases s1'; exact s2
theorem freeze_other (w : World) (g n k : Nat) (h : k ≠ g) : (w.freeze ⟨g, 0, none⟩ n).heap[k]? = w.heap[k]? := by
  unfold World.freeze
  split
  · rfl
  · simp only [Array.getElem?_modify]; rw [if_neg (fun e => h e.symm)]
theorem stringX_sound : XSound Tryd.prog f_strings_Builder_String stringX where
  next := fun args H v H' hg hw => by
    unfold stringX at hg
    repeat' split at hg
    all_goals first | (cases hg; done) | (cases hg; exact ⟨hw, Nat.le_refl _⟩) | (cases hg; refine ⟨fun b hb => ?_, Nat.le_refl _⟩; simp only [Heap.set]; split; rfl; exact hw b hb)
  sound := fun args H v H' hg ρ args' w hw hr ha => by
    have able : Callable Tryd.prog f_strings_Builder_String := Callable.of_at Tryd.lays169.f169 (by kernel_rfl) rfl
    unfold stringX at hg
    split at hg
    case h_2 => cases hg
    rename_i b
    obtain ⟨p', l', rfl, hp, hl'⟩ := ha.cons_left
    obtain rfl := hl'.nil_left
    obtain ⟨L, hL, rfl⟩ := hp.ptr_inv
    split at hg
    case h_2 => cases hg
    rename_i B hB
    split at hg
    case isFalse => cases hg
    rename_i hc
    obtain ⟨c1, c2, c3⟩ := hc
    split at hg
    · rename_i h1; cases hg
      obtain ⟨hs, p, v', hh, hv, _⟩ := bld_block hr hL hB c1 c3 h1
      obtain ⟨_, _, rfl⟩ := V3.nil_inv hv.two.three
      rw [show (0 + L.shift) = 0 by omega]
      refine .inl ⟨able, (string_walk_nil Tryd.lays169 Tryd.Builder_Extra_169 L.blk p w hh).mono fun e w' he => ?_⟩
      obtain ⟨rfl, rfl⟩ := he
      exact ⟨_, ρ, rfl, V3.of_flat rfl, Adv.same hr rfl rfl rfl rfl⟩
    · rename_i bb n c h1
      split at hg
      case h_2 => cases hg
      rename_i C hC
      split at hg
      case h_2 => cases hg
      rename_i vs hrow
      split at hg
      case h_2 => cases hg
      rename_i l hl
      split at hg
      case isFalse => cases hg
      rename_i hd
      cases hg
      obtain ⟨d1, d2, d3, d4, d5, d6⟩ := hd
      obtain ⟨hs, p, v', hh, hv, _⟩ := bld_block hr hL hB c1 c3 h1
      obtain ⟨M, o', c', s', q1, rfl, q3, q4, q5, q6, q7, q9⟩ := V3.slice_inv hv.two.three
      obtain ⟨hs2, cur, hcur, _⟩ := (hr.typ bb M C q1 hC).1 _ _ d1
      obtain rfl : s' = none := q9 (by omega)
      obtain rfl : o' = 0 := by have := q6 (by omega); omega
      obtain ⟨cc, tt, fr, b1, b2, b3, b4, b5⟩ := hr.blk bb M C q1 hC
      rw [hcur] at b1; cases b1
      have hlen : l.length = n := by
        have := row_length _ _ hrow
        rw [d6] at this
        simpa [rowOfBytes] using this
      subst hlen
      rw [show (0 + L.shift) = 0 by omega]
      refine .inl ⟨able, (string_walk Tryd.lays169 Tryd.Builder_Extra_169 L.blk M.blk c' p cur (0, 0) l w hh (fun e => by subst e; simp at d4) hcur (by omega) (by rw [b3, d3] at q7; omega) d5 (fun j x hx => ?_)).mono fun e w' he => ?_⟩
      · obtain ⟨ys, e1, e2, e3⟩ := row_sound hr q1 _ _ hrow
        have hvj : vs[j]? = some (.int .u8 (x.toNat : Int)) := by
          rw [d6]; simp [rowOfBytes, hx]
        obtain ⟨y, f1, f2⟩ := e1.get hvj
        have := e3 j y f1
        rw [add_at] at this
        simp only [World.cell?, hcur] at this
        have hy : y = .int .u8 (x.toNat : Int) := f2.2
        subst hy
        have hj : 0 + M.shift + j = j := by omega
        rw [hj] at this
        simpa using this
      · obtain ⟨rfl, rfl⟩ := he
        refine ⟨_, ρ, rfl, V3.of_flat rfl, Adv.touch hr q1 hC d2 ?_ ?_ ?_ ?_ ?_⟩
        · unfold World.freeze; split <;> rfl
        · unfold World.freeze; split <;> rfl
        · unfold World.freeze; split <;> rfl
        · unfold World.freeze; split
          · rfl
          · show (Array.modify _ _ _).size = _
            rw [Array.size_modify]; rfl
        · intro k hk
          rw [freeze_other _ _ _ _ hk]; rfl
    · cases hg
end Go.AM
