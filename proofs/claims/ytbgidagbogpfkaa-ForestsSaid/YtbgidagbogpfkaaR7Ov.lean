import Derived.Test.YtbgidagbogpfkaaR7K1
import Derived.Lib.Overlaps
import Derived.KernelRfl
/- slices.overlaps: the model's own answer. -/
namespace Go.AM
open Go.Proofs
set_option linter.unusedVariables false
set_option linter.unusedSimpArgs false
set_option maxRecDepth 1000000
theorem rwB_inv {ρ : Rho} {H : Heap} {w : World} (hr : RelH ρ H w) {b : Nat} (h : rwB H b = true) {L : Loc} (hb : ρ b = some L) : ∃ B c t, H.blk b = some B ∧ B.ro = false ∧ w.heap[L.blk]? = some (.cells c t (0, 0)) ∧ c.size ≠ 0 := by
  unfold rwB at h
  split at h
  · rename_i B hB
    simp only [Bool.and_eq_true, Bool.not_eq_true', bne_iff_ne, ne_eq] at h
    obtain ⟨⟨h1, h2⟩, h3⟩ := h
    obtain ⟨c, t, q⟩ := (hr.typ b L B hb hB).2.2 h1 h2
    refine ⟨B, c, t, hB, h1, q, ?_⟩
    obtain ⟨c', t', fr', q1, q2, q3, q4, q5⟩ := hr.blk b L B hb hB
    rw [q] at q1; cases q1
    obtain ⟨v, hv⟩ := Option.isSome_iff_exists.1 h3
    obtain ⟨v', hv', _⟩ := q5 0 v hv
    have := (Array.getElem?_eq_some_iff.1 hv').1
    omega
  · cases h
theorem over_sound {f : FuncId} {fn : Func} {tS tR e : TypeId} {size : Nat} (hf : Try.prog.funcs[f]? = some fn) (hname : (fn.name == "runtime.NumGoroutine") = false) (hb : fn.body.isNone = true) (hn : Extern.findNext fn = none)
    (he : Extern.find fn = some (Extern.SlicesOverlaps.overlaps #[tS, tS] #[tR])) (ht : Try.prog.underlying tS = some (.slice e)) (hz : ∀ w, (Go.sizeOf e).run Try.prog w = .ok size w) : XSound Try.prog f overX where
  next := fun args H v H' hg hw => by
    unfold overX at hg
    split at hg
    · split at hg <;> cases hg
      exact ⟨hw, Nat.le_refl _⟩
    · cases hg
  sound := fun args H v H' hg ρ args' w hw hr ha => by
    unfold overX at hg
    split at hg
    · rename_i H0 b1 o1 n1 c1 b2 o2 n2 c2
      split at hg <;> cases hg
      rename_i hcond
      simp only [Bool.and_eq_true, bne_iff_ne, ne_eq] at hcond
      obtain ⟨⟨hne, h1⟩, h2⟩ := hcond
      match args', ha with
      | [a1, a2], ⟨g1, g2, _⟩ =>
        obtain ⟨L1, p1, k1, s1, q1, rfl, _⟩ := V3.slice_inv g1
        obtain ⟨L2, p2, k2, s2, q2, rfl, _⟩ := V3.slice_inv g2
        obtain ⟨B1, d1, t1, e1, e2, e3, e4⟩ := rwB_inv hr h1 q1
        obtain ⟨B2, d2, t2, f1, f2, f3, f4⟩ := rwB_inv hr h2 q2
        have hbn : L1.blk ≠ L2.blk := fun h => hne (hr.inj b1 b2 L1 L2 B1 B2 q1 q2 e1 f1 e2 h)
        refine .inr ⟨.bool false, w, ?_, .bool false, ρ, rfl, V3.of_flat rfl, Adv.refl hr⟩
        rw [run_callFunc_extern hf hname hb hn he]
        have := Lib.run_overlaps_apart w tS tR e ht size hz ⟨L1.blk, p1, s1⟩ ⟨L2.blk, p2, s2⟩ n1 k1 n2 k2 hbn t1 t2 d1.size d2.size (by simp [World.shape?, e3]) (by simp [World.shape?, f3]) f4 (by simp [World.frozen?, e3]) (by simp [World.frozen?, e3])
        show ((Extern.SlicesOverlaps.overlaps #[tS, tS] #[tR] #[.slice (some ⟨L1.blk, p1, s1⟩) n1 k1, .slice (some ⟨L2.blk, p2, s2⟩) n2 k2]).run Try.prog w).andThen _ = _
        rw [this]; rfl
    · cases hg
theorem over_info : XSound Try.prog f_slices_overlaps_api_Info overX :=
  over_sound (fn := Try.f66) (tS := 22) (tR := 4) (e := 45) (size := 5) Try.func66 (by kernel_rfl) (by kernel_rfl) (by kernel_rfl) (by kernel_rfl) (by kernel_rfl) (fun w => run_sz (by kernel_rfl))
theorem over_file : XSound Try.prog f_slices_overlaps_api_File overX :=
  over_sound (fn := Try.f73) (tS := 43) (tR := 4) (e := 51) (size := 3) Try.func73 (by kernel_rfl) (by kernel_rfl) (by kernel_rfl) (by kernel_rfl) (by kernel_rfl) (fun w => run_sz (by kernel_rfl))
theorem k1Ok : KOk K1 where
  mixed := by kernel_rfl
  F := fun f F h => h
  X := fun f g h => by
    have h' : (if f = f_slices_overlaps_api_Info then some overX else if f = f_slices_overlaps_api_File then some overX else none) = some g := h
    split at h'
    · rename_i e; subst e; cases h'; exact over_info
    · split at h'
      · rename_i e; subst e; cases h'; exact over_file
      · cases h'
#print axioms k1Ok
end Go.AM
