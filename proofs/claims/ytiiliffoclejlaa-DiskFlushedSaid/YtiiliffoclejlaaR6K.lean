import Derived.Test.YtiiliffoclejlaaR6Q
import Derived.Test.YtiiliffoclejlaaR6U0
import Derived.Test.YtiiliffoclejlaaShelf
import Derived.Test.YtiiliffoclejlaaAm2
/- The setting of this seat: sound. -/
namespace Go.AM
open Go.Proofs Go.RowKit
set_option linter.unusedVariables false
set_option maxRecDepth 1000000
theorem repeat_able : Callable Try.prog f_strings_Repeat := ⟨_, Try.func90, by decide +kernel, by kernel_rfl⟩
theorem read_able : Callable Try.prog f_disk_Read := ⟨_, Try.func23, by decide +kernel, by kernel_rfl⟩
/-- What a pure call answers, everywhere. -/
theorem pure_calls {K : Cfg} (hK : KOk K) {f : FuncId} {args : List Value} {H : Heap} {v : Value} (h : call K f args H.roAll = some (v, H.roAll)) (hv : flat v = true) {ρ : Rho} {args' : List Value} {w : World} (hw : Hw H) (hr : RelH ρ H w) (ha : All2 (V3 ρ) args args') :
    Calls K.P f args'.toArray w fun e w' => e = .returned v ∧ Below w.heap.size w w' := by
  refine (call_sound hK h hw.roAll hr.roAll ha).mono fun e w' he => ?_
  obtain ⟨v', ρ', rfl, hv', hadv⟩ := he
  have e1 := V3.flat hv hv'
  subst e1
  refine ⟨rfl, hadv.os, hadv.tape, hadv.output, hadv.size, fun cb hcb => hadv.keep cb hcb fun b L B hL hB hro => ?_⟩
  rw [blk_roAll] at hB
  cases hx : H.blk b with
  | none => rw [hx] at hB; cases hB
  | some B0 => rw [hx] at hB; cases hB; cases hro
theorem RelH.of_below {ρ : Rho} {H : Heap} {w w' : World} (hr : RelH ρ H w) (hb : Below w.heap.size w w') : RelH ρ H w' :=
  ⟨hr.dom, fun b L B hL hB => by
    obtain ⟨c, t, fr, h1, h2⟩ := hr.blk b L B hL hB
    exact ⟨c, t, fr, by rw [hb.block _ (Array.getElem?_eq_some_iff.1 h1).1]; exact h1, h2⟩, hr.inj⟩
theorem cell_of {ρ : Rho} {H : Heap} {w : World} (hr : RelH ρ H w) {b o : Nat} {v : Value} (hc : H.cell b o = some v) (hv : flat1 v = true) {L : Loc} (hL : ρ b = some L) : w.cell? ⟨L.blk, o + L.shift, none⟩ = some v ∧ L.blk < w.heap.size := by
  unfold Heap.cell at hc
  cases hB : H.blk b with
  | none => rw [hB] at hc; cases hc
  | some B =>
    rw [hB] at hc
    obtain ⟨c, t, fr, h1, _, _, _, h2⟩ := hr.blk b L B hL hB
    obtain ⟨v', h3, h4⟩ := h2 o v hc
    have := V1.flat hv h4
    subst this
    exact ⟨by simp [World.cell?, h1, h3], (Array.getElem?_eq_some_iff.1 h1).1⟩
theorem cst_of {ρ : Rho} {H : Heap} {w : World} (hr : RelH ρ H w) {s s' : Value} {xs : List ByteArray} (hs : Strs H s xs) (hv : V1 ρ s s') : ∃ a l c, s' = .slice a l c ∧ RdW.CSt w.heap.size w (.slice a l c) xs := by
  obtain ⟨_, p, c, rfl, hp⟩ := hs
  rcases hp with ⟨rfl, rfl, rfl⟩ | ⟨b, o, rfl, _, hle, hc⟩
  · have := V1.flat (ρ := ρ) (v := .slice none 0 0) rfl hv
    exact ⟨none, 0, 0, this, .inl ⟨rfl, rfl⟩⟩
  · obtain ⟨L, o', c', hL, _, rfl, _, _, _, ho, _⟩ := hv
    refine ⟨_, _, _, rfl, .inr ⟨L.blk, o', c', rfl, fun h0 => ?_, fun j hj => ?_⟩⟩
    · have := hc 0 h0 0 (by omega)
      simp at this
      exact (cell_of hr this rfl hL).2
    · have := hc j hj 0 (by omega)
      simp at this
      have h2 := (cell_of hr this rfl hL).1
      simp only at ho
      rw [ho (by omega), show o + L.shift + j = o + j + L.shift by omega, h2, List.getElem?_eq_getElem hj]; rfl
theorem cw_of {ρ : Rho} {H : Heap} {w : World} (hr : RelH ρ H w) {s s' : Value} {xs : List Img} (hs : Imgs H s xs) (hv : V1 ρ s s') : ∃ a l c, s' = .slice a l c ∧ RdW.CW w.heap.size w (.slice a l c) xs := by
  obtain ⟨_, p, c, rfl, hp⟩ := hs
  rcases hp with ⟨rfl, rfl, rfl⟩ | ⟨b, o, rfl, _, hle, hc⟩
  · have := V1.flat (ρ := ρ) (v := .slice none 0 0) rfl hv
    exact ⟨none, 0, 0, this, .inl ⟨rfl, rfl⟩⟩
  · obtain ⟨L, o', c', hL, _, rfl, _, _, _, ho, _⟩ := hv
    refine ⟨_, _, _, rfl, .inr ⟨L.blk, o', c', rfl, fun h0 => ?_, fun j hj => ?_, fun j hj => ?_⟩⟩
    · have := hc 0 h0 0 (by omega)
      simp at this
      exact (cell_of hr this rfl hL).2
    · have := hc j hj 0 (by omega)
      simp at this
      have h2 := (cell_of hr this rfl hL).1
      simp only at ho
      rw [ho (by omega), show o + L.shift + j * 2 = o + j * 2 + L.shift by omega, h2, List.getElem?_eq_getElem hj]; rfl
    · have := hc j hj 1 (by omega)
      simp at this
      have h2 := (cell_of hr this rfl hL).1
      simp only at ho
      rw [ho (by omega), show o + L.shift + j * 2 + 1 = o + j * 2 + 1 + L.shift by omega, h2, List.getElem?_eq_getElem hj]; rfl
theorem read_sound : XSound Try.prog f_disk_Read readX where
  able := read_able
  next := fun args H v H' hg hw => by
    unfold readX at hg
    split at hg
    · split at hg
      · split at hg
        · cases hg; exact ⟨hw, Nat.le_refl _⟩
        · cases hg
      · cases hg
    · cases hg
  sound := fun args H v H' hg ρ args' w hw hr ha => by
    unfold readX at hg
    split at hg
    · rename_i cs at_
      split at hg
      · rename_i s c hcs
        split at hg
        · rename_i h
          cases hg
          obtain ⟨hs, hc⟩ := h.choose_spec
          generalize h.choose = d at *
          match args', ha with
          | [a1, a2], ⟨⟨cs', e1, hcs'⟩, ha2, _⟩ =>
            have e2 : a2 = .int .i64 at_ := V3.flat (ρ := ρ) (v := .int .i64 at_) rfl ha2
            subst e1; subst e2
            rw [hcs] at hcs'
            obtain ⟨l', hl'⟩ : ∃ l', l' = cs'.toList := ⟨_, rfl⟩
            rw [← hl'] at hcs'
            match l', hcs' with
            | [s', c'], ⟨hv1, hv2, _⟩ =>
              obtain rfl : cs' = #[s', c'] := by cases cs'; simp_all
              obtain rfl : cs = #[s, c] := by cases cs; simp_all
              obtain ⟨as_, ls, cs1, rfl, hS⟩ := cst_of hr hs hv1
              obtain ⟨ac, lc, cc, rfl, hC⟩ := cw_of hr hc hv2
              refine (RdW.read_calls as_ ac ls cs1 lc cc d.1 d.2 at_ w hS hC (fun W hW => ?_) (fun W => ?_)).mono fun e w' he => ?_
              · have h2 := hr.of_below hW
                have hm := Z0.dskMay_ok s c d H.roAll hs.roAll hc.roAll
                exact pure_calls k0Ok (H := H) hm rfl hw h2 (args' := [.agg #[.slice as_ ls cs1, .slice ac lc cc]]) ⟨⟨_, rfl, hv1, hv2, trivial⟩, trivial⟩
              · have hm := Z0.has_ok at_ heap0.roAll
                exact pure_calls k0Ok (H := heap0) hm rfl (Ent.zero W).hw (Ent.zero W).rel (args' := [.int .i64 at_]) ⟨V3.of_flat rfl, trivial⟩
              · obtain ⟨rfl, hb⟩ := he
                refine ⟨_, ρ, rfl, V3.of_flat rfl, ?_⟩
                have hblk : ∀ b L B, ρ b = some L → H.blk b = some B → L.blk < w.heap.size := fun b L B hL hB => by
                  obtain ⟨c, t, fr, h1, _⟩ := hr.blk b L B hL hB
                  exact (Array.getElem?_eq_some_iff.1 h1).1
                exact ⟨RhoLe.refl _, hr.of_below hb, hb.os, hb.tape, hb.output, hb.size, fun cb hcb _ => hb.block cb hcb, fun b _ h => ⟨h, rfl⟩, (fun b L h h' => by rw [h] at h'; cases h'), Nat.le_refl _, fun b L B' _ h => ⟨B', h, rfl, rfl⟩⟩
        · cases hg
      · cases hg
    · cases hg
theorem kOk : KOk K where
  mixed := by kernel_rfl
  F := fun f F h => h
  X := fun f g h => by
    have h' : (if f = f_strings_Repeat then some repeatX else if f = f_disk_Read then some readX else none) = some g := h
    split at h'
    · rename_i e; subst e; cases h'
      exact repeatX_sound repeat_able fun s c w hc hs => Try.strings_Repeat s c w hc hs
    · split at h'
      · rename_i e; subst e; cases h'; exact read_sound
      · cases h'
#print axioms kOk
end Go.AM
