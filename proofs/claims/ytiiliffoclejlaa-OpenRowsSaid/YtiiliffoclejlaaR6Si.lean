import Derived.Test.YtiiliffoclejlaaR6K
import Derived.KernelRfl
/- Shapes of this seat's arguments: images. -/
namespace Go.AM
open Go.Proofs
set_option linter.unusedVariables false
set_option maxRecDepth 1000000
theorem shpI : Shp Try.prog 92 encI 2 :=
  ⟨by kernel_rfl, encI_len, fun _ => rfl, fun {H en w base sp held fuel cs y} h => by
    obtain ⟨hl, hf⟩ := struct_cells Try.underlying92 (fun i f hi => by
      match i, hi with
      | 0, hi => cases hi; exact ⟨rfl, by kernel_rfl⟩
      | 1, hi => cases hi; exact ⟨rfl, by kernel_rfl⟩
      | i + 2, hi => simp at hi) (by kernel_rfl) h
    obtain ⟨v, n, y1, e1, t1⟩ := hf 0 _ rfl
    obtain ⟨v', n', y2, e2, t2⟩ := hf 1 _ rfl
    obtain ⟨a, ha, _⟩ := DataW.trod_int Try.underlying3 t1
    obtain ⟨b, hb, _⟩ := DataW.trod_string Try.underlying9 t2
    cases ha; cases hb
    match cs, hl, e1, e2 with
    | [_, _], _, e1, e2 => cases e1; cases e2; exact ⟨(a, b), rfl⟩⟩
end Go.AM
