import Derived.Test.YtbgidagbogpfkaaR7Code
import Derived.Test.YtbgidagbogpfkaaAg2
/- The inner setting: what slices.Insert asks: do two slices overlap? -/
namespace Go.AM
open Go.Proofs
set_option linter.unusedVariables false
set_option linter.unusedSimpArgs false
set_option maxRecDepth 100000
/-- A block that may be written, that is none of bytes, and has a first cell. -/
def rwB (H : Heap) (b : Nat) : Bool := match H.blk b with | some B => !B.ro && B.esz != 1 && (B.at_ 0).isSome | none => false
def overX : List Value → Heap → Option (Value × Heap)
  | [.slice (some ⟨b1, _, none⟩) _ _, .slice (some ⟨b2, _, none⟩) _ _], H => if (b1 != b2 && rwB H b1 && rwB H b2) = true then some (.bool false, H) else none
  | _, _ => none
noncomputable def K1 : Cfg := { P := Try.prog, F := fnAt Try.prog, X := fun f => if f = f_slices_overlaps_api_Info then some overX else if f = f_slices_overlaps_api_File then some overX else none, pur := fun _ => false }
end Go.AM
