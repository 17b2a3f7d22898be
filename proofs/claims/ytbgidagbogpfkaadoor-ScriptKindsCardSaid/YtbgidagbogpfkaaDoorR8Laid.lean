import Derived.Test.YtbgidagbogpfkaaDoorRows
import Derived.Test.YtbgidagbogpfkaaDoorR8P
import Derived.ProofKit
import Derived.LaidMore
import Derived.Stop.LaidErr
import Derived.Stop.Joined
import Derived.Lib.LaidTab
/- From the row's premise on the listed variables to what the machine knows of the first blocks; a start that meets it. -/
namespace Go.AM
open Go.Proofs Go.Proofs.YtbgidagbogpfkaaDoor
set_option linter.unusedVariables false
set_option maxRecDepth 1000000
theorem var_block {P : Program} {W : World} {n : String} {g : Nat} {cs : Array Value} (hg : P.globalNamed n = some g) (h : W.var? P n = some cs) : ∃ t fr, W.heap[g]? = some (.cells cs t fr) := by
  unfold World.var? at h
  rw [hg] at h
  simp only [Option.bind_some] at h
  split at h
  · rename_i c t fr hh; cases h; exact ⟨t, fr, hh⟩
  · cases h
theorem gJ_of_laid {W : World} (h : laidMetH Tryd.prog Rows.scriptsRow.laid W) : gJ W := by
  have h' : laidMet Tryd.prog Rows.scriptsRow.laid W := h
  obtain ⟨ps, hv, _, _⟩ := h'
  obtain ⟨g1, t1, c1, f1, p1, q1, a1, b1, d1, e1, hv, _⟩ := hv
  obtain ⟨g2, t2, c2, f2, p2, q2, a2, b2, d2, e2, hv, _⟩ := hv
  obtain ⟨g3, t3, c3, f3, p3, q3, a3, b3, d3, e3, hv, _⟩ := hv
  obtain ⟨g4, t4, c4, f4, p4, q4, a4, b4, d4, e4, hv, _⟩ := hv
  obtain ⟨g5, t5, c5, f5, p5, q5, a5, b5, d5, e5, hv, _⟩ := hv
  have n2 : Tryd.prog.globalNamed "math/bits.deBruijn64tab" = some 5 := by kernel_rfl
  have n3 : Tryd.prog.globalNamed "internal/strconv.uint64pow10" = some 1 := by kernel_rfl
  have n4 : Tryd.prog.globalNamed "strconv.ErrRange" = some 3 := by kernel_rfl
  have n5 : Tryd.prog.globalNamed "strconv.ErrSyntax" = some 2 := by kernel_rfl
  have y3 : (Tryd.prog.globals[1]?).map (·.type) = some 90 := by kernel_rfl
  have y4 : (Tryd.prog.globals[3]?).map (·.type) = some 49 := by kernel_rfl
  have y5 : (Tryd.prog.globals[2]?).map (·.type) = some 49 := by kernel_rfl
  obtain rfl := Option.some.inj (n3.symm.trans a3)
  obtain rfl := Option.some.inj (n4.symm.trans a4)
  obtain rfl := Option.some.inj (n5.symm.trans a5)
  obtain rfl := Option.some.inj (y3.symm.trans b3)
  obtain rfl := Option.some.inj (y4.symm.trans b4)
  obtain rfl := Option.some.inj (y5.symm.trans b5)
  obtain ⟨w2, r2, k2⟩ := var_block n2 d2
  obtain ⟨w3, r3, k3⟩ := var_block n3 d3
  obtain ⟨w4, r4, k4⟩ := var_block n4 d4
  obtain ⟨w5, r5, k5⟩ := var_block n5 d5
  refine ⟨?_, ?_, ?_, ?_⟩
  · have := (Array.getElem?_eq_some_iff.1 k2).1
    show 6 ≤ W.heap.size
    omega
  · have hc := Lib.cells_of_tab (k := .u64) (zs := Lib.pow10Tab) (n := 20) Tryd.underlying90 Tryd.underlying71 (by kernel_rfl) (by kernel_rfl) e3
    refine ⟨w3, r3, ?_⟩
    rw [k3]
    congr 2
    apply Array.ext'
    rw [hc]
    simp [Lib.pow10Tab]
  · obtain ⟨_, u, v, hc, _⟩ := iface_of_trod Tryd.underlying49 e5
    refine ⟨u, v, ?_⟩
    have : c5 = #[.iface u v] := by apply Array.ext'; rw [hc]
    simp [World.cell?, k5, this]
  · obtain ⟨_, u, v, hc, _⟩ := iface_of_trod Tryd.underlying49 e4
    refine ⟨u, v, ?_⟩
    have : c4 = #[.iface u v] := by apply Array.ext'; rw [hc]
    simp [World.cell?, k4, this]
/-- The door's own heap meets the condition. -/
theorem door_met (os : Os) (args : Array Value) : laidMetH Tryd.prog Rows.scriptsRow.laid ((World.doorLaid Tryd.prog 600 os).forCall (fun _ _ => 0) ⟨#[], args, []⟩).memory :=
  laidMetH_of_parts3 (fuel := 8) (laidMet_of_run' 8 (by kernel_rfl) (by kernel_rfl)) (by kernel_rfl) (by kernel_rfl)
end Go.AM
