import Derived.Test.YtbgidagbogpfkaaDoorR8Laid
import Derived.KernelRfl
/- The shape of an act, as an argument. -/
namespace Go.AM
open Go.Proofs
set_option linter.unusedVariables false
set_option maxRecDepth 1000000
instance : Inhabited Ac := ⟨zA⟩
theorem shpA : Shp Tryd.prog 36 encA 10 :=
  ⟨by kernel_rfl, encA_len, fun _ => rfl, fun {H en w base sp held fuel cs y} h => by
    obtain ⟨hl, hf⟩ := struct_cells Tryd.underlying36 (fun i f hi => by
      match i, hi with
      | 0, hi => cases hi; exact ⟨rfl, by kernel_rfl⟩
      | 1, hi => cases hi; exact ⟨rfl, by kernel_rfl⟩
      | 2, hi => cases hi; exact ⟨rfl, by kernel_rfl⟩
      | 3, hi => cases hi; exact ⟨rfl, by kernel_rfl⟩
      | 4, hi => cases hi; exact ⟨rfl, by kernel_rfl⟩
      | 5, hi => cases hi; exact ⟨rfl, by kernel_rfl⟩
      | 6, hi => cases hi; exact ⟨rfl, by kernel_rfl⟩
      | 7, hi => cases hi; exact ⟨rfl, by kernel_rfl⟩
      | 8, hi => cases hi; exact ⟨rfl, by kernel_rfl⟩
      | 9, hi => cases hi; exact ⟨rfl, by kernel_rfl⟩
      | i + 10, hi => simp at hi) (by kernel_rfl) h
    obtain ⟨v0, n0, y0, e0, t0⟩ := hf 0 _ rfl
    obtain ⟨v1, n1, y1, e1, t1⟩ := hf 1 _ rfl
    obtain ⟨v2, n2, y2, e2, t2⟩ := hf 2 _ rfl
    obtain ⟨v3, n3, y3, e3, t3⟩ := hf 3 _ rfl
    obtain ⟨v4, n4, y4, e4, t4⟩ := hf 4 _ rfl
    obtain ⟨v5, n5, y5, e5, t5⟩ := hf 5 _ rfl
    obtain ⟨v6, n6, y6, e6, t6⟩ := hf 6 _ rfl
    obtain ⟨v7, n7, y7, e7, t7⟩ := hf 7 _ rfl
    obtain ⟨v8, n8, y8, e8, t8⟩ := hf 8 _ rfl
    obtain ⟨v9, n9, y9, e9, t9⟩ := hf 9 _ rfl
    obtain ⟨a0, h0, _⟩ := DataW.trod_int Tryd.underlying3 t0
    obtain ⟨a1, h1, _⟩ := DataW.trod_string Tryd.underlying9 t1
    obtain ⟨a2, h2, _⟩ := DataW.trod_string Tryd.underlying9 t2
    obtain ⟨a3, h3, _⟩ := DataW.trod_string Tryd.underlying9 t3
    obtain ⟨a4, h4, _⟩ := DataW.trod_string Tryd.underlying9 t4
    obtain ⟨a5, h5, _⟩ := DataW.trod_string Tryd.underlying9 t5
    obtain ⟨a6, h6, _⟩ := DataW.trod_int Tryd.underlying3 t6
    obtain ⟨a7, h7, _⟩ := DataW.trod_string Tryd.underlying9 t7
    obtain ⟨a8, h8, _⟩ := DataW.trod_int Tryd.underlying3 t8
    obtain ⟨a9, h9, _⟩ := DataW.trod_int Tryd.underlying3 t9
    cases h0; cases h1; cases h2; cases h3; cases h4; cases h5; cases h6; cases h7; cases h8; cases h9
    match cs, hl, e0, e1, e2, e3, e4, e5, e6, e7, e8, e9 with
    | [_, _, _, _, _, _, _, _, _, _], _, e0, e1, e2, e3, e4, e5, e6, e7, e8, e9 => cases e0; cases e1; cases e2; cases e3; cases e4; cases e5; cases e6; cases e7; cases e8; cases e9; exact ⟨⟨a0, a1, a2, a3, a4, a5, a6, a7, a8, a9⟩, rfl⟩⟩
theorem wtA {n : Nat} (h : n * Tryd.prog.bytesOf 36 ≤ reachBytes) : n ≤ 1099511627774 := by
  have e : Tryd.prog.bytesOf 36 = 128 := by kernel_rfl
  have r : reachBytes = 140737488351232 := by decide
  rw [e, r] at h; omega
theorem wtA' {n : Nat} (h : n * Tryd.prog.bytesOf 36 ≤ reachBytes) : n ≤ 140737488355328 := by have := wtA h; omega
theorem z16 {n : Nat} (h : n ≤ 140737488351232) : n ≤ 140737488355328 := by omega
end Go.AM
