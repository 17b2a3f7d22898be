import Derived.Test.YtbgidagbogpfkaaR7Y
/- What the acts make of the given forest. -/
namespace Go.AM
open Go.Proofs
set_option linter.unusedVariables false
set_option linter.unusedSimpArgs false
set_option maxRecDepth 100000
abbrev tB : ByteArray := ⟨#[98, 97, 115, 101]⟩
abbrev tW : ByteArray := ⟨#[119, 111, 114, 107]⟩
theorem prepare_ok (v : Value) (rs : List (Inf × Value)) (name parent : ByteArray) (kind : Int) (H : Heap) (h : Fo H v rs) (hz : FoZ rs) (hw : FoW rs) (hs : name.size ≤ 140737488355328) (hs2 : parent.size ≤ 140737488355328) :
    wpf (call K f_forest_Prepare [v, .string name, .string parent, .int .i64 kind] H) (Ret H (prepareS (infs rs) name parent kind)) := by
  by_cases hp : parent = ⟨#[]⟩
  · subst hp; exact prepare_ok0 v rs name kind H h hz hw hs
  · exact prepare_ok1 v rs name parent kind H h hz hw hs hs2 hp
theorem given_z (n : Nat) : FoZ (givenR n) ∧ FoW (givenR n) := by
  have h : ∀ p ∈ givenR n, p.1 ∈ givenL := fun p hp => by rw [← given_infs n]; exact List.mem_map.2 ⟨p, hp, rfl⟩
  have h1 : ∀ x ∈ givenL, (x.name.size ≤ 100 ∧ ∀ f ∈ x.files, f.path.size ≤ 100) ∧ x.files.length ≤ 100 := by decide +kernel
  have h2 : (givenR n).length = 2 := rfl
  refine ⟨⟨by omega, fun p hp => ?_⟩, ⟨by omega, fun p hp => ?_⟩⟩
  · obtain ⟨⟨a, b⟩, c⟩ := h1 _ (h p hp)
    exact ⟨⟨by omega, fun f hf => by have := b f hf; unfold FilZ; omega⟩, by omega⟩
  · obtain ⟨⟨a, b⟩, c⟩ := h1 _ (h p hp)
    omega
theorem given_may : mayB givenL = true := by decide +kernel
def aw1 : List Inf := (prepareS givenL ⟨#[118]⟩ tB 1).1
theorem aw1_e : (prepareS givenL ⟨#[118]⟩ tB 1).2 = 0 := by decide +kernel
theorem aw2_e : (commitS givenL tW ⟨#[110, 101, 120, 116]⟩).2 = 0 := by decide +kernel
theorem aw3_e : (removeS givenL tB).2 = 1906 := by decide +kernel
theorem aw4_e : (removeS givenL tW).2 = 0 := by decide +kernel
theorem aw5_e : (writeS givenL tW ⟨#[99]⟩ ⟨#[120]⟩).2 = 0 := by decide +kernel
theorem aw6_e : (deleteS givenL tB ⟨#[97]⟩).2 = 1905 := by decide +kernel
theorem aw7_e : (labelS givenL tB ⟨#[108, 97, 98]⟩).2 = 0 := by decide +kernel
theorem aw8_e : (prepareS givenL ⟨#[118]⟩ tW 1).2 = 1904 := by decide +kernel
theorem aw9_e : (writeS [⟨⟨#[]⟩, 0, ⟨#[]⟩, ⟨#[]⟩, []⟩] tW ⟨#[99]⟩ ⟨#[120]⟩).2 = 1900 := by decide +kernel
theorem aw1_l : (prepareS givenL ⟨#[118]⟩ tB 1).1 = [⟨tB, 2, ⟨#[]⟩, ⟨#[]⟩, gF1⟩, ⟨⟨#[118]⟩, 1, tB, ⟨#[]⟩, gF1.map unown⟩, ⟨tW, 0, tB, ⟨#[]⟩, gF2⟩] := by decide +kernel
end Go.AM
