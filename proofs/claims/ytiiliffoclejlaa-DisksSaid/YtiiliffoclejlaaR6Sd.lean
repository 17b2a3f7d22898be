import Derived.Test.YtiiliffoclejlaaR6K
import Derived.Test.YtiiliffoclejlaaR6J5
import Derived.Test.YtiiliffoclejlaaAm2
import Derived.KernelRfl
/- Shapes of this seat's arguments: disks, pagers, steps. -/
namespace Go.AM
open Go.Proofs Go.ChangeShapes Go.WideShapes
set_option linter.unusedVariables false
set_option maxRecDepth 1000000
theorem shpW : Shp Try.prog 27 encI 2 :=
  ⟨by kernel_rfl, encI_len, fun _ => rfl, fun {H en w base sp held fuel cs y} h => by
    obtain ⟨hl, hf⟩ := struct_cells Try.underlying27 (fun i f hi => by
      match i, hi with
      | 0, hi => cases hi; exact ⟨rfl, by kernel_rfl⟩
      | 1, hi => cases hi; exact ⟨rfl, by kernel_rfl⟩
      | i + 2, hi => simp at hi) (by kernel_rfl) h
    obtain ⟨v, n, y1, e1, t1⟩ := hf 0 _ rfl
    obtain ⟨v', n', y2, e2, t2⟩ := hf 1 _ rfl
    obtain ⟨a, ha, _⟩ := DataW.trod_int Try.underlying3 t1
    obtain ⟨b, hb, _⟩ := DataW.trod_string Try.underlying9 t2
    cases ha; cases hb
    match cs, hl, e1, e2 with
    | [_, _], _, e1, e2 => cases e1; cases e2; exact ⟨(a, b), rfl⟩⟩
theorem shpS9 : Shp Try.prog 9 (fun s : ByteArray => [Value.string s]) 1 := Shp.text Try.underlying9 (by kernel_rfl)
theorem cl3 : Try.prog.cellsOf 3 = 1 := by kernel_rfl
theorem cl4 : Try.prog.cellsOf 4 = 1 := by kernel_rfl
theorem cl9 : Try.prog.cellsOf 9 = 1 := by kernel_rfl
theorem cl22 : Try.prog.cellsOf 22 = 1 := by kernel_rfl
theorem cl23 : Try.prog.cellsOf 23 = 1 := by kernel_rfl
theorem cl27 : Try.prog.cellsOf 27 = 2 := by kernel_rfl
theorem cl61 : Try.prog.cellsOf 61 = 2 := by kernel_rfl
theorem cl25 : Try.prog.cellsOf 25 = 2 := by kernel_rfl
theorem cl63 : Try.prog.cellsOf 63 = 5 := by kernel_rfl
theorem cl29 : Try.prog.cellsOf 29 = 3 := by kernel_rfl
theorem by9 : Try.prog.bytesOf 9 = 16 := by kernel_rfl
theorem by92 : Try.prog.bytesOf 92 = 24 := by kernel_rfl
theorem by27 : Try.prog.bytesOf 27 = 24 := by kernel_rfl
theorem rb : reachBytes = 140737488351232 := by decide
theorem size_list {cs : Array Value} {n : Nat} (h : cs.size = n) : ∃ l : List Value, cs = l.toArray ∧ l.length = n := ⟨cs.toList, by simp, by simpa using h⟩
theorem entD {W : World} {r : Reach} {b0 : Nat} {H : Type} {en : TypeId × Value → H} {v : Value} {d : DataW H} {p : List MemPlace} {ρ : Rho} {A : Heap} (hv : Value.okWide Try.prog W r b0 25 v) (h : DataW.Trod en Try.prog W 0 (fun _ => true) true 25 v d p) (hw : (d.weights Try.prog 25).all (· ≤ reachBytes) = true) (hE : Ent ρ A W) :
    ∃ ρ' A' u, ∃ x : Dk, Ent ρ' A' W ∧ RhoLe ρ ρ' ∧ Ext A A' ∧ V3 ρ' u v ∧ DkR A' u x ∧ ((x.1.length + 2) * 16 ≤ 140737488355328 ∧ (x.2.length + 2) * 24 ≤ 140737488355328) := by
  obtain ⟨cs, xs, n, rfl, hsz, hc, hl, hf⟩ := open_struct (ts := [22, 23]) Try.underlying25 (by kernel_rfl) (by kernel_rfl) hv h hw
  obtain ⟨l, rfl, hll⟩ := size_list (hsz.trans cl25)
  match l, hll with
  | [c0, c1], _ =>
    obtain ⟨y0, _, t0, w0⟩ := hf 0 _ rfl
    obtain ⟨y1, _, t1, w1⟩ := hf 1 _ rfl
    obtain ⟨u0, e0, o0⟩ := hc 0 c0 rfl
    obtain ⟨u1, e1, o1⟩ := hc 1 c1 rfl
    cases e0; cases e1
    have t0 : DataW.trod en Try.prog W 0 (fun _ => true) true n 22 [c0] = some y0 := by
      have h : DataW.trod en Try.prog W 0 (fun _ => true) true n 22 (([c0, c1].drop 0).take (Try.prog.cellsOf 22)) = some y0 := t0
      rw [cl22] at h; exact h
    have t1 : DataW.trod en Try.prog W 0 (fun _ => true) true n 23 [c1] = some y1 := by
      have h : DataW.trod en Try.prog W 0 (fun _ => true) true n 23 (([c0, c1].drop 1).take (Try.prog.cellsOf 23)) = some y1 := t1
      rw [cl23] at h; exact h
    obtain ⟨r1, A1, v1, S, E1, le1, X1, V1', R1, _, b1⟩ := Ent.rowsC shpS9 Try.underlying22 o0 t0 w0 (by decide) hE
    obtain ⟨r2, A2, v2, C, E2, le2, X2, V2', R2, _, b2⟩ := Ent.rowsC shpW Try.underlying23 o1 t1 w1 (by decide) E1
    rw [by9, rb] at b1
    rw [by27, rb] at b2
    refine ⟨r2, A2, .agg #[v1, v2], (S, C), E2, le1.trans le2, X1.trans X2, ⟨_, rfl, V1'.mono le2, V2', trivial⟩, ⟨_, _, rfl, R1.ext X2, R2⟩, ?_, ?_⟩
    · show (S.length + 2) * 16 ≤ _; omega
    · show (C.length + 2) * 24 ≤ _; omega
theorem int_cell {W : World} {H : Type} {en : TypeId × Value → H} {base : Nat} {sp : Nat → Bool} {held : Bool} {fuel : Nat} {c : Value} {y : DataW H × List MemPlace} (h : DataW.trod en Try.prog W base sp held fuel 3 [c] = some y) : ∃ a, c = .int .i64 a := by
  obtain ⟨a, ha, _⟩ := DataW.trod_int Try.underlying3 h
  exact ⟨a, by simpa using ha⟩
theorem entP {W : World} {r : Reach} {b0 : Nat} {H : Type} {en : TypeId × Value → H} {v : Value} {d : DataW H} {p : List MemPlace} {ρ : Rho} {A : Heap} (hv : Value.okWide Try.prog W r b0 63 v) (h : DataW.Trod en Try.prog W 0 (fun _ => true) true 63 v d p) (hw : (d.weights Try.prog 63).all (· ≤ reachBytes) = true) (hE : Ent ρ A W) :
    ∃ ρ' A' u, ∃ x : Pg, Ent ρ' A' W ∧ RhoLe ρ ρ' ∧ Ext A A' ∧ V3 ρ' (pgV x u) v ∧ Strs A' u x.text ∧ (x.text.length + 2) * 16 ≤ 140737488355328 := by
  obtain ⟨cs, xs, n, rfl, hsz, hc, hl, hf⟩ := open_struct (ts := [3, 3, 3, 3, 22]) Try.underlying63 (by kernel_rfl) (by kernel_rfl) hv h hw
  obtain ⟨l, rfl, hll⟩ := size_list (hsz.trans cl63)
  match l, hll with
  | [c0, c1, c2, c3, c4], _ =>
    obtain ⟨y0, _, t0, w0⟩ := hf 0 _ rfl
    obtain ⟨y2, _, t2, _⟩ := hf 1 _ rfl
    obtain ⟨y3, _, t3, _⟩ := hf 2 _ rfl
    obtain ⟨y4, _, t4, w4⟩ := hf 3 _ rfl
    obtain ⟨u4, e4, o4⟩ := hc 4 c4 rfl
    cases e4
    have t0 : DataW.trod en Try.prog W 0 (fun _ => true) true n 61 [c0, c1] = some y0 := by
      have h : DataW.trod en Try.prog W 0 (fun _ => true) true n 61 (([c0, c1, c2, c3, c4].drop 0).take (Try.prog.cellsOf 61)) = some y0 := t0
      rw [cl61] at h; exact h
    have t2 : DataW.trod en Try.prog W 0 (fun _ => true) true n 3 [c2] = some y2 := by
      have h : DataW.trod en Try.prog W 0 (fun _ => true) true n 3 (([c0, c1, c2, c3, c4].drop 2).take (Try.prog.cellsOf 3)) = some y2 := t2
      rw [cl3] at h; exact h
    have t3 : DataW.trod en Try.prog W 0 (fun _ => true) true n 3 [c3] = some y3 := by
      have h : DataW.trod en Try.prog W 0 (fun _ => true) true n 3 (([c0, c1, c2, c3, c4].drop 3).take (Try.prog.cellsOf 3)) = some y3 := t3
      rw [cl3] at h; exact h
    have t4 : DataW.trod en Try.prog W 0 (fun _ => true) true n 22 [c4] = some y4 := by
      have h : DataW.trod en Try.prog W 0 (fun _ => true) true n 22 (([c0, c1, c2, c3, c4].drop 4).take (Try.prog.cellsOf 22)) = some y4 := t4
      rw [cl22] at h; exact h
    obtain ⟨_, hfh⟩ := struct_cells Try.underlying61 (fun i f hi => by
      match i, hi with
      | 0, hi => cases hi; exact ⟨rfl, by kernel_rfl⟩
      | 1, hi => cases hi; exact ⟨rfl, by kernel_rfl⟩
      | i + 2, hi => simp at hi) (by kernel_rfl) t0
    obtain ⟨_, _, _, e1, s1⟩ := hfh 0 _ rfl
    obtain ⟨_, _, _, e2, s2⟩ := hfh 1 _ rfl
    cases e1; cases e2
    obtain ⟨a0, rfl⟩ := int_cell s1
    obtain ⟨a1, rfl⟩ := int_cell s2
    obtain ⟨a2, rfl⟩ := int_cell t2
    obtain ⟨a3, rfl⟩ := int_cell t3
    obtain ⟨r1, A1, v1, T, E1, le1, X1, V1', R1, _, b1⟩ := Ent.rowsC shpS9 Try.underlying22 o4 t4 w4 (by decide) hE
    rw [by9, rb] at b1
    exact ⟨r1, A1, v1, ⟨a0, a1, a2, a3, T⟩, E1, le1, X1, ⟨_, rfl, V1.of_flat rfl, V1.of_flat rfl, V1.of_flat rfl, V1.of_flat rfl, V1', trivial⟩, R1, by show (T.length + 2) * 16 ≤ _; omega⟩
theorem entS {W : World} {r : Reach} {b0 : Nat} {H : Type} {en : TypeId × Value → H} {v : Value} {d : DataW H} {p : List MemPlace} (hv : Value.okWide Try.prog W r b0 29 v) (h : DataW.Trod en Try.prog W 0 (fun _ => true) true 29 v d p) (hw : (d.weights Try.prog 29).all (· ≤ reachBytes) = true) :
    ∃ f a t, v = .agg #[.bool f, .int .i64 a, .string t] := by
  obtain ⟨cs, xs, n, rfl, hsz, hc, hl, hf⟩ := open_struct (ts := [4, 3, 9]) Try.underlying29 (by kernel_rfl) (by kernel_rfl) hv h hw
  obtain ⟨l, rfl, hll⟩ := size_list (hsz.trans cl29)
  match l, hll with
  | [c0, c1, c2], _ =>
    obtain ⟨y0, _, t0, _⟩ := hf 0 _ rfl
    obtain ⟨y1, _, t1, _⟩ := hf 1 _ rfl
    have t0 : DataW.trod en Try.prog W 0 (fun _ => true) true n 4 [c0] = some y0 := by
      have h : DataW.trod en Try.prog W 0 (fun _ => true) true n 4 (([c0, c1, c2].drop 0).take (Try.prog.cellsOf 4)) = some y0 := t0
      rw [cl4] at h; exact h
    have t1 : DataW.trod en Try.prog W 0 (fun _ => true) true n 27 [c1, c2] = some y1 := by
      have h : DataW.trod en Try.prog W 0 (fun _ => true) true n 27 (([c0, c1, c2].drop 1).take (Try.prog.cellsOf 27)) = some y1 := t1
      rw [cl27] at h; exact h
    obtain ⟨f, hf0, _⟩ := DataW.trod_bool Try.underlying4 t0
    obtain ⟨x, hx⟩ := shpW.shp t1
    obtain rfl : c0 = .bool f := by simpa using hf0
    obtain ⟨rfl, rfl⟩ : c1 = .int .i64 x.1 ∧ c2 = .string x.2 := by simpa using hx
    exact ⟨f, x.1, x.2, rfl⟩
end Go.AM
