/- AM: operations that make one block. -/
import Derived.Test.YtiiliffoclejlaaAmOp3
namespace Go.AM
set_option linter.unusedVariables false
set_option linter.unusedSimpArgs false
section
variable {P : Program} {w : World}
/-- What an operation that makes a block leaves. -/
structure Made (P : Program) (w : World) (ρ : Rho) (s : Sem Next) (g : Nat → Value) (B : Blk) (v' : Value) (w' : World) (L : Loc) (c : Array Value) (t : TypeId) (fr : Nat × Nat) : Prop where
  run : s.run P w = .ok (.value v') w'
  heap : w'.heap = w.heap.push (.cells c t fr)
  os : w'.os = w.os
  tape : w'.tape = w.tape
  output : w'.output = w.output
  blk : L.blk = w.heap.size
  size : c.size = L.size
  esz : L.esz = B.esz
  fr : fr.2 ≤ fr.1 ∨ c.size ≤ fr.1
  cells : ∀ o v, B.at_ o = some v → ∃ v', c[o + L.shift]? = some v' ∧ V1 ρ v v'
  val : ∀ (ρ' : Rho) b, ρ' b = some L → V3 ρ' (g b) v'
theorem row_cells {ρ : Rho} {vs : List Value} {c : Array Value} {esz : Nat} (h : All2 (V1 ρ) vs c.toList) : ∀ o v, (rowBlk esz vs).at_ o = some v → ∃ v', c[o + 0]? = some v' ∧ V1 ρ v v' := by
  intro o v hv
  obtain ⟨v', h1, h2⟩ := h.get (show vs[o]? = some v from hv)
  exact ⟨v', by simpa using h1, h2⟩
theorem rep_length (z : List Value) : ∀ n, (rep z n).length = n * z.length
  | 0 => by simp [rep]
  | n + 1 => by simp [rep, rep_length z n, Nat.add_mul]; omega
theorem rep_get (z : List Value) : ∀ (n i : Nat), i < n * z.length → (rep z n)[i]? = z[i % z.length]?
  | 0, i, h => by simp at h
  | n + 1, i, h => by
    simp only [rep]
    have hz : 0 < z.length := by
      rcases Nat.eq_zero_or_pos z.length with h0 | h0
      · rw [h0] at h; simp at h
      · exact h0
    by_cases h1 : i < z.length
    · rw [List.getElem?_append_left h1, Nat.mod_eq_of_lt h1]
    · rw [List.getElem?_append_right (by omega), rep_get z n (i - z.length) (by rw [Nat.add_mul] at h; omega)]
      congr 1
      rw [Nat.mod_eq_sub_mod (a := i) (by omega)]
theorem rep_range (z : List Value) (za : Array Value) (hz : za.toList = z) (n : Nat) : ((Array.range (n * z.length)).map (fun i => za[i % za.size]!)).toList = rep z n := by
  subst hz
  apply List.ext_getElem?
  intro i
  have hs : za.size = za.toList.length := by rw [Array.length_toList]
  by_cases h : i < n * za.toList.length
  · rw [rep_get za.toList n i h]
    have hz0 : 0 < za.toList.length := by
      rcases Nat.eq_zero_or_pos za.toList.length with h0 | h0
      · rw [h0] at h; simp at h
      · exact h0
    have hm : i % za.toList.length < za.toList.length := Nat.mod_lt _ hz0
    simp only [Array.getElem?_toList, Array.getElem?_map, hs]
    rw [Array.getElem?_range, if_pos h]
    simp only [Option.map_some]
    rw [getElem!_pos za (i % za.toList.length) (by omega), getElem?_pos za _ (by omega)]
  · rw [List.getElem?_eq_none (by simpa using h), List.getElem?_eq_none (by rw [rep_length]; omega)]
theorem fill_length : ∀ (ps : List (Nat × Nat × Value)) (cs : List Value) {r : List Value}, fillL cs ps = some r → r.length = cs.length
  | [], cs, r, h => by simp only [fillL, Option.some.injEq] at h; rw [h]
  | (o, n, v) :: ps, cs, r, h => by
    simp only [fillL] at h
    split at h
    · rename_i hc
      rw [fill_length ps _ h]
      have := hc.1
      simp only [List.length_append, List.length_take, List.length_drop]; omega
    · cases h
theorem al_sound {ρ : Rho} {e : Env} {f : Operand → Value} {o : Oper} {i : Ins} {g : Nat → Value} {B : Blk} (hc : cOp P o.op = some i) (h : alc i e = some (g, B)) (ha : ArgR ρ e f) :
    B.ro = false ∧ ∃ v' w' L c t fr, Made P w ρ (execOp f o) g B v' w' L c t fr := by
  obtain ⟨dst, op, ty, pos, after, guard⟩ := o
  simp only at hc
  cases op
  case box t x =>
    simp only [cOp] at hc
    split at hc <;> cases hc
    rename_i a n h1 h2
    simp only [alc] at h
    split at h
    case isFalse => cases h
    rename_i hl
    cases h
    have hv := (ha x a h1).cells hl.2
    refine ⟨rfl, .pointer (some ⟨w.heap.size, 0, none⟩), { w with heap := w.heap.push (.cells (f x).cells t) }, ⟨w.heap.size, (f x).cells.size, n, 0⟩, (f x).cells, t, (0, 0), ⟨?_, rfl, rfl, rfl, rfl, rfl, rfl, rfl, .inl (Nat.le_refl _), row_cells hv, fun ρ' b hb => V3.ptr (o := 0) hb⟩⟩
    simp [execOp, Instr.box, newVar, newRow]
  case alloc t =>
    simp only [cOp, Option.map_eq_some_iff] at hc
    obtain ⟨z, h1, rfl⟩ := hc
    simp only [alc] at h
    cases h
    obtain ⟨inf, v, q1, q2, q3, q4, q5, q6⟩ := zero_inv h1
    have hv : All2 (V1 ρ) z v.cells.toList := by rw [q3]; exact All2.refl fun a ha => V1.of_flat (List.all_eq_true.1 q5 a ha)
    refine ⟨rfl, .pointer (some ⟨w.heap.size, 0, none⟩), { w with heap := w.heap.push (.cells v.cells t) }, ⟨w.heap.size, v.cells.size, z.length, 0⟩, v.cells, t, (0, 0), ⟨?_, rfl, rfl, rfl, rfl, rfl, rfl, rfl, .inl (Nat.le_refl _), row_cells hv, fun ρ' b hb => V3.ptr (o := 0) hb⟩⟩
    simp [execOp, Instr.alloc, newVar, newRow, run_zero q1 q2]
  case buildSlice t len parts =>
    simp only [cOp] at hc
    split at hc <;> try (cases hc)
    rename_i el h1
    split at hc <;> try (cases hc)
    rename_i z h2
    split at hc <;> try (cases hc)
    rename_i hsz
    simp only [Option.map_eq_some_iff] at hc
    obtain ⟨ps, h3, rfl⟩ := hc
    simp only [alc] at h
    split at h
    case h_2 => cases h
    rename_i r hf
    split at h
    case isFalse => cases h
    rename_i hone
    cases h
    obtain ⟨inf, v, q1, q2, q3, q4, q5, q6⟩ := zero_inv h2
    have hrep : All2 (V1 ρ) (rep z len) ((Array.range (len * z.length)).map (fun i => v.cells[i % v.cells.size]!)).toList := by
      rw [rep_range z v.cells q3]
      refine All2.refl fun a ha => V1.of_flat ?_
      have : ∀ n, ∀ a ∈ rep z n, flat1 a = true := by
        intro n
        induction n with
        | zero => intro a h; simp [rep] at h
        | succ n ih => intro a h; simp only [rep, List.mem_append] at h; rcases h with h | h; exact List.all_eq_true.1 q5 a h; exact ih a h
      exact this len a ha
    obtain ⟨r', g1, g2⟩ := fill_sound ha parts.toList h3 hf hrep
    have hm : (parts.map fun (i, x) => (i, f x)).toList = parts.toList.map fun p => (p.1, f p.2) := by simp
    have hlr : r'.size = len * z.length := by
      have h7 := fill_length _ _ hf
      have : r.length = r'.size := by have := g2.length; simpa using this
      rw [← this, h7, rep_length]
    refine ⟨rfl, .slice (some ⟨w.heap.size, 0, none⟩) len len, { w with heap := w.heap.push (.cells r' el) }, ⟨w.heap.size, r'.size, z.length, 0⟩, r', el, (0, 0), ⟨?_, rfl, rfl, rfl, rfl, rfl, rfl, rfl, .inl (Nat.le_refl _), row_cells g2, fun ρ' b hb => ?_⟩⟩
    · have hfill : ∀ zz : Array Value, (len * z.length ≠ 0 → zz = v.cells) → Instr.fill (fun i => some (i * z.length, z.length)) ((Array.range (len * z.length)).map (fun i => zz[i % zz.size]!)) (parts.map fun (i, x) => (i, f x)).toList = some r' := by
        intro zz hzz
        rw [hm, ← g1]
        by_cases h0 : len * z.length = 0
        · rw [h0]; simp [show Array.range 0 = #[] from rfl]
        · rw [hzz h0]
      simp only [execOp, Instr.buildSlice, Sem.run_bind, run_und h1, Result.andThen_ok, run_sz (szOf_zero h2)]
      rw [if_neg (by omega)]
      by_cases h0 : len * z.length = 0
      · rw [if_pos h0]
        simp only [Sem.run_pure, Result.andThen_ok, Sem.run_bind]
        rw [hfill #[] (fun h => absurd h0 h)]
        simp [newRow]
      · rw [if_neg h0]
        simp only [Sem.run_pure, Result.andThen_ok, Sem.run_bind, run_zero q1 q2]
        rw [hfill v.cells (fun _ => rfl)]
        simp [newRow]
    · refine ⟨_, 0, len, hb, rfl, rfl, ?_, ?_, ?_, ?_, ?_⟩
      · omega
      · omega
      · intro _; omega
      · intro _; rfl
      · simp only [hlr]; omega
  case convert s d x =>
    simp only [cOp] at hc
    split at hc
    · cases hc; simp [alc] at h
    · rename_i el x' h1 h2 h3
      split at hc
      · rename_i h4; cases hc
        have hav := ha x x' h3
        simp only [alc] at h
        split at h
        · rename_i st hb; cases h
          rw [hb] at hav
          have hx := hav.string_inv
          let cap := st.size + w.tape w.drawn (.appendCap st.size 0 el) % (2 ^ 63 - st.size)
          let c : Array Value := st.data.map (fun b => Value.int .u8 (b.toNat : Int)) ++ Array.replicate (cap - st.size) (.int .u8 0)
          have hcs : c.size = cap := by simp only [c, Array.size_append, Array.size_map, Array.size_replicate]; show st.size + (cap - st.size) = cap; simp only [cap]; omega
          refine ⟨rfl, .slice (some ⟨w.heap.size, 0, none⟩) st.size cap, { w with drawn := w.drawn + 1, heap := w.heap.push (.cells c el (c.size, c.size + 1)) }, ⟨w.heap.size, c.size, 1, 0⟩, c, el, (c.size, c.size + 1), ⟨?_, rfl, rfl, rfl, rfl, rfl, rfl, rfl, .inr (Nat.le_refl _), ?_, fun ρ' b hb => ?_⟩⟩
          · have hfz : ∀ (w1 : World), w1.heap = w.heap.push (.cells c el (0, 0)) → w1.freeze ⟨w.heap.size, c.size, none⟩ 1 = { w1 with heap := w.heap.push (.cells c el (c.size, c.size + 1)) } := by
              intro w1 hw1
              unfold World.freeze
              rw [if_neg (by omega)]
              congr 1
              rw [hw1]
              apply Array.ext_getElem?
              intro k
              rw [Array.getElem?_modify, Array.getElem?_push, Array.getElem?_push]
              by_cases hk : w.heap.size = k
              · subst hk; simp
              · rw [if_neg hk, if_neg (fun h => hk h.symm), if_neg (fun h => hk h.symm)]
            simp only [execOp, hx, convert, Sem.run_bind, run_und h1, run_und h2, Result.andThen_ok, run_und h4, Conv.stringToBytes]
            rw [run_choose]
            simp only [Question.forced, Bool.false_eq_true, if_false, Result.andThen_ok, newRow, Sem.run_bind, run_newObj, Sem.run_pure]
            have hcap : (Question.appendCap st.size 0 el).cut (w.tape w.drawn (.appendCap st.size 0 el)) = cap := rfl
            rw [hcap]
            simp only [markStringish, Sem.run_bind, run_shape, Result.andThen_ok]
            have hsh : World.shape? { w with heap := w.heap.push (.cells c el (0, 0)), drawn := w.drawn + 1 } w.heap.size = some (el, c.size) := by
              simp [World.shape?]
            simp only [c] at hsh hfz ⊢
            rw [hsh]
            simp only [run_freeze, Result.andThen_ok]
            rw [hfz _ rfl]
          · intro o u hu
            have hu' : (rowOfBytes st)[o]? = some u := hu
            simp only [rowOfBytes, List.getElem?_map, Option.map_eq_some_iff] at hu'
            obtain ⟨bt, hbt, rfl⟩ := hu'
            refine ⟨.int .u8 (bt.toNat : Int), ?_, V1.of_flat rfl⟩
            have ho : o < st.data.size := by
              have := (List.getElem?_eq_some_iff.1 hbt).1
              simpa using this
            simp only [c, Nat.add_zero]
            rw [Array.getElem?_append_left (by simpa using ho)]
            simp only [Array.getElem?_map]
            rw [Array.getElem?_toList] at hbt
            rw [hbt]; rfl
          · refine ⟨_, 0, cap, hb, rfl, rfl, ?_, ?_, ?_, ?_, ?_⟩
            · omega
            · simp only [cap]; omega
            · intro q; omega
            · intro _; rfl
            · simp only [hcs]; omega
        · cases h
      · cases hc
    · split at hc
      · cases hc; simp [alc] at h
      · cases hc
    · cases hc
  case makeSlice t l cp =>
    simp only [cOp] at hc
    split at hc <;> try (cases hc)
    rename_i el l' c' h1 h2 h3
    split at hc <;> cases hc
    rename_i z inf h4 h5
    simp only [alc] at h
    split at h
    case h_2 => cases h
    rename_i ln cn e1 e2
    split at h
    case isFalse => cases h
    rename_i hcond
    cases h
    obtain ⟨c1, c2, c3⟩ := hcond
    obtain ⟨kl, hl⟩ := natOf_inv e1 (ha l l' h2)
    obtain ⟨kc, hcv⟩ := natOf_inv e2 (ha cp c' h3)
    obtain ⟨inf', v, q1, q2, q3, q4, q5, q6⟩ := zero_inv h4
    rw [h5] at q1; cases q1
    have hz0 := szOf_zero h4
    let c : Array Value := (Array.range (cn * z.length)).map (fun i => v.cells[i % v.cells.size]!)
    have hcl : c.toList = rep z cn := rep_range z v.cells q3 cn
    have hcs : c.size = cn * z.length := by simp [c]
    refine ⟨rfl, .slice (some ⟨w.heap.size, 0, none⟩) ln cn, { w with heap := w.heap.push (.cells c el) }, ⟨w.heap.size, c.size, z.length, 0⟩, c, el, (0, 0), ⟨?_, rfl, rfl, rfl, rfl, rfl, rfl, rfl, .inl (Nat.le_refl _), ?_, fun ρ' b hb => ?_⟩⟩
    · have w1 : IntKind.i64.wrap (ln : Int) = (ln : Int) := by
        unfold IntKind.wrap
        simp [IntKind.bits, IntKind.signed]; omega
      have w2 : IntKind.i64.wrap (cn : Int) = (cn : Int) := by
        unfold IntKind.wrap
        simp [IntKind.bits, IntKind.signed]; omega
      have t1 : ∀ n : Nat, n ≤ cn → (decide ((n : Int) < 0) || decide ((inf.bytes : Int) * (n : Int) > 2 ^ 48)) = false := by
        intro n hn
        have : inf.bytes * n ≤ inf.bytes * cn := Nat.mul_le_mul_left _ hn
        have h2 : ((inf.bytes : Int) * (n : Int)) = ((inf.bytes * n : Nat) : Int) := by simp
        rw [h2]
        simp; omega
      have hcells : ∀ zz : Array Value, (cn * z.length ≠ 0 → zz = v.cells) → ((Array.range (cn * z.length)).map (fun i => zz[i % zz.size]!)) = c := by
        intro zz hzz
        by_cases h0 : cn * z.length = 0
        · simp [c, h0, show Array.range 0 = #[] from rfl]
        · rw [hzz h0]
      simp only [execOp, Instr.makeSlice, Sem.run_bind, run_und h1, Result.andThen_ok, hl, hcv, asInt, asIntOf, Sem.run_pure, run_info h5]
      simp only [w1, w2, t1 cn (Nat.le_refl _)]
      rw [if_neg (by simp; omega)]
      simp only [Sem.run_bind, run_askRoom, Result.andThen_ok, run_sz hz0, Int.toNat_natCast]
      by_cases h0 : cn * z.length = 0
      · rw [if_pos h0]
        simp only [Sem.run_pure, Result.andThen_ok, Sem.run_bind]
        rw [hcells #[] (fun h => absurd h0 h)]
        simp [newRow]
      · rw [if_neg h0]
        simp only [Sem.run_pure, Result.andThen_ok, Sem.run_bind, run_zero h5 q2]
        rw [hcells v.cells (fun _ => rfl)]
        simp [newRow]
    · intro o u hu
      simp only at hu
      split at hu
      · rename_i ho
        refine ⟨u, ?_, ?_⟩
        · have : c.toList[o]? = some u := by rw [hcl, rep_get z cn o ho]; exact hu
          simpa using this
        · refine V1.of_flat (List.all_eq_true.1 q5 u ?_)
          exact List.mem_of_getElem? hu
      · cases hu
    · refine ⟨_, 0, cn, hb, rfl, rfl, ?_, ?_, ?_, ?_, ?_⟩
      · omega
      · omega
      · intro _; omega
      · intro _; rfl
      · simp only [hcs]; omega
  case makeFunc fn first cap =>
    cases fn <;> simp only [cOp] at hc <;> try (cases hc; done)
    split at hc
    · simp only [Option.map_eq_some_iff] at hc; obtain ⟨_, _, rfl⟩ := hc; simp [alc] at h
    · cases hc
  case call c =>
    obtain ⟨callee, args, argTypes⟩ := c
    simp only [cOp] at hc
    cases callee
    case value g => cases g <;> simp at hc <;> obtain ⟨_, _, rfl⟩ := hc <;> simp [alc] at h
    case invoke => cases hc
    case builtin b =>
      simp only at hc
      split at hc <;> try (cases hc; done)
      cases b <;> simp only [cBuiltin, cLen, cApp, cCopy, cClear, cCap, cMM] at hc <;> try (cases hc; done)
      all_goals (repeat' split at hc)
      all_goals first | (cases hc; done) | (cases hc; simp [alc] at h; done) | (simp only [Option.map_eq_some_iff] at hc; obtain ⟨_, _, rfl⟩ := hc; simp [alc] at h; done)
  all_goals first
    | (simp only [cOp] at hc; cases hc; done)
    | (simp only [cOp, Option.map_eq_some_iff] at hc; obtain ⟨_, _, rfl⟩ := hc; simp [alc] at h; done)
    | (simp only [cOp, cBin] at hc; repeat' split at hc
       all_goals first | (cases hc; done) | (cases hc; simp [alc] at h; done) | (simp only [Option.map_eq_some_iff] at hc; obtain ⟨_, _, rfl⟩ := hc; simp [alc] at h; done))
    | trace_state
end
end Go.AM
