import Derived.Test.YtbgidagbogpfkaaDoorAh0
import Derived.Deep.AppendSrc
section TextAhOp4
/- AM: operations that make one block. -/
namespace Go.AM
set_option linter.unusedVariables false
set_option linter.unusedSimpArgs false
section
variable {P : Program} {w : World}
/-- What an operation that makes a block leaves. -/
def TyQ (B : Blk) (L : Loc) (c : Array Value) (t : TypeId) (z : Nat × Nat) : Prop := (∀ T e, B.ty = some (T, e) → L.shift = 0 ∧ t = T ∧ z = (0, 0) ∧ (e = true → c.size = B.esz)) ∧ B.room = none ∧ (B.ro = false → B.esz ≠ 1 → z = (0, 0))
structure Made (P : Program) (w : World) (ρ : Rho) (s : Sem Next) (g : Nat → Value) (B : Blk) (v' : Value) (w' : World) (L : Loc) (c : Array Value) (t : TypeId) (frz : Nat × Nat) : Prop where
  run : s.run P w = .ok (.value v') w'
  heap : w'.heap = w.heap.push (.cells c t frz)
  os : w'.os = w.os
  tape : w'.tape = w.tape
  output : w'.output = w.output
  blk : L.blk = w.heap.size
  size : c.size = L.size
  esz : L.esz = B.esz
  fr : frz.2 ≤ frz.1 ∨ c.size ≤ frz.1
  cells : ∀ o v, B.at_ o = some v → ∃ v', c[o + L.shift]? = some v' ∧ V1 ρ v v'
  val : ∀ (ρ' : Rho) b, ρ' b = some L → V3 ρ' (g b) v'
  ty : TyQ B L c t frz
theorem tyNone {B : Blk} {L : Loc} {c : Array Value} {t : TypeId} {z : Nat × Nat} (h : B.ty = none) (h2 : B.room = none) (h3 : B.ro = false → B.esz ≠ 1 → z = (0, 0)) : TyQ B L c t z := ⟨fun T e he => by rw [h] at he; (cases he), h2, h3⟩
theorem Made.tyAt {P : Program} {w : World} {ρ : Rho} {s : Sem Next} {g : Nat → Value} {B : Blk} {v' : Value} {w' : World} {L : Loc} {c : Array Value} {t : TypeId} {fr : Nat × Nat} (m : Made P w ρ s g B v' w' L c t fr) : TyAt w' L B := ⟨fun T e he => by
  obtain ⟨h1, h2, h3, h4⟩ := m.ty.1 T e he
  subst h2 h3
  exact ⟨h1, c, by rw [m.heap, m.blk]; simp, h4⟩, fun r he => (by rw [m.ty.2.1] at he; cases he), fun g1 g2 => ⟨c, t, by rw [m.heap, m.blk, m.ty.2.2 g1 g2]; simp⟩⟩
theorem row_cells {ρ : Rho} {vs : List Value} {c : Array Value} {esz : Nat} (h : All2 (V1 ρ) vs c.toList) : ∀ o v, (rowBlk esz vs).at_ o = some v → ∃ v', c[o + 0]? = some v' ∧ V1 ρ v v' := by
  intro o v hv
  obtain ⟨v', h1, h2⟩ := h.get (show vs[o]? = some v from hv)
  exact ⟨v', by simpa using h1, h2⟩
theorem rep_length (z : List Value) : ∀ n, (rep z n).length = n * z.length
  | 0 => by simp [rep]
  | n + 1 => by simp [rep, rep_length z n, Nat.add_mul]; omega
theorem rep_get (z : List Value) : ∀ (n i : Nat), i < n * z.length → (rep z n)[i]? = z[i % z.length]?
  | 0, i, h => by simp at h
  | n + 1, i, h => by
    simp only [rep]
    have hz : 0 < z.length := by
      rcases Nat.eq_zero_or_pos z.length with h0 | h0
      · rw [h0] at h; simp at h
      · exact h0
    by_cases h1 : i < z.length
    · rw [List.getElem?_append_left h1, Nat.mod_eq_of_lt h1]
    · rw [List.getElem?_append_right (by omega), rep_get z n (i - z.length) (by rw [Nat.add_mul] at h; omega)]
      congr 1
      rw [Nat.mod_eq_sub_mod (a := i) (by omega)]
theorem rep_range (z : List Value) (za : Array Value) (hz : za.toList = z) (n : Nat) : ((Array.range (n * z.length)).map (fun i => za[i % za.size]!)).toList = rep z n := by
  subst hz
  apply List.ext_getElem?
  intro i
  have hs : za.size = za.toList.length := by rw [Array.length_toList]
  by_cases h : i < n * za.toList.length
  · rw [rep_get za.toList n i h]
    have hz0 : 0 < za.toList.length := by
      rcases Nat.eq_zero_or_pos za.toList.length with h0 | h0
      · rw [h0] at h; simp at h
      · exact h0
    have hm : i % za.toList.length < za.toList.length := Nat.mod_lt _ hz0
    simp only [Array.getElem?_toList, Array.getElem?_map, hs]
    rw [Array.getElem?_range, if_pos h]
    simp only [Option.map_some]
    rw [getElem!_pos za (i % za.toList.length) (by omega), getElem?_pos za _ (by omega)]
  · rw [List.getElem?_eq_none (by simpa using h), List.getElem?_eq_none (by rw [rep_length]; omega)]
theorem fill_length : ∀ (ps : List (Nat × Nat × Value)) (cs : List Value) {r : List Value}, fillL cs ps = some r → r.length = cs.length
  | [], cs, r, h => by simp only [fillL, Option.some.injEq] at h; rw [h]
  | (o, n, v) :: ps, cs, r, h => by
    simp only [fillL] at h
    split at h
    · rename_i hc
      rw [fill_length ps _ h]
      have := hc.1
      simp only [List.length_append, List.length_take, List.length_drop]; omega
    · cases h
theorem al_sound {ρ : Rho} {e : Env} {f : Operand → Value} {o : Oper} {i : Ins} {g : Nat → Value} {B : Blk} (hc : cOp P o.op = some i) (h : alc i e = some (g, B)) (ha : ArgR ρ e f) :
    B.ro = false ∧ ∃ v' w' L c t fr, Made P w ρ (execOp f o) g B v' w' L c t fr := by
  obtain ⟨dst, op, ty0, pos, after, guard⟩ := o
  simp only at hc
  cases op
  case box t x =>
    simp only [cOp] at hc
    split at hc <;> cases hc
    rename_i a n h1 h2
    simp only [alc] at h
    split at h
    case isFalse => cases h
    rename_i hl
    cases h
    have hv := (ha x a h1).cells hl.2
    refine ⟨rfl, .pointer (some ⟨w.heap.size, 0, none⟩), { w with heap := w.heap.push (.cells (f x).cells t) }, ⟨w.heap.size, (f x).cells.size, n, 0⟩, (f x).cells, t, (0, 0), ⟨?_, rfl, rfl, rfl, rfl, rfl, rfl, rfl, .inl (Nat.le_refl _), row_cells hv, fun ρ' b hb => V3.ptr (o := 0) hb, tyNone rfl rfl fun _ _ => rfl⟩⟩
    simp [execOp, Instr.box, newVar, newRow]
  case alloc t =>
    have key : ∀ {z : List Value}, zeroOf P t = some z → ∀ ty, (∀ T e, ty = some (T, e) → t = T) → g = (fun b => ptr b 0) → B = { rowBlk z.length z with ty := ty } →
        B.ro = false ∧ ∃ v' w' L c t' fr, Made P w ρ (execOp f ⟨dst, .alloc t, ty0, pos, after, guard⟩) g B v' w' L c t' fr := by
      rintro z h1 ty hty rfl rfl
      obtain ⟨inf, v, q1, q2, q3, q4, q5, q6⟩ := zero_inv h1
      have hv : All2 (V1 ρ) z v.cells.toList := by rw [q3]; exact All2.refl fun a ha => V1.of_flat (List.all_eq_true.1 q5 a ha)
      refine ⟨rfl, .pointer (some ⟨w.heap.size, 0, none⟩), { w with heap := w.heap.push (.cells v.cells t) }, ⟨w.heap.size, v.cells.size, z.length, 0⟩, v.cells, t, (0, 0), ⟨?_, rfl, rfl, rfl, rfl, rfl, rfl, rfl, .inl (Nat.le_refl _), row_cells (esz := z.length) hv, fun ρ' b hb => V3.ptr (o := 0) hb, ⟨fun T e he => ⟨rfl, hty T e he, rfl, fun _ => by simp [rowBlk, ← q3]⟩, rfl, fun _ _ => rfl⟩⟩⟩
      simp [execOp, Instr.alloc, newVar, newRow, run_zero q1 q2]
    simp only [cOp] at hc
    split at hc
    · simp only [Option.map_eq_some_iff] at hc
      obtain ⟨z, h1, rfl⟩ := hc
      simp only [alc] at h
      cases h
      exact key h1 (some (t, true)) (fun T e he => by cases he; rfl) rfl rfl
    · simp only [Option.map_eq_some_iff] at hc
      obtain ⟨z, h1, rfl⟩ := hc
      simp only [alc] at h
      cases h
      exact key h1 none (fun T e he => by cases he) rfl rfl
  case buildSlice t len parts =>
    simp only [cOp] at hc
    split at hc <;> try (cases hc)
    rename_i el h1
    split at hc <;> try (cases hc)
    rename_i z h2
    split at hc <;> try (cases hc)
    rename_i hsz
    simp only [Option.map_eq_some_iff] at hc
    obtain ⟨ps, h3, rfl⟩ := hc
    simp only [alc] at h
    split at h
    case h_2 => cases h
    rename_i r hf
    split at h
    case isFalse => cases h
    rename_i hone
    cases h
    obtain ⟨inf, v, q1, q2, q3, q4, q5, q6⟩ := zero_inv h2
    have hrep : All2 (V1 ρ) (rep z len) ((Array.range (len * z.length)).map (fun i => v.cells[i % v.cells.size]!)).toList := by
      rw [rep_range z v.cells q3]
      refine All2.refl fun a ha => V1.of_flat ?_
      have : ∀ n, ∀ a ∈ rep z n, flat1 a = true := by
        intro n
        induction n with
        | zero => intro a h; simp [rep] at h
        | succ n ih => intro a h; simp only [rep, List.mem_append] at h; rcases h with h | h; exact List.all_eq_true.1 q5 a h; exact ih a h
      exact this len a ha
    obtain ⟨r', g1, g2⟩ := fill_sound ha parts.toList h3 hf hrep
    have hm : (parts.map fun (i, x) => (i, f x)).toList = parts.toList.map fun p => (p.1, f p.2) := by simp
    have hlr : r'.size = len * z.length := by
      have h7 := fill_length _ _ hf
      have : r.length = r'.size := by have := g2.length; simpa using this
      rw [← this, h7, rep_length]
    refine ⟨rfl, .slice (some ⟨w.heap.size, 0, none⟩) len len, { w with heap := w.heap.push (.cells r' el) }, ⟨w.heap.size, r'.size, z.length, 0⟩, r', el, (0, 0), ⟨?_, rfl, rfl, rfl, rfl, rfl, rfl, rfl, .inl (Nat.le_refl _), row_cells g2, fun ρ' b hb => ?_, tyNone rfl rfl fun _ _ => rfl⟩⟩
    · have hfill : ∀ zz : Array Value, (len * z.length ≠ 0 → zz = v.cells) → Instr.fill (fun i => some (i * z.length, z.length)) ((Array.range (len * z.length)).map (fun i => zz[i % zz.size]!)) (parts.map fun (i, x) => (i, f x)).toList = some r' := by
        intro zz hzz
        rw [hm, ← g1]
        by_cases h0 : len * z.length = 0
        · rw [h0]; simp [show Array.range 0 = #[] from rfl]
        · rw [hzz h0]
      simp only [execOp, Instr.buildSlice, Sem.run_bind, run_und h1, Result.andThen_ok, run_sz (szOf_zero h2)]
      rw [if_neg (by omega)]
      by_cases h0 : len * z.length = 0
      · rw [if_pos h0]
        simp only [Sem.run_pure, Result.andThen_ok, Sem.run_bind]
        rw [hfill #[] (fun h => absurd h0 h)]
        simp [newRow]
      · rw [if_neg h0]
        simp only [Sem.run_pure, Result.andThen_ok, Sem.run_bind, run_zero q1 q2]
        rw [hfill v.cells (fun _ => rfl)]
        simp [newRow]
    · refine ⟨_, 0, len, hb, rfl, ⟨none, rfl, fun _ => rfl⟩, ?_, ?_, ?_, ?_, ?_⟩
      · omega
      · omega
      · intro _; omega
      · intro _; rfl
      · simp only [hlr]; omega
  case convert s d x =>
    simp only [cOp] at hc
    split at hc
    · cases hc; simp [alc] at h
    · rename_i el x' h1 h2 h3
      split at hc
      · rename_i h4; cases hc
        have hav := ha x x' h3
        simp only [alc] at h
        split at h
        · rename_i st hb; cases h
          rw [hb] at hav
          have hx := hav.string_inv
          let cap := st.size + w.tape w.drawn (.appendCap st.size 0 el) % (2 ^ 63 - st.size)
          let c : Array Value := st.data.map (fun b => Value.int .u8 (b.toNat : Int)) ++ Array.replicate (cap - st.size) (.int .u8 0)
          have hcs : c.size = cap := by simp only [c, Array.size_append, Array.size_map, Array.size_replicate]; show st.size + (cap - st.size) = cap; simp only [cap]; omega
          refine ⟨rfl, .slice (some ⟨w.heap.size, 0, none⟩) st.size cap, { w with drawn := w.drawn + 1, heap := w.heap.push (.cells c el (c.size, c.size + 1)) }, ⟨w.heap.size, c.size, 1, 0⟩, c, el, (c.size, c.size + 1), ⟨?_, rfl, rfl, rfl, rfl, rfl, rfl, rfl, .inr (Nat.le_refl _), ?_, fun ρ' b hb => ?_, tyNone rfl rfl fun _ h => absurd rfl h⟩⟩
          · have hfz : ∀ (w1 : World), w1.heap = w.heap.push (.cells c el (0, 0)) → w1.freeze ⟨w.heap.size, c.size, none⟩ 1 = { w1 with heap := w.heap.push (.cells c el (c.size, c.size + 1)) } := by
              intro w1 hw1
              unfold World.freeze
              rw [if_neg (by omega)]
              congr 1
              rw [hw1]
              apply Array.ext_getElem?
              intro k
              rw [Array.getElem?_modify, Array.getElem?_push, Array.getElem?_push]
              by_cases hk : w.heap.size = k
              · subst hk; simp
              · rw [if_neg hk, if_neg (fun h => hk h.symm), if_neg (fun h => hk h.symm)]
            simp only [execOp, hx, convert, Sem.run_bind, run_und h1, run_und h2, Result.andThen_ok, run_und h4, Conv.stringToBytes]
            rw [run_choose]
            simp only [Question.forced, Bool.false_eq_true, if_false, Result.andThen_ok, newRow, Sem.run_bind, run_newObj, Sem.run_pure]
            have hcap : (Question.appendCap st.size 0 el).cut (w.tape w.drawn (.appendCap st.size 0 el)) = cap := rfl
            rw [hcap]
            simp only [markStringish, Sem.run_bind, run_shape, Result.andThen_ok]
            have hsh : World.shape? { w with heap := w.heap.push (.cells c el (0, 0)), drawn := w.drawn + 1 } w.heap.size = some (el, c.size) := by
              simp [World.shape?]
            simp only [c] at hsh hfz ⊢
            rw [hsh]
            simp only [run_freeze, Result.andThen_ok]
            rw [hfz _ rfl]
          · intro o u hu
            have hu' : (rowOfBytes st)[o]? = some u := hu
            simp only [rowOfBytes, List.getElem?_map, Option.map_eq_some_iff] at hu'
            obtain ⟨bt, hbt, rfl⟩ := hu'
            refine ⟨.int .u8 (bt.toNat : Int), ?_, V1.of_flat rfl⟩
            have ho : o < st.data.size := by
              have := (List.getElem?_eq_some_iff.1 hbt).1
              simpa using this
            simp only [c, Nat.add_zero]
            rw [Array.getElem?_append_left (by simpa using ho)]
            simp only [Array.getElem?_map]
            rw [Array.getElem?_toList] at hbt
            rw [hbt]; rfl
          · refine ⟨_, 0, cap, hb, rfl, ⟨none, rfl, fun _ => rfl⟩, ?_, ?_, ?_, ?_, ?_⟩
            · omega
            · simp only [cap]; omega
            · intro q; omega
            · intro _; rfl
            · simp only [hcs]; omega
        · cases h
      · cases hc
    · split at hc
      · cases hc; simp [alc] at h
      · cases hc
    · cases hc
  case makeSlice t l cp =>
    simp only [cOp] at hc
    split at hc <;> try (cases hc)
    rename_i el l' c' h1 h2 h3
    split at hc <;> cases hc
    rename_i z inf h4 h5
    simp only [alc] at h
    split at h
    case h_2 => cases h
    rename_i ln cn e1 e2
    split at h
    case isFalse => cases h
    rename_i hcond
    cases h
    obtain ⟨c1, c2, c3⟩ := hcond
    obtain ⟨kl, hl⟩ := natOf_inv e1 (ha l l' h2)
    obtain ⟨kc, hcv⟩ := natOf_inv e2 (ha cp c' h3)
    obtain ⟨inf', v, q1, q2, q3, q4, q5, q6⟩ := zero_inv h4
    rw [h5] at q1; cases q1
    have hz0 := szOf_zero h4
    let c : Array Value := (Array.range (cn * z.length)).map (fun i => v.cells[i % v.cells.size]!)
    have hcl : c.toList = rep z cn := rep_range z v.cells q3 cn
    have hcs : c.size = cn * z.length := by simp [c]
    refine ⟨rfl, .slice (some ⟨w.heap.size, 0, none⟩) ln cn, { w with heap := w.heap.push (.cells c el) }, ⟨w.heap.size, c.size, z.length, 0⟩, c, el, (0, 0), ⟨?_, rfl, rfl, rfl, rfl, rfl, rfl, rfl, .inl (Nat.le_refl _), ?_, fun ρ' b hb => ?_, tyNone rfl rfl fun _ _ => rfl⟩⟩
    · have w1 : IntKind.i64.wrap (ln : Int) = (ln : Int) := by
        unfold IntKind.wrap
        simp [IntKind.bits, IntKind.signed]; omega
      have w2 : IntKind.i64.wrap (cn : Int) = (cn : Int) := by
        unfold IntKind.wrap
        simp [IntKind.bits, IntKind.signed]; omega
      have t1 : ∀ n : Nat, n ≤ cn → (decide ((n : Int) < 0) || decide ((inf.bytes : Int) * (n : Int) > 2 ^ 48)) = false := by
        intro n hn
        have : inf.bytes * n ≤ inf.bytes * cn := Nat.mul_le_mul_left _ hn
        have h2 : ((inf.bytes : Int) * (n : Int)) = ((inf.bytes * n : Nat) : Int) := by simp
        rw [h2]
        simp; omega
      have hcells : ∀ zz : Array Value, (cn * z.length ≠ 0 → zz = v.cells) → ((Array.range (cn * z.length)).map (fun i => zz[i % zz.size]!)) = c := by
        intro zz hzz
        by_cases h0 : cn * z.length = 0
        · simp [c, h0, show Array.range 0 = #[] from rfl]
        · rw [hzz h0]
      simp only [execOp, Instr.makeSlice, Sem.run_bind, run_und h1, Result.andThen_ok, hl, hcv, asInt, asIntOf, Sem.run_pure, run_info h5]
      simp only [w1, w2, t1 cn (Nat.le_refl _)]
      rw [if_neg (by simp; omega)]
      simp only [Sem.run_bind, run_askRoom, Result.andThen_ok, run_sz hz0, Int.toNat_natCast]
      by_cases h0 : cn * z.length = 0
      · rw [if_pos h0]
        simp only [Sem.run_pure, Result.andThen_ok, Sem.run_bind]
        rw [hcells #[] (fun h => absurd h0 h)]
        simp [newRow]
      · rw [if_neg h0]
        simp only [Sem.run_pure, Result.andThen_ok, Sem.run_bind, run_zero h5 q2]
        rw [hcells v.cells (fun _ => rfl)]
        simp [newRow]
    · intro o u hu
      simp only at hu
      split at hu
      · rename_i ho
        refine ⟨u, ?_, ?_⟩
        · have : c.toList[o]? = some u := by rw [hcl, rep_get z cn o ho]; exact hu
          simpa using this
        · refine V1.of_flat (List.all_eq_true.1 q5 u ?_)
          exact List.mem_of_getElem? hu
      · cases hu
    · refine ⟨_, 0, cn, hb, rfl, ⟨none, rfl, fun _ => rfl⟩, ?_, ?_, ?_, ?_, ?_⟩
      · omega
      · omega
      · intro _; omega
      · intro _; rfl
      · simp only [hcs]; omega
  case makeFunc fn first cap =>
    cases fn <;> simp only [cOp] at hc <;> try (cases hc; done)
    split at hc
    · simp only [Option.map_eq_some_iff] at hc; obtain ⟨_, _, rfl⟩ := hc; simp [alc] at h
    · cases hc
  case call c =>
    obtain ⟨callee, args, argTypes⟩ := c
    simp only [cOp] at hc
    cases callee
    case value g => cases g <;> simp at hc <;> obtain ⟨_, _, rfl⟩ := hc <;> simp [alc] at h
    case invoke => cases hc
    case builtin b =>
      simp only at hc
      split at hc <;> try (cases hc; done)
      cases b <;> simp only [cBuiltin, cLen, cApp, cCopy, cClear, cCap, cMM] at hc <;> try (cases hc; done)
      all_goals (repeat' split at hc)
      all_goals first | (cases hc; done) | (cases hc; simp [alc] at h; done) | (simp only [Option.map_eq_some_iff] at hc; obtain ⟨_, _, rfl⟩ := hc; simp [alc] at h; done)
  all_goals first
    | (simp only [cOp] at hc; cases hc; done)
    | (simp only [cOp, Option.map_eq_some_iff] at hc; obtain ⟨_, _, rfl⟩ := hc; simp [alc] at h; done)
    | (simp only [cOp, cBin] at hc; repeat' split at hc
       all_goals first | (cases hc; done) | (cases hc; simp [alc] at h; done) | (simp only [Option.map_eq_some_iff] at hc; obtain ⟨_, _, rfl⟩ := hc; simp [alc] at h; done))
    | trace_state
end
end Go.AM
end TextAhOp4
section TextAhOp5
/- AM: operations that write; calls. -/
namespace Go.AM
set_option linter.unusedVariables false
set_option linter.unusedSimpArgs false
/-- Which functions may be called: those that stand in the model with a body and are not the one the model keeps for itself. -/
def Callable (P : Program) (f : FuncId) : Prop := ∃ fn, P.funcs[f]? = some fn ∧ fn.name ≠ "runtime.NumGoroutine" ∧ fn.body.isSome = true
theorem run_callFunc {P : Program} {w : World} {f : FuncId} {args : Array Value} (h : Callable P f) : (callFunc f args).run P w = .ok (.enter f args) w := by
  obtain ⟨fn, h1, h2, h3⟩ := h
  have h5 : fn.body ≠ none := by intro hb; rw [hb] at h3; cases h3
  simp [callFunc, h1, h2, h5, Sem.run_ite]
/-- A call: of a function with a body, or of one that the model answers itself. -/
def Does (P : Program) (f : FuncId) (args : Array Value) (w : World) (Q : Ending → World → Prop) : Prop :=
  (Callable P f ∧ Calls P f args w Q) ∨ ∃ v w', (callFunc f args).run P w = .ok (.value v) w' ∧ Q (.returned v) w'
def CallOk (P : Program) (C : CallF) : Prop := ∀ f args H v H', C f args H = some (v, H') → ∀ ρ args' w, Hw H → RelH ρ H w → All2 (V3 ρ) args args' →
  Does P f args'.toArray w fun e w' => ∃ v' ρ', e = .returned v' ∧ V3 ρ' v v' ∧ Adv H.next ρ H w ρ' H' w'
section
variable {P : Program} {w : World}
/-- A block is forgotten. -/
theorem Adv.kill {base : Nat} {ρ : Rho} {H : Heap} (hr : RelH ρ H w) {b : Nat} {L : Loc} (hb : ρ b = some L) : Adv base ρ H w ρ (H.set b none) w where
  ext := RhoLe.refl _
  rel := ⟨fun k M hk => hr.dom k M hk, fun k M C hk hC => by
      have e : k ≠ b := fun e => by subst e; simp [Heap.set] at hC
      simp [Heap.set, e] at hC
      exact hr.blk k M C hk hC,
    fun k1 k2 M1 M2 C1 C2 g1 g2 g3 g4 g5 g6 => by
      have e1 : k1 ≠ b := fun e => by subst e; simp [Heap.set] at g3
      have e2 : k2 ≠ b := fun e => by subst e; simp [Heap.set] at g4
      simp [Heap.set, e1] at g3
      simp [Heap.set, e2] at g4
      exact hr.inj k1 k2 M1 M2 C1 C2 g1 g2 g3 g4 g5 g6, hr.j, fun k M C hk hC hro => by
      have e : k ≠ b := fun e => by subst e; simp [Heap.set] at hC
      simp [Heap.set, e] at hC
      exact hr.low k M C hk hC hro, fun k M C hk hC => by
      have e : k ≠ b := fun e => by subst e; simp [Heap.set] at hC
      simp [Heap.set, e] at hC
      exact hr.typ k M C hk hC⟩
  os := rfl
  tape := rfl
  output := rfl
  size := Nat.le_refl _
  keep := fun _ _ _ => rfl
  ghost := fun k hk h0 => ⟨h0, by
    have e : k ≠ b := fun e => by subst e; rw [hb] at h0; cases h0
    simp [Heap.set, e]⟩
  fresh := fun k L h h' => by rw [h] at h'; cases h'
  next := Nat.le_refl _
  back := fun k M B' hk hB' => by
    have e : k ≠ b := fun e => by subst e; simp [Heap.set] at hB'
    simp [Heap.set, e] at hB'
    exact ⟨B', hB', rfl, rfl⟩
theorem growBy_le (need : Nat) (h : 256 ≤ need) : ∀ (r c : Nat), c ≤ 2 * need → Builtin.growBy need r c ≤ 2 * need
  | 0, c, hc => hc
  | r + 1, c, hc => by
    simp only [Builtin.growBy]
    split
    · exact hc
    · exact growBy_le need h r _ (by omega)
theorem nextcap_le (need old : Nat) (h : old < need) : Builtin.nextslicecap need old ≤ 2 * need := by
  unfold Builtin.nextslicecap
  split
  · omega
  · split
    · omega
    · exact growBy_le need (by omega) 4 old (by omega)

theorem elems_sound {ρ : Rho} {H : Heap} (hr : RelH ρ H w) {esz k : Nat} {y y' : Value} {ys : List Value} {tx : TypeId} (hk : (∃ e', P.underlying tx = some (.slice e')) ∨ P.underlying tx = some .string) (hy : V3 ρ y y') (hl : strLen y = some k) (h : elems H esz k y = some ys) :
    ∃ ys', All2 (V1 ρ) ys ys' ∧ ys.length = k * esz ∧ Src P esz tx y' k ys' w := by
  have mk : ∀ ys', All2 (V1 ρ) ys ys' → ys.length = k * esz → (∀ w' : World, (Builtin.lenOf y').run P w' = .ok k w') → (∀ w' : World, w'.heap = w.heap → (Builtin.firstCells esz k y').run P w' = .ok ys'.toArray w') →
      ∃ ys', All2 (V1 ρ) ys ys' ∧ ys.length = k * esz ∧ Src P esz tx y' k ys' w := by
    intro ys' h1 h2 h3 h4
    refine ⟨ys', h1, h2, hk, h3, h4 w rfl, h4 w.drew rfl, by rw [← h1.length, h2], fun u hu => ?_⟩
    obtain ⟨i, hi, hiv⟩ := List.mem_iff_getElem.1 hu
    have hi2 : i < ys.length := by rw [h1.length]; exact hi
    obtain ⟨z, hz, hV⟩ := h1.get (List.getElem?_eq_getElem hi2)
    rw [List.getElem?_eq_getElem hi] at hz
    cases hz
    rw [← hiv]; exact hV.oneCell.2
  unfold elems at h
  split at h
  · rename_i b o n c
    simp only [strLen, Option.some.injEq] at hl
    subst hl
    obtain ⟨L, o', c', s', q1, rfl, q3, q4, q5, q6, q7, q9⟩ := hy.slice_inv
    obtain ⟨ys', g1, g2, g3⟩ := row_sound hr q1 _ _ h
    refine mk ys' g1 (row_length _ _ h) (fun _ => rfl) fun w' hw' => ?_
    have hcell : ∀ a, w'.cell? a = w.cell? a := fun a => by simp [World.cell?, hw']
    by_cases h0 : 0 < n * esz
    · have hn : 0 < n := by rcases Nat.eq_zero_or_pos n with h | h; rw [h] at h0; simp at h0; exact h
      obtain rfl : s' = none := q9 (by omega)
      simp only [Builtin.firstCells]
      rw [q6 (by omega)]
      exact run_row g2 fun j v hv => by rw [hcell]; exact g3 j v hv
    · have h00 : n * esz = 0 := by omega
      have : ys' = [] := by rw [h00] at g2; simpa using g2
      subst this
      simp [Builtin.firstCells, h00, loadCells, loadCellsFrom]
  · rename_i n c
    obtain ⟨rfl, rfl, rfl⟩ := hy.nil_inv
    simp only [strLen, Option.some.injEq] at hl
    subst hl
    simp at h
    subst h
    exact mk [] trivial (by simp) (fun _ => rfl) fun w' _ => rfl
  · rename_i s
    split at h
    · rename_i he; subst he
      simp only [strLen, Option.some.injEq] at hl
      subst hl
      obtain rfl := hy.string_inv
      simp only [Option.some.injEq] at h
      have hlen : (rowOfBytes s).length = s.size := by unfold rowOfBytes; rw [List.length_map, Array.length_toList]; rfl
      have hys : ys = rowOfBytes s := by rw [← h, List.take_of_length_le (by omega)]
      subst hys
      refine mk (rowOfBytes s) (All2.refl fun a ha => V1.of_flat ?_) (by omega) (fun _ => rfl) fun w' _ => firstCells_string s w'
      unfold rowOfBytes at ha
      obtain ⟨_, _, rfl⟩ := List.mem_map.1 ha
      rfl
    · cases h
  · cases h
theorem firstN_sound {ρ : Rho} {H : Heap} (hr : RelH ρ H w) {esz k m : Nat} {y y' : Value} {ys : List Value} (hy : V3 ρ y y') (hl : strLen y = some k) (hm : m ≤ k) (h : elems H esz m y = some ys) :
    ∃ ys', All2 (V1 ρ) ys ys' ∧ ys.length = m * esz ∧ (∀ w' : World, (Builtin.lenOf y').run P w' = .ok k w') ∧ (Builtin.firstCells esz m y').run P w = .ok ys'.toArray w := by
  unfold elems at h
  split at h
  · rename_i b o n c
    simp only [strLen, Option.some.injEq] at hl
    subst hl
    obtain ⟨L, o', c', s', q1, rfl, q3, q4, q5, q6, q7, q9⟩ := hy.slice_inv
    obtain ⟨ys', g1, g2, g3⟩ := row_sound hr q1 _ _ h
    refine ⟨ys', g1, row_length _ _ h, fun _ => rfl, ?_⟩
    by_cases h0 : 0 < m * esz
    · have hn : 0 < m := by rcases Nat.eq_zero_or_pos m with h | h; rw [h] at h0; simp at h0; exact h
      obtain rfl : s' = none := q9 (by omega)
      simp only [Builtin.firstCells]
      rw [q6 (by omega)]
      exact run_row g2 g3
    · have h00 : m * esz = 0 := by omega
      have : ys' = [] := by rw [h00] at g2; simpa using g2
      subst this
      simp [Builtin.firstCells, h00, loadCells, loadCellsFrom]
  · rename_i n c
    obtain ⟨rfl, rfl, rfl⟩ := hy.nil_inv
    simp only [strLen, Option.some.injEq] at hl
    subst hl
    split at h
    · rename_i h0; cases h
      exact ⟨[], trivial, by simpa using h0.symm, fun _ => rfl, rfl⟩
    · cases h
  · rename_i s
    split at h
    · rename_i he; subst he
      simp only [strLen, Option.some.injEq] at hl
      subst hl
      obtain rfl := hy.string_inv
      simp only [Option.some.injEq] at h
      subst h
      have hlen : (rowOfBytes s).length = s.size := by unfold rowOfBytes; rw [List.length_map, Array.length_toList]; rfl
      refine ⟨(rowOfBytes s).take m, All2.refl fun a ha => V1.of_flat ?_, by rw [List.length_take]; omega, fun _ => rfl, ?_⟩
      · have := List.mem_of_mem_take ha
        unfold rowOfBytes at this
        obtain ⟨_, _, rfl⟩ := List.mem_map.1 this
        rfl
      · simp only [Builtin.firstCells, Sem.run_pure]
        congr 1
        apply Array.ext'
        simp [rowOfBytes, ByteArray.data_extract, Array.toList_extract, List.extract_eq_take_drop, List.map_take]
    · cases h
  · cases h
theorem run_copy_gen {t u ty el : TypeId} {esz : Nat} {a : Addr} {n c k : Nat} {src : Value} {ys' : List Value} {w' : World} (hu : P.underlying t = some (.slice el)) (hz : szOf P el = some esz)
    (hlen : ∀ w' : World, (Builtin.lenOf src).run P w' = .ok k w') (hcells : (Builtin.firstCells esz (Nat.min k n) src).run P w = .ok ys'.toArray w) (hst : (storeCells a ys').run P w = .ok () w') :
    (Builtin.copy_ #[t, u] ty #[.slice (some a) n c, src]).run P w = .ok (.int .i64 ((Nat.min k n : Nat) : Int)) w' := by
  unfold Builtin.copy_
  simp only [List.getElem?_toArray, List.getElem?_cons_zero, List.getElem?_cons_succ, Sem.run_bind, run_und hu, Result.andThen_ok, hlen, run_sz hz, hcells, hst, Sem.run_pure, goInt]
theorem run_copy_none {ρ : Rho} {t u ty el : TypeId} {esz k : Nat} {y y' : Value} (hu : P.underlying t = some (.slice el)) (hz : szOf P el = some esz) (hy : V3 ρ y y') (hl : strLen y = some k) :
    (Builtin.copy_ #[t, u] ty #[.slice none 0 0, y']).run P w = .ok (.int .i64 0) w := by
  have h1 : (∃ k, ∀ w' : World, (Builtin.lenOf y').run P w' = .ok k w') ∧ ∃ cs, (Builtin.firstCells esz 0 y').run P w = .ok cs w := by
    cases y <;> simp [strLen] at hl
    · obtain rfl := hy.string_inv; exact ⟨⟨_, fun _ => rfl⟩, _, rfl⟩
    · rename_i a n c
      cases a with
      | none => obtain ⟨_, _, rfl⟩ := hy.nil_inv; exact ⟨⟨_, fun _ => rfl⟩, _, rfl⟩
      | some ad => obtain ⟨L, o', c', _, _, ⟨s', rfl, _⟩, _⟩ := hy; exact ⟨⟨_, fun _ => rfl⟩, #[], by simp [Builtin.firstCells, loadCells, loadCellsFrom]⟩
  obtain ⟨⟨k', hk⟩, cs, hcs⟩ := h1
  unfold Builtin.copy_
  have hmin : Nat.min k' 0 = 0 := Nat.min_zero k'
  simp only [List.getElem?_toArray, List.getElem?_cons_zero, List.getElem?_cons_succ, Sem.run_bind, run_und hu, Result.andThen_ok, hk, run_sz hz, hmin, hcs, Sem.run_pure, goInt]
  rfl
theorem run_app_room (t tx ty e : TypeId) (i : TypeInfo) (ht : P.underlying t = some (.slice e)) (hi : P.info? e = some i) (base : Option Addr) (sLen sCap : Nat) (x : Value) (n : Nat) (news : List Value) (hs : Src P i.size tx x n news w)
    (hroom : sLen + n ≤ sCap) (w' : World) (hst : (match base with | some a => storeCells (a.add (sLen * i.size)) news | none => pure () : Sem Unit).run P w = .ok () w') :
    (Builtin.append_ #[t, tx] ty #[.slice base sLen sCap, x]).run P w = .ok (.slice base (sLen + n) sCap) w' := by
  cases base with
  | none =>
    cases hst
    rcases hs.kind with ⟨e', hk⟩ | hk <;> simp [Builtin.append_, run_underlying ht, run_underlying hk, sizeOf, typeInfo, hi, hs.len, hroom, hs.cells]
  | some a =>
    simp only at hst
    rcases hs.kind with ⟨e', hk⟩ | hk <;> simp [Builtin.append_, run_underlying ht, run_underlying hk, sizeOf, typeInfo, hi, hs.len, hroom, hs.cells, hst]
theorem zero_cells (z : Value) (n : Nat) : (Builtin.zeroCells z.cells n).toList = rep z.cells.toList n := by
  have := rep_range z.cells.toList z.cells rfl n
  unfold Builtin.zeroCells
  rw [← this, Array.length_toList]
/-- How an append runs, whatever it takes. -/
structure AppRun (P : Program) (w : World) (t tx ty e : TypeId) (inf : TypeInfo) (zv y' : Value) (k : Nat) (ys' : List Value) : Prop where
  room : ∀ (base : Option Addr) (sLen sCap : Nat) (w' : World), sLen + k ≤ sCap → (match base with | some a => storeCells (a.add (sLen * inf.size)) ys' | none => pure () : Sem Unit).run P w = .ok () w' →
    (Builtin.append_ #[t, tx] ty #[.slice base sLen sCap, y']).run P w = .ok (.slice base (sLen + k) sCap) w'
  grow : ∀ (base : Option Addr) (sLen sCap : Nat) (olds : List Value), (Builtin.firstCells inf.size sLen (.slice base sLen sCap)).run P w.drew = .ok olds.toArray w.drew → sCap < sLen + k → ((sLen + k : Nat) : Int) ≤ 9223372036854775807 →
    Builtin.nextslicecap (sLen + k) sCap * inf.bytes ≤ 281474976710656 →
    (Builtin.append_ #[t, tx] ty #[.slice base sLen sCap, y']).run P w =
      .ok (.slice (some ⟨w.heap.size, 0, none⟩) (sLen + k) (grownCap w (sLen + k) sCap e))
        (w.drew.alloc (.cells ((olds ++ ys').toArray ++ Builtin.zeroCells zv.cells (grownCap w (sLen + k) sCap e - (sLen + k))) e))
  one : ∀ u ∈ ys', u.oneCell' = true
theorem AppRun.ofSrc {t tx ty e : TypeId} {inf : TypeInfo} {zv y' : Value} {k : Nat} {ys' : List Value} (ht : P.underlying t = some (.slice e)) (hi : P.info? e = some inf) (hz : inf.zero = some zv) (hs : Src P inf.size tx y' k ys' w) : AppRun P w t tx ty e inf zv y' k ys' :=
  ⟨fun base sLen sCap w' hroom hst => run_app_room t tx ty e inf ht hi base sLen sCap y' k ys' hs hroom w' hst,
   fun base sLen sCap olds hold hg h63 hfit => run_append_grow_src w t tx ty e inf zv ht hi hz base sLen sCap olds hold y' k ys' hs hg h63 hfit, hs.one⟩
/-- Zeros: so many. -/
theorem AppRun.ofMake {t tn ty e : TypeId} {inf : TypeInfo} {zv : Value} {k : Nat} {kn : IntKind} (kk : IntKind) (ht : P.underlying t = some (.slice e)) (htn : P.underlying tn = some (.int kn)) (hi : P.info? e = some inf) (hz : inf.zero = some zv) (hzs : zv.cells.size = inf.size)
    (h1 : k * inf.bytes ≤ 2 ^ 46) (h2 : k ≤ 2 ^ 46) (h3 : zv.cells.toList.all Value.oneCell' = true) : AppRun P w t tn ty e inf zv (.int kk k) k (rep zv.cells.toList k) := by
  have hw : IntKind.i64.wrap (k : Int) = k := by rw [IntKind.wrap_i64]; omega
  have hneg : ¬ ((k : Int) < 0) := by omega
  have h48i : ¬ (281474976710656 < (k : Int) * (inf.bytes : Int)) := by rw [← Int.natCast_mul]; omega
  have hzc := zero_cells zv k
  have h0c : k * inf.size = 0 → rep zv.cells.toList k = [] := fun h0 => List.eq_nil_of_length_eq_zero (by rw [rep_length, Array.length_toList, hzs]; exact h0)
  constructor
  · intro base sLen sCap w' hroom hst
    by_cases h0 : k * inf.size = 0
    · rw [h0c h0] at hst
      cases base with
      | none =>
        cases hst
        simp [Builtin.append_, run_underlying ht, run_underlying htn, sizeOf, typeInfo, zeroValue, hi, hz, asInt, asIntOf, hw, hneg, h48i, hroom]
      | some a =>
        simp only at hst
        simp [Builtin.append_, run_underlying ht, run_underlying htn, sizeOf, typeInfo, zeroValue, hi, hz, asInt, asIntOf, hw, hneg, h48i, hroom, h0, hst]
    · cases base with
      | none =>
        cases hst
        simp [Builtin.append_, run_underlying ht, run_underlying htn, sizeOf, typeInfo, zeroValue, hi, hz, asInt, asIntOf, hw, hneg, h48i, hroom]
      | some a =>
        simp only at hst
        rw [← hzc] at hst
        simp [Builtin.append_, run_underlying ht, run_underlying htn, sizeOf, typeInfo, zeroValue, hi, hz, asInt, asIntOf, hw, hneg, h48i, hroom, h0, hst]
  · intro base sLen sCap olds hold hg h63 hfit
    have hn : ¬ (sLen + k ≤ sCap) := by omega
    have h63' : ¬ (9223372036854775807 < ((sLen : Int) + (k : Int))) := by omega
    have h48' : ¬ (281474976710656 < Builtin.nextslicecap (sLen + k) sCap * inf.bytes) := by omega
    by_cases h0 : k * inf.size = 0
    · simp [Builtin.append_, run_underlying ht, run_underlying htn, sizeOf, typeInfo, zeroValue, hi, hz, asInt, asIntOf, hw, hneg, h48i, hn, h63', h48', Question.forced, hold, newRow, grownCap, h0, h0c h0]
    · simp [Builtin.append_, run_underlying ht, run_underlying htn, sizeOf, typeInfo, zeroValue, hi, hz, asInt, asIntOf, hw, hneg, h48i, hn, h63', h48', Question.forced, hold, newRow, grownCap, h0, ← hzc]
      congr 2
      apply Array.ext'
      simp [List.append_assoc]
  · intro u hu
    have : ∀ n, ∀ a ∈ rep zv.cells.toList n, a.oneCell' = true := by
      intro n
      induction n with
      | zero => intro a h; simp [rep] at h
      | succ n ih => intro a h; simp only [rep, List.mem_append] at h; rcases h with h | h; exact List.all_eq_true.1 h3 a h; exact ih a h
    exact this k u hu
theorem app_sound {ρ : Rho} {H H' : Heap} (hr : RelH ρ H w) {esz k : Nat} {x x' v : Value} {ys ys' : List Value} {y' : Value} {t tx ty e : TypeId} {inf : TypeInfo} {zv : Value} {z : List Value}
    (ht : P.underlying t = some (.slice e)) (hz : zeroOf P e = some z) (hi : P.info? e = some inf) (hzl : z.length = esz) (hx : V3 ρ x x') (hys : All2 (V1 ρ) ys ys') (hlen : ys.length = k * esz)
    (hs : ∀ zv, inf.zero = some zv → AppRun P w t tx ty e inf zv y' k ys') (h : appV H esz inf.bytes k x ys = some (v, H')) :
    ∃ v' w' ρ', (Builtin.append_ #[t, tx] ty #[x', y']).run P w = .ok v' w' ∧ V3 ρ' v v' ∧ Adv H.next ρ H w ρ' H' w' := by
  obtain ⟨inf', zv, q1, q2, q3, q4, q5, q6⟩ := zero_inv hz
  rw [hi] at q1; cases q1
  have hsz : inf.size = esz := by omega
  subst hsz
  have ar := hs zv q2
  unfold appV at h
  split at h
  · -- nothing is appended
    rename_i hk0
    subst hk0
    split at h
    · rename_i a n c
      cases h
      have hys0 : ys' = [] := by have := hys.length; simp at hlen; rw [hlen] at this; simpa using this.symm
      subst hys0
      cases a with
      | none =>
        obtain ⟨rfl, rfl, rfl⟩ := hx.nil_inv
        exact ⟨_, w, ρ, ar.room none 0 0 w (by omega) rfl, hx, Adv.refl hr⟩
      | some ad =>
        have hx0 := hx
        obtain ⟨L, o', c', g1, g2, ⟨s', rfl, _⟩, g3, g4, _⟩ := hx
        exact ⟨_, w, ρ, ar.room _ n c' w (by omega) rfl, hx0, Adv.refl hr⟩
    · cases h
  rename_i hk0
  split at h
  · -- onto nil
    split at h
    case isFalse => cases h
    rename_i hcond
    cases h
    obtain ⟨c1, c2, c3⟩ := hcond
    obtain ⟨_, _, rfl⟩ := hx.nil_inv
    have hn := nextcap_le k 0 (by omega)
    have hrun := ar.grow none 0 0 [] (by rw [run_firstCells_none]) (by omega) (by simp; omega) (by
      simp only [Nat.zero_add]
      calc Builtin.nextslicecap k 0 * inf.bytes ≤ 2 * k * inf.bytes := Nat.mul_le_mul_right _ hn
        _ ≤ 281474976710656 := by rw [Nat.mul_assoc]; omega)
    simp only [Nat.zero_add, List.nil_append] at hrun
    have hge := grownCap_ge w k 0 e
    have hcl : (ys'.toArray ++ Builtin.zeroCells zv.cells (grownCap w k 0 e - k)).size = grownCap w k 0 e * inf.size := by
      have h1 : (Builtin.zeroCells zv.cells (grownCap w k 0 e - k)).size = (grownCap w k 0 e - k) * inf.size := by
        rw [← Array.length_toList, zero_cells, rep_length, q3, hzl]
      have h2 : ys'.length = k * inf.size := by rw [← hys.length, hlen]
      rw [Array.size_append, List.size_toArray, h1, h2, ← Nat.add_mul]; congr 1; omega
    let L : Loc := ⟨w.heap.size, grownCap w k 0 e * inf.size, inf.size, 0⟩
    refine ⟨_, _, rset ρ H.next L, hrun, ?_, ?_⟩
    · refine ⟨L, 0, grownCap w k 0 e, by simp [rset], rfl, ⟨none, rfl, fun _ => rfl⟩, ?_, ?_, ?_, ?_, ?_⟩
      · omega
      · omega
      · intro _; omega
      · intro _; rfl
      · simp [L]
    · refine Adv.alloc hr H.next (hr.none_ge (Nat.le_refl _)) (Nat.le_refl _) (by simp [Heap.add]) (by simp [Heap.add]) (rowBlk inf.size ys) (by simp [Heap.add]) (fun k hk => by simp [Heap.add, hk]) L _ e (0, 0) rfl rfl hcl rfl (.inl (Nat.le_refl _)) ?_ rfl rfl rfl (TyAt.none rfl rfl fun _ _ => ⟨_, e, Array.getElem?_push_size⟩)
      intro o u hu
      obtain ⟨u', r1, r2⟩ := hys.get (show ys[o]? = some u from hu)
      refine ⟨u', ?_, r2⟩
      have : o < ys'.toArray.size := by have := (List.getElem?_eq_some_iff.1 r1).1; simpa using this
      rw [Array.getElem?_append_left (by simpa [L] using this)]
      simpa [L] using r1
  · rename_i b o n c
    obtain ⟨L, o', c', s', g1, rfl, g3, g4, g5, g6, g7, g9⟩ := hx.slice_inv
    split at h
    · -- there is room, for sure
      rename_i hroom
      split at h
      case h_2 => cases h
      rename_i H1 hst
      cases h
      have ho := g6 (by omega)
      obtain rfl : s' = none := g9 (by omega)
      obtain ⟨w1, s1, s2⟩ := storeR_sound hr hst g1 (Nat.le_refl H.next) hys P
      refine ⟨_, w1, ρ, ar.room _ n c' w1 (by omega) ?_, ?_, s2⟩
      · simp only [add_at]
        rw [show o' + n * inf.size = o + n * inf.size + L.shift by omega]; exact s1
      · exact ⟨L, o', c', g1, rfl, ⟨none, rfl, fun _ => rfl⟩, by omega, g4, g5, g6, g7⟩
    · rename_i hnr
      split at h
      case isFalse => cases h
      rename_i hcond
      obtain ⟨c1, c2, c3⟩ := hcond
      split at h
      case h_2 => cases h
      rename_i xs hrow
      obtain ⟨xs', x1, x2, x3⟩ := row_sound hr g1 _ _ hrow
      have hxl := row_length _ _ hrow
      have hxy : All2 (V1 ρ) (xs ++ ys) (xs' ++ ys') := x1.append hys
      have hyl : ys'.length = k * inf.size := by rw [← hys.length, hlen]
      -- no room
      have grow : c' < n + k → ∀ (H0 : Heap), RelH ρ H0 w → H0.next = H.next → (∀ j, ρ j = none → True) → ∃ v' w' ρ', (Builtin.append_ #[t, tx] ty #[.slice (some ⟨L.blk, o', s'⟩) n c', y']).run P w = .ok v' w' ∧
          V3 ρ' (.slice (some ⟨H.next, 0, none⟩) (n + k) (2 * (n + k))) v' ∧ Adv H.next ρ H0 w ρ' (H0.add (rowBlk inf.size (xs ++ ys))) w' := by
        intro hlt H0 hr0 hnx _
        have hn := nextcap_le (n + k) c' hlt
        have hcells : ∀ w' : World, w'.heap = w.heap → (Builtin.firstCells inf.size n (.slice (some ⟨L.blk, o', s'⟩) n c')).run P w' = .ok xs'.toArray w' := by
          intro w' hw'
          have hcell : ∀ a, w'.cell? a = w.cell? a := fun a => by simp [World.cell?, hw']
          simp only [Builtin.firstCells]
          by_cases h0 : 0 < c / 2
          · rw [g6 h0, g9 (by omega)]; exact run_row x2 fun j v hv => by rw [hcell]; exact x3 j v hv
          · have : n = 0 := by omega
            subst this
            have : xs' = [] := by simpa using x2
            subst this
            simp [loadCells, loadCellsFrom]
        have hrun := ar.grow (some ⟨L.blk, o', s'⟩) n c' xs' (hcells w.drew rfl) hlt (by simp; omega) (by
          calc Builtin.nextslicecap (n + k) c' * inf.bytes ≤ 2 * (n + k) * inf.bytes := Nat.mul_le_mul_right _ hn
            _ ≤ 281474976710656 := by rw [Nat.mul_assoc]; omega)
        have hge := grownCap_ge w (n + k) c' e
        have hcl : ((xs' ++ ys').toArray ++ Builtin.zeroCells zv.cells (grownCap w (n + k) c' e - (n + k))).size = grownCap w (n + k) c' e * inf.size := by
          have h1 : (Builtin.zeroCells zv.cells (grownCap w (n + k) c' e - (n + k))).size = (grownCap w (n + k) c' e - (n + k)) * inf.size := by
            rw [← Array.length_toList, zero_cells, rep_length, q3, hzl]
          rw [Array.size_append, List.size_toArray, h1, List.length_append, x2, hyl, ← Nat.add_mul, ← Nat.add_mul]; congr 1; omega
        let L2 : Loc := ⟨w.heap.size, grownCap w (n + k) c' e * inf.size, inf.size, 0⟩
        refine ⟨_, _, rset ρ H.next L2, hrun, ?_, ?_⟩
        · refine ⟨L2, 0, grownCap w (n + k) c' e, by simp [rset], rfl, ⟨none, rfl, fun _ => rfl⟩, ?_, ?_, ?_, ?_, ?_⟩
          · omega
          · omega
          · intro _; omega
          · intro _; rfl
          · simp [L2]
        · refine Adv.alloc hr0 H.next (hr0.none_ge (by omega)) (Nat.le_refl _) (by simp [Heap.add]; omega) (by simp [Heap.add]) (rowBlk inf.size (xs ++ ys)) (by simp [Heap.add, hnx]) (fun k hk => by simp [Heap.add, hnx, hk]) L2 _ e (0, 0) rfl rfl hcl rfl (.inl (Nat.le_refl _)) ?_ rfl rfl rfl (TyAt.none rfl rfl fun _ _ => ⟨_, e, Array.getElem?_push_size⟩)
          intro j u hu
          obtain ⟨u', r1, r2⟩ := hxy.get (show (xs ++ ys)[j]? = some u from hu)
          refine ⟨u', ?_, r2⟩
          have : j < (xs' ++ ys').toArray.size := by have := (List.getElem?_eq_some_iff.1 r1).1; simpa using this
          rw [Array.getElem?_append_left (by simpa [L2] using this)]
          simpa [L2] using r1
      split at h
      · rename_i hodd
        cases h
        have hc' := g5 hodd
        exact grow (by omega) H hr rfl (fun _ _ => trivial)
      · rename_i heven
        split at h
        case h_2 => cases h
        rename_i B hB
        split at h
        case isFalse => cases h
        rename_i hBc
        cases h
        obtain ⟨hro, hBe⟩ := hBc
        have kl : Adv H.next ρ H w ρ (H.set b none) w := Adv.kill hr g1
        by_cases hlt : c' < n + k
        · obtain ⟨v', w', ρ', r1, r2, r3⟩ := grow hlt (H.set b none) kl.rel rfl (fun _ _ => trivial)
          exact ⟨v', w', ρ', r1, r2, kl.trans r3⟩
        · -- in place
          obtain rfl : s' = none := g9 (by omega)
          obtain ⟨cb, tb, fr, b1, b2, b3, b4, b5⟩ := hr.blk b L B g1 hB
          have hLe : L.esz = inf.size := b3.trans hBe
          have hfit : o' + n * inf.size + ys'.length ≤ cb.size := by
            rw [hyl, b2]
            have h1 : (n + k) * inf.size ≤ c' * inf.size := Nat.mul_le_mul_right _ (by omega)
            rw [hLe] at g7
            rw [Nat.add_mul] at h1
            omega
          have hone : ∀ u ∈ ys', u.oneCell' = true := ar.one
          have hrun := run_storeCells_w (P := P) L.blk (o' + n * inf.size) tb fr ys' 0 cb w b1 (b4 hro) (by simpa using hfit) hone
          let L2 : Loc := ⟨L.blk, L.size, inf.size, o'⟩
          let w1 := wput w L.blk (putsA cb (o' + n * inf.size + 0) ys') tb fr
          have hnew : ρ H.next = none := hr.none_ge (Nat.le_refl _)
          have hle : RhoLe ρ (rset ρ H.next L2) := rset_le hnew
          have hblt : b < H.next := hr.dom b L g1
          have hother : ∀ j M C, j ≠ b → ρ j = some M → H.blk j = some C → M.blk ≠ L.blk := fun j M C hj hM hC he => hj (hr.inj b j L M B C g1 hM hB hC hro he.symm).symm
          have hxs0 : ∀ j, j < n * inf.size → xs'[j]? = cb[o' + j]? := by
            intro j hj
            have hn : 0 < n := by rcases Nat.eq_zero_or_pos n with h | h; rw [h] at hj; simp at hj; exact h
            have ho := g6 (by omega)
            have hjl : j < xs'.length := by omega
            have := x3 j xs'[j] (List.getElem?_eq_getElem hjl)
            rw [add_at] at this
            simp only [World.cell?, b1] at this
            rw [List.getElem?_eq_getElem hjl, ← this, ho]
            simp
          refine ⟨_, w1, rset ρ H.next L2, ar.room _ n c' w1 (by omega) (by simp only [add_at]; exact hrun), ?_, ?_⟩
          · refine ⟨L2, o', c', by simp [rset], rfl, ⟨none, rfl, fun _ => rfl⟩, ?_, ?_, ?_, ?_, ?_⟩
            · omega
            · omega
            · intro _; omega
            · intro _; simp [L2]
            · show o' + c' * inf.size ≤ L.size
              rw [← hLe]; exact g7
          · have hlow : ∀ j M C, rset ρ H.next L2 j = some M → ((H.set b none).add (rowBlk inf.size (xs ++ ys))).blk j = some C → C.ro = false → gN ≤ M.blk := fun j M C hj hC hro' => by
              unfold rset at hj
              by_cases ej : j = H.next
              · rw [if_pos ej] at hj; cases hj
                exact hr.low b L B g1 hB hro
              · rw [if_neg ej] at hj
                have hjb : j ≠ b := fun e => by subst e; simp [Heap.add, Heap.set, ej] at hC
                have hC' : H.blk j = some C := by simpa [Heap.add, Heap.set, ej, hjb] using hC
                exact hr.low j M C hj hC' hro'
            have htyp : ∀ j M C, rset ρ H.next L2 j = some M → ((H.set b none).add (rowBlk inf.size (xs ++ ys))).blk j = some C → TyAt w1 M C := fun j M C hj hC => by
              unfold rset at hj
              by_cases ej : j = H.next
              · subst ej
                have hC' : rowBlk inf.size (xs ++ ys) = C := by simpa [Heap.add, Heap.set] using hC
                subst hC'
                refine TyAt.none rfl rfl fun _ g2 => ?_
                obtain ⟨c0, t0, u⟩ := (hr.typ b L B g1 hB).2.2 hro (by rw [hBe]; exact g2)
                rw [b1] at u; cases u
                rw [if_pos rfl] at hj; cases hj
                exact ⟨_, _, wput_heap b1⟩
              · rw [if_neg ej] at hj
                have hjb : j ≠ b := fun e => by subst e; simp [Heap.add, Heap.set, ej] at hC
                have hC' : H.blk j = some C := by simpa [Heap.add, Heap.set, ej, hjb] using hC
                exact (hr.typ j M C hj hC').keep (wput_other (hother j M C hjb hj hC'))
            refine ⟨hle, ⟨?_, ?_, ?_, gStable (fun cb2 hcb => wput_other (by have := hr.low b L B g1 hB hro; omega)) hr.j, hlow, htyp⟩, rfl, rfl, rfl, by simp [w1, wput], ?_, ?_, ?_, by simp [Heap.add, Heap.set], ?_⟩
            · intro j M hj
              unfold rset at hj
              by_cases ej : j = H.next
              · simp [Heap.add, Heap.set, ej]
              · rw [if_neg ej] at hj; have := hr.dom j M hj; simp [Heap.add, Heap.set]; omega
            · intro j M C hj hC
              unfold rset at hj
              by_cases ej : j = H.next
              · subst ej
                rw [if_pos rfl] at hj; cases hj
                have hC' : rowBlk inf.size (xs ++ ys) = C := by simpa [Heap.add, Heap.set] using hC
                subst hC'
                refine ⟨_, tb, fr, wput_heap b1, by rw [putsA_size]; exact b2, rfl, fun _ => by rw [putsA_size]; exact b4 hro, fun i u hu => ?_⟩
                obtain ⟨u', r1, r2⟩ := hxy.get (show (xs ++ ys)[i]? = some u from hu)
                refine ⟨u', ?_, r2.mono hle⟩
                show (putsA cb (o' + n * inf.size + 0) ys')[i + o']? = some u'
                by_cases hi1 : i < n * inf.size
                · rw [putsA_out ys' _ cb _ (.inl (by omega))]
                  rw [List.getElem?_append_left (by omega)] at r1
                  rw [← r1, hxs0 i hi1, Nat.add_comm i o']
                · rw [List.getElem?_append_right (by omega), x2] at r1
                  have hj2 := (List.getElem?_eq_some_iff.1 r1).1
                  rw [show i + o' = o' + n * inf.size + 0 + (i - n * inf.size) by omega, putsA_in ys' _ cb _ (by simpa using hfit) hj2]
                  exact r1
              · rw [if_neg ej] at hj
                have hjb : j ≠ b := fun e => by subst e; simp [Heap.add, Heap.set, ej] at hC
                have hC' : H.blk j = some C := by simpa [Heap.add, Heap.set, ej, hjb] using hC
                obtain ⟨c2, t2, f2, m1, m2, m3, m4, m5⟩ := hr.blk j M C hj hC'
                refine ⟨c2, t2, f2, by rw [wput_other (hother j M C hjb hj hC')]; exact m1, m2, m3, m4, fun i u hu => ?_⟩
                obtain ⟨u', r1, r2⟩ := m5 i u hu
                exact ⟨u', r1, r2.mono hle⟩
            · intro j1 j2 M1 M2 C1 C2 h1 h2 h3 h4 h5 h6
              unfold rset at h1 h2
              by_cases e1 : j1 = H.next
              · by_cases e2 : j2 = H.next
                · rw [e1, e2]
                · rw [if_pos e1] at h1; cases h1
                  rw [if_neg e2] at h2
                  have hjb : j2 ≠ b := fun e => by subst e; simp [Heap.add, Heap.set, e2] at h4
                  have hC' : H.blk j2 = some C2 := by simpa [Heap.add, Heap.set, e2, hjb] using h4
                  exact absurd h6.symm (hother j2 M2 C2 hjb h2 hC')
              · rw [if_neg e1] at h1
                have hjb1 : j1 ≠ b := fun e => by subst e; simp [Heap.add, Heap.set, e1] at h3
                have hC1 : H.blk j1 = some C1 := by simpa [Heap.add, Heap.set, e1, hjb1] using h3
                by_cases e2 : j2 = H.next
                · rw [if_pos e2] at h2; cases h2
                  exact absurd h6 (hother j1 M1 C1 hjb1 h1 hC1)
                · rw [if_neg e2] at h2
                  have hjb : j2 ≠ b := fun e => by subst e; simp [Heap.add, Heap.set, e2] at h4
                  have hC' : H.blk j2 = some C2 := by simpa [Heap.add, Heap.set, e2, hjb] using h4
                  exact hr.inj j1 j2 M1 M2 C1 C2 h1 h2 hC1 hC' h5 h6
            · intro cb2 hcb hno
              exact wput_other (fun e => hno b L B g1 hB hro e.symm)
            · intro j hj h0
              have ej : j ≠ H.next := by omega
              have ejb : j ≠ b := fun e => by subst e; rw [g1] at h0; cases h0
              exact ⟨by unfold rset; rw [if_neg ej]; exact h0, by simp [Heap.add, Heap.set, ej, ejb]⟩
            · intro j M h0 hj
              unfold rset at hj
              by_cases ej : j = H.next
              · rw [if_pos ej] at hj; cases hj
                exact ⟨by omega, .inr ⟨b, L, B, g1, hB, hro, rfl⟩⟩
              · rw [if_neg ej] at hj; rw [h0] at hj; cases hj
            · intro j M B' hj hB'
              have ej : j ≠ H.next := fun e => by subst e; rw [hnew] at hj; cases hj
              have ejb : j ≠ b := fun e => by subst e; simp [Heap.add, Heap.set, ej] at hB'
              exact ⟨B', by simpa [Heap.add, Heap.set, ej, ejb] using hB', rfl, rfl⟩
  · cases h
theorem wp_value {o : Oper} {a : Act} {K : Act → World → Prop} {Q : Exit → Act → World → Prop} {v : Value} {w' : World} (h : (execOp a.eval o).run P w = .ok (.value v) w') (hK : K (a.put o.dst v) w') : o.wp P a w K Q := by
  unfold Oper.wp; rw [h]; exact hK
theorem wp_skip' {o : Oper} {a : Act} {K : Act → World → Prop} {Q : Exit → Act → World → Prop} {w' : World} (h : (execOp a.eval o).run P w = .ok .skip w') (hK : K (a.put o.dst undef) w') : o.wp P a w K Q := by
  unfold Oper.wp; rw [h]; exact hK
theorem wp_enter {o : Oper} {a : Act} {K : Act → World → Prop} {Q : Exit → Act → World → Prop} {f : FuncId} {args : Array Value} {w' : World} (h : (execOp a.eval o).run P w = .ok (.enter f args) w')
    (hK : Calls P f args w' fun e w'' => ∃ v, e = .returned v ∧ K (a.put o.dst v) w'') : o.wp P a w K Q := by
  unfold Oper.wp; rw [h]
  refine hK.mono fun e w'' he => ?_
  obtain ⟨v, rfl, hk⟩ := he
  exact hk
theorem eff_sound {C : CallF} (hC : CallOk P C) {ρ : Rho} {e : Env} {a : Act} {N : Nat} {H H' : Heap} {o : Oper} {i : Ins} {v : Value} (hc : cOp P o.op = some i) (hk : isEff i = true) (hs : step P C i e H = some (v, H'))
    (ha : ArgR ρ e a.eval) (hw : Hw H) (hr : RelH ρ H w) (K : Act → World → Prop) (Q : Exit → Act → World → Prop) (hK : ∀ v' w' ρ', V3 ρ' v v' → Adv H.next ρ H w ρ' H' w' → K (a.put o.dst v') w') : o.wp P a w K Q := by
  obtain ⟨dst, op, ty, pos, after, guard⟩ := o
  simp only at hc
  cases op
  case store t ad x =>
    simp only [cOp] at hc
    split at hc <;> cases hc
    rename_i ad' x' n h1 h2 h3
    have hav := ha ad ad' h1
    simp only [step] at hs
    split at hs
    · rename_i b off hb
      split at hs
      · rename_i hl
        split at hs
        · rename_i H1 hst; cases hs
          rw [hb] at hav
          obtain ⟨L, q1, q2⟩ := hav.ptr_inv
          have hxr := ha x x' h2
          have hone : (ev e x').cells.toList.all Value.oneCell' = true ∨ (ev e x').cells.toList = [] := by
            cases hcs : (ev e x').cells.toList with
            | nil => exact .inr rfl
            | cons c0 cs =>
              left
              rw [hcs] at hst
              simp only [Heap.store] at hst
              split at hst
              · split at hst
                · rename_i hcnd; exact hcnd.2.2
                · cases hst
              · cases hst
          have hcells : All2 (V1 ρ) (ev e x').cells.toList (a.eval x).cells.toList := by
            rcases hone with h | h
            · exact hxr.cells h
            · exact hxr.cells (by rw [h]; rfl)
          obtain ⟨w', r1, r2⟩ := store_sound hr hst q1 (Nat.le_refl H.next) hcells P
          refine wp_skip' (w' := w') ?_ (hK undef w' ρ V3.undef r2)
          have hsz : (a.eval x).cells.size = n := by rw [← Array.length_toList, ← hcells.length]; exact hl
          simp only [execOp, Instr.storeAt, q2, Instr.sureAddr, Sem.run_bind, Sem.run_pure, Result.andThen_ok, storeVar, run_sz h3]
          rw [if_neg (by simpa using hsz)]
          simp only [r1, Result.andThen_ok]
        · cases hs
      · cases hs
    · cases hs
  case call c =>
    obtain ⟨callee, args, argTypes⟩ := c
    simp only [cOp] at hc
    cases callee
    case invoke => cases hc
    case value g =>
      cases g <;> simp at hc <;> obtain ⟨xs, h1, rfl⟩ := hc
      · rename_i n
        have hargs := args_sound ha h1
        have hgv := ha (.tmp n) (.t n) rfl
        simp only [step] at hs
        split at hs
        · rename_i fid first cap hb
          split at hs
          · rename_i hz
            rw [hb] at hgv
            obtain ⟨q1, cap', q2, q3⟩ := hgv.func_inv
            have hall : All2 (V3 ρ) (xs.map (ev e) ++ cap.toList) (args.map a.eval ++ cap').toList := by
              rw [Array.toList_append, Array.toList_map]
              exact hargs.append (q3.mono fun _ _ h => h.one.three)
            have hcall := hC _ _ _ _ _ hs ρ _ w hw hr hall
            rw [Array.toArray_toList] at hcall
            rcases hcall with ⟨hab, hcall⟩ | ⟨v0, w1, hrun, v', ρ', e0, p1, p2⟩
            · refine wp_enter (f := fid) (args := args.map a.eval ++ cap') (w' := w) ?_ ?_
              · simp only [execOp, resolve, Sem.run_bind, q2, Deferred.ofValue, Sem.run_pure, Result.andThen_ok, invoke]
                rw [show (#[] ++ args.map a.eval : Array Value) = args.map a.eval by simp]
                exact run_callFunc hab
              · refine Calls.mono hcall fun e' w'' he => ?_
                obtain ⟨v', ρ', rfl, p1, p2⟩ := he
                exact ⟨v', rfl, hK v' w'' ρ' p1 p2⟩
            · obtain rfl := Ending.returned.inj e0
              refine wp_value (v := v0) (w' := w1) ?_ (hK v0 w1 ρ' p1 p2)
              simp only [execOp, resolve, Sem.run_bind, q2, Deferred.ofValue, Sem.run_pure, Result.andThen_ok, invoke]
              rw [show (#[] ++ args.map a.eval : Array Value) = args.map a.eval by simp]
              exact hrun
          · cases hs
        · cases hs
      · rename_i fid
        have hargs := args_sound ha h1
        simp only [step] at hs
        have hcall := hC _ _ _ _ _ hs ρ (args.map a.eval).toList w hw hr (by rw [Array.toList_map]; exact hargs)
        rw [Array.toArray_toList] at hcall
        rcases hcall with ⟨hab, hcall⟩ | ⟨v0, w1, hrun, v', ρ', e0, p1, p2⟩
        · refine wp_enter (f := fid) (args := args.map a.eval) (w' := w) ?_ ?_
          · simp only [execOp, resolve, Sem.run_bind, Act.eval, Deferred.ofValue, Sem.run_pure, Result.andThen_ok, invoke]
            rw [show (#[] ++ args.map a.eval ++ #[] : Array Value) = args.map a.eval by simp]
            exact run_callFunc hab
          · refine Calls.mono hcall fun e' w'' he => ?_
            obtain ⟨v', ρ', rfl, p1, p2⟩ := he
            exact ⟨v', rfl, hK v' w'' ρ' p1 p2⟩
        · obtain rfl := Ending.returned.inj e0
          refine wp_value (v := v0) (w' := w1) ?_ (hK v0 w1 ρ' p1 p2)
          simp only [execOp, resolve, Sem.run_bind, Act.eval, Deferred.ofValue, Sem.run_pure, Result.andThen_ok, invoke]
          rw [show (#[] ++ args.map a.eval ++ #[] : Array Value) = args.map a.eval by simp]
          exact hrun
    case builtin b =>
      simp only at hc
      split at hc <;> try (cases hc; done)
      rename_i xs h1
      have hxs := args_sound ha h1
      have htl : ∀ tl, argTypes.toList = tl → argTypes = tl.toArray := fun tl h => by rw [← h]
      have two : ∀ x y, xs = [x, y] → ∃ x' y', args.map a.eval = #[x', y'] ∧ V3 ρ (ev e x) x' ∧ V3 ρ (ev e y) y' := by
        intro x y hx
        subst hx
        obtain ⟨x', l, q1, q2, q3⟩ := hxs.cons_left
        obtain ⟨y', l', rfl, q5, q6⟩ := q3.cons_left
        obtain rfl := q6.nil_left
        exact ⟨x', y', by apply Array.ext'; simpa using q1, q2, q5⟩
      have one : ∀ x, xs = [x] → ∃ x', args.map a.eval = #[x'] ∧ V3 ρ (ev e x) x' := by
        intro x hx
        subst hx
        obtain ⟨x', l, q1, q2, q3⟩ := hxs.cons_left
        obtain rfl := q3.nil_left
        exact ⟨x', by apply Array.ext'; simpa using q1, q2⟩
      have sem : ∀ (b : Builtin) (v' : Value) (w' : World), (builtin b argTypes ty (args.map fun | .const _ => true | _ => false) (args.map a.eval)).run P w = .ok (.value v') w' →
          (execOp a.eval ⟨dst, .call ⟨.builtin b, args, argTypes⟩, ty, pos, after, guard⟩).run P w = .ok (.value v') w' := by
        intro b v' w' h
        simp only [execOp, resolve, Sem.run_bind, Sem.run_pure, Result.andThen_ok, invoke]
        exact h
      cases b <;> simp only [cBuiltin] at hc <;> try (cases hc; done)
      case len => unfold cLen at hc; repeat' split at hc
                  all_goals first | (cases hc; done) | (cases hc; simp [isEff] at hk; done)
      case cap => unfold cCap at hc; repeat' split at hc
                  all_goals first | (cases hc; done) | (cases hc; simp [isEff] at hk; done)
      case min => unfold cMM at hc; repeat' split at hc
                  all_goals first | (cases hc; done) | (cases hc; simp [isEff] at hk; done)
      case max => unfold cMM at hc; repeat' split at hc
                  all_goals first | (cases hc; done) | (cases hc; simp [isEff] at hk; done)
      case append =>
        have fin : ∀ (t u el : TypeId) (x y : Arg) (z : List Value) (inf : TypeInfo) (esz : Nat), argTypes.toList = [t, u] → xs = [x, y] → P.underlying t = some (.slice el) → ((∃ e', P.underlying u = some (.slice e')) ∨ P.underlying u = some .string) → zeroOf P el = some z → P.info? el = some inf → z.length = esz →
            i = .app esz inf.bytes x y → Oper.wp P ⟨dst, .call ⟨.builtin .append, args, argTypes⟩, ty, pos, after, guard⟩ a w K Q := by
          intro t u el x y z inf esz e1 e2 e3 e4 e5 e6 e7 e8
          subst e8
          obtain ⟨x', y', g1, g2, g3⟩ := two x y e2
          have hty := htl _ e1
          simp only [step] at hs
          split at hs
          case h_2 => cases hs
          rename_i k hk1
          split at hs
          case h_2 => cases hs
          rename_i ys hel
          obtain ⟨ys', p1, p2, p3⟩ := elems_sound (P := P) hr e4 g3 hk1 hel
          obtain ⟨v', w', ρ', r1, r2, r3⟩ := app_sound (P := P) (ty := ty) (zv := default) hr e3 e5 e6 e7 g2 p1 p2 (fun zv hz => by
            have hsz : inf.size = esz := by
              obtain ⟨inf', zv', q1, q2, q3, q4, q5, q6⟩ := zero_inv e5
              rw [e6] at q1; cases q1; omega
            exact AppRun.ofSrc e3 e6 hz (by rw [hsz]; exact p3)) hs
          refine wp_value (sem _ v' w' ?_) (hK v' w' ρ' r2 r3)
          rw [g1, hty]
          simp only [builtin, Sem.run_bind, r1, Result.andThen_ok, Sem.run_pure]
        unfold cApp at hc
        split at hc
        · rename_i t u x y e1
          split at hc
          · rename_i el el' h2 h3
            split at hc
            · rename_i z n' inf h4 h5 h6
              split at hc <;> cases hc
              exact fin t u el x y z inf z.length e1 rfl h2 (.inl ⟨_, h3⟩) h4 h6 rfl rfl
            · cases hc
          · rename_i el h2 h3
            split at hc
            · rename_i z inf h4 h6; cases hc
              exact fin t u el x y [z] inf 1 e1 rfl h2 (.inr h3) h4 h6 rfl rfl
            · cases hc
          · rename_i el kn h2 h3
            split at hc
            · rename_i z inf h4 h6; cases hc
              obtain ⟨x', y', g1, g2, g3⟩ := two x y rfl
              have hty := htl _ e1
              simp only [step] at hs
              split at hs
              case h_2 => cases hs
              rename_i k hk1
              split at hs
              case isFalse => cases hs
              rename_i hkb
              obtain ⟨inf', zv, q1, q2, q3, q4, q5, q6⟩ := zero_inv h4
              rw [h6] at q1; cases q1
              obtain ⟨kk, rfl⟩ : ∃ kk, y' = .int kk k := by
                have hy := hk1
                unfold natOf at hy
                split at hy
                · rename_i kk n hev
                  split at hy <;> cases hy
                  rw [hev] at g3
                  have := g3.flat (v := .int kk n) rfl
                  refine ⟨kk, ?_⟩
                  rw [this]; congr 1; omega
                · cases hy
              have hrep : All2 (V1 ρ) (rep z k) (rep z k) := All2.refl fun a ha => V1.of_flat (by
                have : ∀ n, ∀ a ∈ rep z n, flat1 a = true := by
                  intro n
                  induction n with
                  | zero => intro a h; simp [rep] at h
                  | succ n ih => intro a h; simp only [rep, List.mem_append] at h; rcases h with h | h; exact List.all_eq_true.1 q5 a h; exact ih a h
                exact this k a ha)
              obtain ⟨v', w', ρ', r1, r2, r3⟩ := app_sound (P := P) (ty := ty) (zv := default) (y' := .int kk k) (tx := u) hr h2 h4 h6 rfl g2 hrep (rep_length z k) (fun zv2 hz2 => by
                rw [q2] at hz2; cases hz2
                rw [← q3]
                exact AppRun.ofMake kk h2 h3 h6 q2 (by rw [← Array.length_toList, q3]; omega) hkb.1 hkb.2 (by rw [q3]; exact q6)) hs
              refine wp_value (sem _ v' w' ?_) (hK v' w' ρ' r2 r3)
              rw [g1, hty]
              simp only [builtin, Sem.run_bind, r1, Result.andThen_ok, Sem.run_pure]
            · cases hc
          · cases hc
        · cases hc
      case copy =>
        have fin : ∀ (t u el : TypeId) (x y : Arg) (esz : Nat), argTypes.toList = [t, u] → xs = [x, y] → P.underlying t = some (.slice el) → ((∃ e', P.underlying u = some (.slice e')) ∨ P.underlying u = some .string) → szOf P el = some esz →
            i = .copy esz x y → Oper.wp P ⟨dst, .call ⟨.builtin .copy, args, argTypes⟩, ty, pos, after, guard⟩ a w K Q := by
          intro t u el x y esz e1 e2 e3 e4 e5 e8
          subst e8
          obtain ⟨x', y', g1, g2, g3⟩ := two x y e2
          have hty := htl _ e1
          simp only [step] at hs
          split at hs
          · rename_i b off n c k hbx hk1
            split at hs
            case h_2 => cases hs
            rename_i ys hel
            split at hs
            case h_2 => cases hs
            rename_i H1 hst
            cases hs
            rw [hbx] at g2
            obtain ⟨L, o', c', s', q1, rfl, q3, q4, q5, q6, q7, q9⟩ := g2.slice_inv
            obtain ⟨ys', p1, p2, p3⟩ := firstN_sound (P := P) hr g3 hk1 (Nat.min_le_left k n) hel
            obtain ⟨w', r1, r2⟩ := storeR_sound hr hst q1 (Nat.le_refl H.next) p1 P
            refine wp_value (sem _ (.int .i64 ((Nat.min k n : Nat) : Int)) w' ?_) (hK _ w' ρ (V1.of_flat (v := .int .i64 _) rfl).three r2)
            rw [g1, hty]
            have hst' : (storeCells ⟨L.blk, o', s'⟩ ys').run P w = .ok () w' := by
              by_cases h0 : 0 < c / 2
              · rw [q6 h0, q9 (by omega)]; exact r1
              · have hn0 : n = 0 := by omega
                have : ys' = [] := by
                  have h1 := p1.length
                  rw [p2, hn0] at h1
                  have : min k 0 = 0 := Nat.min_zero k
                  rw [this] at h1
                  simpa using h1.symm
                subst this
                simp only [storeCells, Sem.run_pure] at r1 ⊢
                exact r1
            simp only [builtin, Sem.run_bind]
            rw [run_copy_gen (P := P) e3 e5 p3.1 p3.2 hst']
            rfl
          · rename_i k hbx hk1
            cases hs
            rw [hbx] at g2
            obtain ⟨_, _, rfl⟩ := g2.nil_inv
            refine wp_value (sem _ (.int .i64 0) w ?_) (hK _ w ρ (V1.of_flat (v := .int .i64 _) rfl).three (Adv.refl hr))
            rw [g1, hty]
            simp only [builtin, Sem.run_bind]
            rw [run_copy_none (P := P) e3 e5 g3 hk1]
            rfl
          · cases hs
        unfold cCopy at hc
        split at hc
        · rename_i t u x y e1
          split at hc
          · rename_i el el' h2 h3
            split at hc
            · rename_i n n' h4 h5
              split at hc <;> cases hc
              exact fin t u el x y n e1 rfl h2 (.inl ⟨_, h3⟩) h4 rfl
            · cases hc
          · rename_i el h2 h3
            split at hc
            · rename_i h4; cases hc
              exact fin t u el x y 1 e1 rfl h2 (.inr h3) h4 rfl
            · cases hc
          · cases hc
        · cases hc
      case clear =>
        unfold cClear at hc
        split at hc
        · rename_i t x e1
          obtain ⟨x', g1, g2⟩ := one x rfl
          have hty := htl _ e1
          split at hc
          · rename_i el h2
            simp only [Option.map_eq_some_iff] at hc
            obtain ⟨z, h3, rfl⟩ := hc
            obtain ⟨inf, zv, z1, z2, z3, z4, z5, z6⟩ := zero_inv h3
            simp only [step] at hs
            split at hs
            · rename_i n c hb; cases hs
              rw [hb] at g2
              obtain ⟨rfl, rfl, rfl⟩ := g2.nil_inv
              refine wp_value (sem _ undef w ?_) (hK _ w ρ V3.undef (Adv.refl hr))
              rw [g1, hty]
              simp [builtin, Builtin.clear_, run_und h2, undef]
            · rename_i b off n c hb
              split at hs
              · rename_i H1 hst; cases hs
                rw [hb] at g2
                obtain ⟨L, o', c', s', q1, rfl, q3, q4, q5, q6, q7, q9⟩ := g2.slice_inv
                have hrr : All2 (V1 ρ) (rep z n) (Builtin.zeroCells zv.cells n).toList := by
                  rw [zero_cells, z3]
                  refine All2.refl fun a ha => V1.of_flat ?_
                  have : ∀ n, ∀ a ∈ rep z n, flat1 a = true := by
                    intro n
                    induction n with
                    | zero => intro a h; simp [rep] at h
                    | succ n ih => intro a h; simp only [rep, List.mem_append] at h; rcases h with h | h; exact List.all_eq_true.1 z5 a h; exact ih a h
                  exact this n a ha
                obtain ⟨w', r1, r2⟩ := store_sound hr hst q1 (Nat.le_refl H.next) hrr P
                refine wp_value (sem _ undef w' ?_) (hK _ w' ρ V3.undef r2)
                rw [g1, hty]
                cases n with
                | zero =>
                  have : w' = w := by
                    rw [zero_cells] at r1
                    simp only [rep, storeCells, Sem.run_pure] at r1
                    cases r1; rfl
                  subst this
                  simp [builtin, Builtin.clear_, run_und h2, undef]
                | succ n =>
                  rw [q6 (by omega), q9 (by omega)]
                  simp [builtin, Builtin.clear_, run_und h2, undef, run_zero z1 z2, r1]
              · cases hs
            · cases hs
          · cases hc
        · cases hc
  all_goals first
    | (simp only [cOp] at hc; cases hc; done)
    | (simp only [cOp, Option.map_eq_some_iff] at hc; obtain ⟨_, _, rfl⟩ := hc; simp [isEff] at hk; done)
    | (simp only [cOp, cBin] at hc; repeat' split at hc
       all_goals first | (cases hc; done) | (cases hc; simp [isEff] at hk; done) | (simp only [Option.map_eq_some_iff] at hc; obtain ⟨_, _, rfl⟩ := hc; simp [isEff] at hk; done))
    | (rename_i fn first cap; cases fn <;> simp only [cOp] at hc <;> try (cases hc; done)
       split at hc <;> try (cases hc; done)
       simp only [Option.map_eq_some_iff] at hc; obtain ⟨_, _, rfl⟩ := hc; simp [isEff] at hk; done)
    | trace_state
end
end Go.AM
end TextAhOp5
section TextAhNext
/- AM: block numbers only grow; nothing stands past the next one; what an instruction looks at. -/
namespace Go.AM
set_option linter.unusedVariables false
set_option linter.unusedSimpArgs false
def NextOk (C : CallF) : Prop := ∀ f args H v H', C f args H = some (v, H') → Hw H → Hw H' ∧ H.next ≤ H'.next
theorem Hw.add {H : Heap} (h : Hw H) (B : Blk) : Hw (H.add B) := fun b hb => by
  have h1 : H.next + 1 ≤ b := hb
  simp only [Heap.add]
  rw [if_neg (by omega)]; exact h b (by omega)
theorem Hw.set {H : Heap} (h : Hw H) {b : Nat} {f : Option Blk} (hb : b < H.next ∨ f = none) : Hw (H.set b f) := fun k hk => by
  have h1 : H.next ≤ k := hk
  simp only [Heap.set]
  by_cases e : k = b
  · rw [if_pos e]; rcases hb with hb | hb
    · omega
    · exact hb
  · rw [if_neg e]; exact h k h1
theorem Hw.lt {H : Heap} (h : Hw H) {b : Nat} {B : Blk} (hb : H.blk b = some B) : b < H.next := by
  by_cases hl : b < H.next
  · exact hl
  · rw [h b (by omega)] at hb; cases hb
theorem store_next {H H' : Heap} {b o : Nat} {vs : List Value} (h : H.store b o vs = some H') : (Hw H → Hw H') ∧ H'.next = H.next := by
  unfold Heap.store at h
  split at h
  · cases h; exact ⟨id, rfl⟩
  · split at h
    · rename_i B hB
      split at h
      · cases h; exact ⟨fun hw => hw.set (.inl (hw.lt hB)), rfl⟩
      · cases h
    · cases h
theorem storeR_next {H H' : Heap} {b o : Nat} {vs : List Value} (h : H.storeR b o vs = some H') : (Hw H → Hw H') ∧ H'.next = H.next := by
  unfold Heap.storeR at h
  split at h
  · rename_i hs; cases h; exact store_next hs
  · split at h
    · rename_i B hB
      split at h
      · split at h
        · cases h; exact ⟨fun hw => hw.set (.inl (hw.lt hB)), rfl⟩
        · cases h
      · cases h
    · cases h
theorem app_next {H H' : Heap} {esz bytes k : Nat} {x v : Value} {ys : List Value} (h : appV H esz bytes k x ys = some (v, H')) (hw : Hw H) : Hw H' ∧ H.next ≤ H'.next := by
  unfold appV at h
  split at h
  · split at h
    · cases h; exact ⟨hw, Nat.le_refl _⟩
    · cases h
  split at h
  · split at h
    · cases h; exact ⟨hw.add _, Nat.le_succ _⟩
    · cases h
  · split at h
    · split at h
      · rename_i H1 hst; cases h
        have := storeR_next hst
        exact ⟨this.1 hw, by rw [this.2]; exact Nat.le_refl _⟩
      · cases h
    · split at h
      · split at h
        · split at h
          · cases h; exact ⟨hw.add _, Nat.le_succ _⟩
          · split at h
            · split at h
              · cases h; exact ⟨(hw.set (.inr rfl)).add _, Nat.le_succ _⟩
              · cases h
            · cases h
        · cases h
      · cases h
  · cases h
theorem step_same {P : Program} {C : CallF} {i : Ins} {e : Env} {H H' : Heap} {v : Value} (h1 : isAl i = false) (h2 : isEff i = false) (h : step P C i e H = some (v, H')) : H' = H := by
  cases i <;> simp [isAl, isEff] at h1 h2 <;> simp only [step] at h
  all_goals first
    | (cases h; rfl; done)
    | (repeat' split at h
       all_goals first | (cases h; rfl; done) | (cases h; done))
theorem step_alc {P : Program} {C : CallF} {i : Ins} {e : Env} {H H' : Heap} {v : Value} (h1 : isAl i = true) (h : step P C i e H = some (v, H')) : ∃ g B, alc i e = some (g, B) ∧ v = g H.next ∧ H' = H.add B := by
  cases i <;> simp [isAl] at h1 <;> simp only [step] at h <;> (split at h; rename_i g B hg; cases h; exact ⟨g, B, hg, rfl, rfl⟩; cases h)
theorem step_next {P : Program} {C : CallF} (hC : NextOk C) {i : Ins} {e : Env} {H H' : Heap} {v : Value} (h : step P C i e H = some (v, H')) (hw : Hw H) : Hw H' ∧ H.next ≤ H'.next := by
  by_cases h2 : isEff i = true
  · cases i <;> simp [isEff] at h2 <;> simp only [step] at h
    case st n a x =>
      repeat' split at h
      all_goals first | (cases h; done) | skip
      rename_i hst; cases h
      have := store_next hst
      exact ⟨this.1 hw, by rw [this.2]; exact Nat.le_refl _⟩
    case call f xs => exact hC _ _ _ _ _ h hw
    case callV x xs =>
      repeat' split at h
      all_goals first | (cases h; done) | exact hC _ _ _ _ _ h hw
    case app esz bytes x y =>
      repeat' split at h
      all_goals first | (cases h; done) | exact app_next h hw
    case appZ esz bytes z x y =>
      repeat' split at h
      all_goals first | (cases h; done) | exact app_next h hw
    case copy esz x y =>
      repeat' split at h
      all_goals first | (cases h; done) | skip
      · rename_i hst; cases h
        have := storeR_next hst
        exact ⟨this.1 hw, by rw [this.2]; exact Nat.le_refl _⟩
      · cases h; exact ⟨hw, Nat.le_refl _⟩
    case clr z x =>
      repeat' split at h
      all_goals first | (cases h; done) | skip
      · cases h; exact ⟨hw, Nat.le_refl _⟩
      · rename_i hst; cases h
        have := store_next hst
        exact ⟨this.1 hw, by rw [this.2]; exact Nat.le_refl _⟩
    case bad => cases h
  · have h2' : isEff i = false := by simpa using h2
    by_cases h1 : isAl i = true
    · obtain ⟨g, B, _, _, rfl⟩ := step_alc h1 h
      exact ⟨hw.add B, Nat.le_succ _⟩
    · obtain rfl := step_same (by simpa using h1) h2' h
      exact ⟨hw, Nat.le_refl _⟩
theorem stepIr_next {P : Program} {C : CallF} (hC : NextOk C) {i : Ir} {e e' : Env} {H H' : Heap} (h : stepIr P C i e H = some (e', H')) (hw : Hw H) : Hw H' ∧ H.next ≤ H'.next := by
  unfold stepIr at h
  split at h
  · split at h
    · rename_i v H1 hs; cases h; exact step_next hC hs hw
    · cases h
  · cases h; exact ⟨hw, Nat.le_refl _⟩
theorem runIr_next {P : Program} {C : CallF} (hC : NextOk C) : ∀ (is : List Ir) {e e' : Env} {H H' : Heap}, runIr P C is e H = some (e', H') → Hw H → Hw H' ∧ H.next ≤ H'.next
  | [], e, e', H, H', h, hw => by cases h; exact ⟨hw, Nat.le_refl _⟩
  | i :: is, e, e', H, H', h, hw => by
    simp only [runIr] at h
    split at h
    · rename_i e1 H1 hs
      have a := stepIr_next hC hs hw
      have b := runIr_next hC is h a.1
      exact ⟨b.1, by omega⟩
    · cases h
theorem runTr_next {P : Program} {C : CallF} (hC : NextOk C) : ∀ (is : List Ir) {e : Env} {H : Heap} {l : List (Env × Heap)} {r : Env × Heap}, runTr P C is e H = some l → l.getLast? = some r → Hw H → Hw r.2 ∧ H.next ≤ r.2.next
  | [], e, H, l, r, h, hr, hw => by cases h; cases hr; exact ⟨hw, Nat.le_refl _⟩
  | i :: is, e, H, l, r, h, hr, hw => by
    simp only [runTr] at h
    split at h
    · rename_i e1 H1 hs
      split at h
      · rename_i l' hl; cases h
        have a := stepIr_next hC hs hw
        cases l' with
        | nil => exfalso; cases is <;> simp only [runTr] at hl <;> (repeat' split at hl) <;> cases hl
        | cons x xs =>
          rw [List.getLast?_cons_cons] at hr
          have b := runTr_next hC is hl hr a.1
          exact ⟨b.1, by omega⟩
      · cases h
    · cases h
theorem nxt_inv {r : Option (IEx × Env × Heap)} {f : Env → Heap → Option (IEx × Env × Heap)} {x : IEx} {e : Env} {H : Heap} (h : nxt r f = some (x, e, H)) : (∃ e1 H1, r = some (.norm, e1, H1) ∧ f e1 H1 = some (x, e, H)) ∨ (r = some (x, e, H) ∧ x ≠ .norm) := by
  cases r with
  | none => cases h
  | some q =>
    obtain ⟨y, e1, H1⟩ := q
    cases y
    · exact .inl ⟨e1, H1, rfl, h⟩
    · right; cases h; exact ⟨rfl, by simp⟩
    · right; cases h; exact ⟨rfl, by simp⟩
theorem iter_next {f : Env → Heap → Option (IEx × Env × Heap)} (hf : ∀ e H x e' H', f e H = some (x, e', H') → Hw H → Hw H' ∧ H.next ≤ H'.next) : ∀ (n : Nat) {e : Env} {H : Heap} {x : IEx} {e' : Env} {H' : Heap}, iter f n e H = some (x, e', H') → Hw H → Hw H' ∧ H.next ≤ H'.next
  | 0, _, _, _, _, _, h, _ => by cases h
  | n + 1, e, H, x, e', H', h, hw => by
    rcases nxt_inv h with ⟨e1, H1, h1, h2⟩ | ⟨h1, _⟩
    · have a := hf _ _ _ _ _ h1 hw
      have b := iter_next hf n h2 a.1
      exact ⟨b.1, by omega⟩
    · exact hf _ _ _ _ _ h1 hw
theorem exec_next {P : Program} {C : CallF} (hC : NextOk C) (n : Nat) : ∀ (c : IC) {e : Env} {H : Heap} {x : IEx} {e' : Env} {H' : Heap}, exec P C n c e H = some (x, e', H') → Hw H → Hw H' ∧ H.next ≤ H'.next := by
  intro c
  induction c with
  | skip => intro e H x e' H' h hw; cases h; exact ⟨hw, Nat.le_refl _⟩
  | exit id => intro e H x e' H' h hw; cases h; exact ⟨hw, Nat.le_refl _⟩
  | ret => intro e H x e' H' h hw; cases h; exact ⟨hw, Nat.le_refl _⟩
  | reg is =>
    intro e H x e' H' h hw
    simp only [exec] at h
    cases hs : runIr P C is e H with
    | none => rw [hs] at h; cases h
    | some q => rw [hs] at h; cases h; exact runIr_next hC is hs hw
  | regd is ch =>
    intro e H x e' H' h hw
    simp only [exec] at h
    cases hs : runD P C is ch e H with
    | none => rw [hs] at h; cases h
    | some q =>
      rw [hs] at h; cases h
      unfold runD at hs
      split at hs
      · rename_i tr ht
        split at hs
        · exact runTr_next hC is ht hs hw
        · cases hs
      · cases hs
  | seq a b iha ihb =>
    intro e H x e' H' h hw
    rcases nxt_inv h with ⟨e1, H1, h1, h2⟩ | ⟨h1, _⟩
    · have p := iha h1 hw
      have q := ihb h2 p.1
      exact ⟨q.1, by omega⟩
    · exact iha h1 hw
  | cond c a b iha ihb =>
    intro e H x e' H' h hw
    simp only [exec] at h
    split at h
    · exact iha h hw
    · exact ihb h hw
    · cases h
  | block id a iha =>
    intro e H x e' H' h hw
    simp only [exec] at h
    cases hs : exec P C n a e H with
    | none => rw [hs] at h; cases h
    | some q =>
      obtain ⟨y, e1, H1⟩ := q
      rw [hs] at h
      have p := iha hs hw
      cases y <;> simp only [unblock] at h
      · cases h; exact p
      · split at h <;> cases h <;> exact p
      · cases h; exact p
  | loop a iha =>
    intro e H x e' H' h hw
    exact iter_next (fun _ _ _ _ _ h hw => iha h hw) n h hw
theorem finish_inv {F : IFn} {r : Option (IEx × Env × Heap)} {v : Value} {H : Heap} (h : finish F r = some (v, H)) : ∃ x e, r = some (x, e, H) ∧ isEnd x = true ∧ resAll H e F.res = some v := by
  unfold finish at h
  split at h
  · rename_i x e H'
    split at h
    · rename_i hx
      split at h
      · rename_i u hu; cases h; exact ⟨x, e, rfl, hx, hu⟩
      · cases h
    · cases h
  · cases h
theorem quiet_inv {H H' : Heap} {r : Option (Value × Heap)} {v : Value} (h : quiet H r = some (v, H')) : H' = H ∧ flat v = true ∧ ∃ H1, r = some (v, H1) := by
  unfold quiet at h
  split at h
  · rename_i u H1
    split at h
    · rename_i hf; cases h; exact ⟨rfl, hf, H1, rfl⟩
    · cases h
  · cases h
theorem callN_next (K : Cfg) (hX : ∀ f g, K.X f = some g → ∀ args H v H', g args H = some (v, H') → Hw H → Hw H' ∧ H.next ≤ H'.next) : ∀ n, NextOk (callN K n)
  | 0, _, _, _, _, _, h, _ => by cases h
  | n + 1, f, args, H, v, H', h, hw => by
    simp only [callN] at h
    split at h
    · rename_i g hg; exact hX f g hg _ _ _ _ h hw
    · split at h
      · cases h
      · rename_i F hF
        split at h
        · split at h
          · obtain ⟨rfl, _, _⟩ := quiet_inv h; exact ⟨hw, Nat.le_refl _⟩
          · obtain ⟨x, e, h1, _, _⟩ := finish_inv h
            exact exec_next (callN_next K hX n) n _ h1 hw
        · cases h

/-! ### what an instruction looks at -/
theorem ev_congr {e e' : Env} {a : Arg} (h : ∀ t ∈ a.tmps, e t = e' t) : ev e a = ev e' a := by
  cases a with
  | t n => exact h n (by simp [Arg.tmps])
  | c v => rfl
theorem map_congr {e e' : Env} {xs : List Arg} (h : ∀ t ∈ xs.flatMap Arg.tmps, e t = e' t) : xs.map (ev e) = xs.map (ev e') :=
  List.map_congr_left fun a ha => ev_congr fun t ht => h t (List.mem_flatMap.2 ⟨a, ha, ht⟩)
theorem parts_congr {e e' : Env} {ps : List (Nat × Nat × Arg)} (h : ∀ t ∈ ps.flatMap (fun p => p.2.2.tmps), e t = e' t) : (ps.map fun p => (p.1, p.2.1, ev e p.2.2)) = ps.map fun p => (p.1, p.2.1, ev e' p.2.2) :=
  List.map_congr_left fun a ha => by rw [ev_congr fun t ht => h t (List.mem_flatMap.2 ⟨a, ha, ht⟩)]
theorem opt_congr {e e' : Env} {x : Option Arg} (h : ∀ t ∈ optT x, e t = e' t) : x.map (ev e) = x.map (ev e') := by
  cases x with
  | none => rfl
  | some a => simp only [Option.map_some]; rw [ev_congr h]
theorem alc_congr {e e' : Env} {i : Ins} (h : ∀ t ∈ i.tmps, e t = e' t) : alc i e = alc i e' := by
  cases i <;> simp only [Ins.tmps, List.mem_append] at h <;> simp only [alc]
  case box n x => rw [ev_congr h]
  case mkrow a b c ps => rw [parts_congr h]
  case s2b x => rw [ev_congr h]
  case mks a b c l m => rw [ev_congr fun t ht => h t (.inl ht), ev_congr fun t ht => h t (.inr ht)]
theorem step_congr {P : Program} {C : CallF} {e e' : Env} {i : Ins} {H : Heap} (h : ∀ t ∈ i.tmps, e t = e' t) : step P C i e H = step P C i e' H := by
  by_cases ha : isAl i = true
  · have := alc_congr h
    cases i <;> simp [isAl] at ha <;> simp only [step, this]
  · cases i <;> (first | (simp [isAl] at ha; done) | skip) <;> simp only [Ins.tmps, List.mem_append] at h <;> simp only [step]
    case mov x => rw [ev_congr h]
    case pick a b c => rw [ev_congr (a := a) fun t ht => h t (.inl (.inl ht)), ev_congr (a := b) fun t ht => h t (.inl (.inr ht)), ev_congr (a := c) fun t ht => h t (.inr ht)]
    case build z ps => rw [parts_congr h]
    case ld x => rw [ev_congr h]
    case ldn n x => rw [ev_congr h]
    case st n a x => rw [ev_congr (a := a) fun t ht => h t (.inl ht), ev_congr (a := x) fun t ht => h t (.inr ht)]
    case nilck x => rw [ev_congr h]
    case bin op t a x => rw [ev_congr (a := a) fun t ht => h t (.inl ht), ev_congr (a := x) fun t ht => h t (.inr ht)]
    case un op x => rw [ev_congr h]
    case ii k x => rw [ev_congr h]
    case b2s x => rw [ev_congr h]
    case clos f xs => rw [map_congr h]
    case sls x lo hi => rw [ev_congr (a := x) fun t ht => h t (.inl (.inl ht)), opt_congr (x := lo) fun t ht => h t (.inl (.inr ht)), opt_congr (x := hi) fun t ht => h t (.inr ht)]
    case slv n x lo hi mx => rw [ev_congr (a := x) fun t ht => h t (.inl (.inl (.inl ht))), opt_congr (x := lo) fun t ht => h t (.inl (.inl (.inr ht))), opt_congr (x := hi) fun t ht => h t (.inl (.inr ht)), opt_congr (x := mx) fun t ht => h t (.inr ht)]
    case fadr n x => rw [ev_congr h]
    case iadrS n a x => rw [ev_congr (a := a) fun t ht => h t (.inl ht), ev_congr (a := x) fun t ht => h t (.inr ht)]
    case iadrA m n a x => rw [ev_congr (a := a) fun t ht => h t (.inl ht), ev_congr (a := x) fun t ht => h t (.inr ht)]
    case fld a b c x => rw [ev_congr h]
    case idxA l m g a x => rw [ev_congr (a := a) fun t ht => h t (.inl ht), ev_congr (a := x) fun t ht => h t (.inr ht)]
    case idxS a x => rw [ev_congr (a := a) fun t ht => h t (.inl ht), ev_congr (a := x) fun t ht => h t (.inr ht)]
    case ext n x => rw [ev_congr h]
    case call f xs => rw [map_congr h]
    case callV x xs => rw [ev_congr (a := x) fun t ht => h t (.inl ht), map_congr fun t ht => h t (.inr ht)]
    case app m n a x => rw [ev_congr (a := a) fun t ht => h t (.inl ht), ev_congr (a := x) fun t ht => h t (.inr ht)]
    case appZ m n z a x => rw [ev_congr (a := a) fun t ht => h t (.inl ht), ev_congr (a := x) fun t ht => h t (.inr ht)]
    case lenV x => rw [ev_congr h]
    case lenS x => rw [ev_congr h]
    case copy n a x => rw [ev_congr (a := a) fun t ht => h t (.inl ht), ev_congr (a := x) fun t ht => h t (.inr ht)]
    case eqa b ss a x => rw [ev_congr (a := a) fun t ht => h t (.inl ht), ev_congr (a := x) fun t ht => h t (.inr ht)]
    case mm b a x => rw [ev_congr (a := a) fun t ht => h t (.inl ht), ev_congr (a := x) fun t ht => h t (.inr ht)]
    case clr z x => rw [ev_congr h]
    case capV x => rw [ev_congr h]
theorem wanted_congr {e e' : Env} {i : Ir} (h : ∀ t ∈ i.looks, e t = e' t) : wanted i e = wanted i e' := by
  unfold wanted
  cases hg : i.guard with
  | none => rfl
  | some p => obtain ⟨d, w⟩ := p; simp only; rw [h d (by simp [Ir.looks, hg])]
end Go.AM
end TextAhNext
section TextAhReg
/- AM: regions in the text's order. -/
namespace Go.AM
set_option linter.unusedVariables false
set_option linter.unusedSimpArgs false
section
variable {P : Program} {w : World}
theorem EnvR.put {ρ : Rho} {e : Env} {a : Act} {N : Nat} (h : EnvR ρ e a N) {v v' : Value} (hv : V3 ρ v v') {d : Option Nat} (hd : ∀ t, d = some t → t < N) : EnvR ρ (put d v e) (a.put d v') N := by
  cases d with
  | none => exact h
  | some t =>
    have ht := hd t rfl
    refine ⟨h.defers, by simp [Act.put, h.size], fun s => ?_⟩
    simp only [AM.put, upd, Act.put]
    by_cases e1 : s = t
    · subst e1
      rw [if_pos rfl]
      have : (a.tmps.setIfInBounds s v').getD s undef = v' := by
        simp [Array.getD_eq_getD_getElem?, Array.getElem?_setIfInBounds_self_of_lt (show s < a.tmps.size by rw [h.size]; exact ht)]
      rw [this]; exact hv
    · rw [if_neg e1]
      have : (a.tmps.setIfInBounds t v').getD s undef = a.tmps.getD s undef := by
        simp [Array.getD_eq_getD_getElem?, Array.getElem?_setIfInBounds_ne (show t ≠ s by omega)]
      rw [this]; exact h.slot s
theorem V3.bool_of {ρ : Rho} {v : Value} {b : Bool} (h : V3 ρ v (.bool b)) : v = .bool b := by
  cases v
  case bool c => have := h.bool_inv; cases this; rfl
  case pointer a => cases a <;> first | (cases h.2; done) | (obtain ⟨_, _, _, h⟩ := h; cases h)
  case slice a n c => cases a <;> first | (cases h.2; done) | (obtain ⟨_, _, _, _, _, ⟨_, h, _⟩, _⟩ := h; cases h)
  case func fn first cap => obtain ⟨_, _, _, h, _⟩ := h; cases h
  case agg cs => obtain ⟨_, h, _⟩ := h; cases h
  case tuple cs => obtain ⟨_, h, _⟩ := h; cases h
  case iface t p => obtain ⟨_, _, rfl, _, _, h⟩ := V0.iface_inv h; cases h
  all_goals (cases h.2)
/-- The guard says the same on both sides. -/
theorem wanted_sound {ρ : Rho} {e : Env} {a : Act} {N : Nat} (h : EnvR ρ e a N) {ops : Array Oper} {o : Oper} {i : Ir} (hc : cOper P ops o = some i) : Region.wanted o (yielded ops a.tmps) = wanted i e := by
  unfold cOper at hc
  simp only at hc
  unfold Region.wanted
  cases hg : o.guard with
  | none => rw [hg] at hc; cases hc; rfl
  | some p =>
    obtain ⟨j, wt⟩ := p
    rw [hg] at hc
    simp only at hc
    split at hc
    · rename_i d hd; cases hc
      simp only [wanted, yielded, hd, Option.bind_some]
      have hv := h.slot d
      rw [Array.getD_eq_getD_getElem?] at hv
      cases hx : a.tmps[d]? with
      | none =>
        rw [hx] at hv
        simp only [Option.getD_none] at hv
        cases he : e d with
        | bool b => rw [he] at hv; have := hv.bool_inv; cases this
        | _ => simp
      | some x =>
        rw [hx] at hv
        simp only [Option.getD_some] at hv
        cases he : e d with
        | bool b => rw [he] at hv; have := hv.bool_inv; subst this; simp
        | _ =>
          cases x with
          | bool b => rw [he] at hv; have := hv.bool_of; cases this
          | _ => simp
    · cases hc
theorem cOper_ins {ops : Array Oper} {o : Oper} {i : Ir} (hc : cOper P ops o = some i) : i.dst = o.dst ∧ (cOp P o.op = some i.ins ∨ i.ins = .bad) := by
  unfold cOper at hc
  simp only at hc
  cases hg : o.guard with
  | none => rw [hg] at hc; cases hc; exact ⟨rfl, by cases cOp P o.op <;> simp⟩
  | some p =>
    obtain ⟨j, wt⟩ := p
    rw [hg] at hc
    simp only at hc
    split at hc
    · cases hc; exact ⟨rfl, by cases cOp P o.op <;> simp⟩
    · cases hc
/-- What stands over calls. -/
structure COk (P : Program) (C : CallF) : Prop where
  call : CallOk P C
  next : NextOk C
theorem ins_sound {C : CallF} (hC : COk P C) {ρ : Rho} {e : Env} {a : Act} {H H' : Heap} {ops : Array Oper} {o : Oper} {i : Ir} {v : Value} (hc : cOper P ops o = some i) (hs : step P C i.ins e H = some (v, H'))
    (ha : ArgR ρ e a.eval) (hw : Hw H) (hr : RelH ρ H w) (K : Act → World → Prop) (Q : Exit → Act → World → Prop) (hK : ∀ v' w' ρ', V3 ρ' v v' → Adv H.next ρ H w ρ' H' w' → K (a.put o.dst v') w') : o.wp P a w K Q := by
  obtain ⟨_, hc2⟩ := cOper_ins hc
  rcases hc2 with hc2 | hbad
  · by_cases h2 : isEff i.ins = true
    · exact eff_sound (N := 0) hC.call hc2 h2 hs ha hw hr K Q hK
    · have h2' : isEff i.ins = false := by simpa using h2
      by_cases h1 : isAl i.ins = true
      · obtain ⟨g, B, h3, rfl, rfl⟩ := step_alc h1 hs
        obtain ⟨hro, v', w', L, c, t, fr, m⟩ := al_sound (P := P) (w := w) hc2 h3 ha
        refine wp_value m.run (hK v' w' (rset ρ H.next L) (m.val _ _ (by simp [rset])) ?_)
        exact Adv.alloc hr H.next (hr.none_ge (Nat.le_refl _)) (Nat.le_refl _) (by simp [Heap.add]) (by simp [Heap.add]) B (by simp [Heap.add]) (fun k hk => by simp [Heap.add, hk]) L c t fr m.heap m.blk m.size m.esz m.fr m.cells m.os m.tape m.output m.tyAt
      · obtain ⟨rfl, v', h3, h4⟩ := rd_sound (P := P) (w := w) hc2 (by simpa using h1) h2' hs ha hr
        exact wp_value h3 (hK v' w ρ h4 (Adv.refl hr))
  · rw [hbad] at hs; cases hs
def SlotsIn (N : Nat) (is : List Ir) : Prop := ∀ i ∈ is, ∀ d, i.dst = some d → d < N
theorem seq_sound {C : CallF} (hC : COk P C) {ops : Array Oper} {N : Nat} {Q : Exit → Act → World → Prop} : ∀ (l : List Oper) (k : Nat) (is : List Ir) {e e' : Env} {H H' : Heap} {a : Act} {w : World} {ρ : Rho} {base : Nat}, (∀ j, l[j]? = ops[k + j]?) → cOpers P ops l = some is → SlotsIn N is →
    runIr P C is e H = some (e', H') → EnvR ρ e a N → Hw H → RelH ρ H w → base ≤ H.next → (∀ a' w' ρ', EnvR ρ' e' a' N → Adv base ρ H w ρ' H' w' → Q .normal a' w') → wpOps P ops Q (List.range' k l.length) a w
  | [], k, is, e, e', H, H', a, w, ρ, base, hl, hc, hn, hs, he, hwf, hr, hb, hQ => by
    cases hc; cases hs
    exact hQ a w ρ he (Adv.refl hr)
  | o :: l, k, is, e, e', H, H', a, w, ρ, base, hl, hc, hn, hs, he, hwf, hr, hb, hQ => by
    simp only [cOpers] at hc
    split at hc
    case h_2 => cases hc
    rename_i i is' h1 h2
    cases hc
    have ho : ops[k]? = some o := by have := hl 0; simpa using this.symm
    have hl' : ∀ j, l[j]? = ops[k + 1 + j]? := fun j => by have := hl (j + 1); rw [show k + 1 + j = k + (j + 1) by omega]; simpa using this
    simp only [List.length_cons, List.range'_succ]
    simp only [wpOps, ho]
    rw [wanted_sound he h1]
    simp only [runIr] at hs
    split at hs
    case h_2 => cases hs
    rename_i e1 H1 hst
    have hwf1 := (stepIr_next hC.next hst hwf).1
    obtain ⟨hd, _⟩ := cOper_ins h1
    have hN : ∀ d, o.dst = some d → d < N := fun d h => hn i (by simp) d (hd.trans h)
    have hn' : SlotsIn N is' := fun j hj => hn j (by simp [hj])
    unfold stepIr at hst
    by_cases hw : wanted i e = true
    · rw [if_pos hw] at hst ⊢
      split at hst
      case h_2 => cases hst
      rename_i v H2 hstep
      cases hst
      refine .inl (ins_sound hC h1 hstep he.arg hwf hr _ _ fun v' w' ρ' hv hadv => ?_)
      have he1 : EnvR ρ' (put i.dst v e) (a.put o.dst v') N := by rw [hd]; exact (he.mono hadv.ext).put hv hN
      refine seq_sound hC l (k + 1) is' (base := base) hl' h2 hn' hs he1 hwf1 hadv.rel (Nat.le_trans hb hadv.next) fun a2 w2 ρ2 he2 hadv2 => ?_
      exact hQ a2 w2 ρ2 he2 ((hadv.base hb).trans hadv2)
    · rw [if_neg hw] at hst ⊢
      cases hst
      have he1 : EnvR ρ (put i.dst undef e) (a.put o.dst undef) N := by rw [hd]; exact he.put V3.undef hN
      exact seq_sound hC l (k + 1) is' (base := base) hl' h2 hn' hs he1 hwf hr hb hQ
theorem reg_sound {C : CallF} (hC : COk P C) {ops : Array Oper} {N id : Nat} {Q : Exit → Act → World → Prop} {is : List Ir} {e e' : Env} {H H' : Heap} {a : Act} {ρ : Rho} (hc : cOpers P ops ops.toList = some is) (hn : SlotsIn N is)
    (hs : runIr P C is e H = some (e', H')) (he : EnvR ρ e a N) (hw : Hw H) (hr : RelH ρ H w) (hQ : ∀ a' w' ρ', EnvR ρ' e' a' N → Adv H.next ρ H w ρ' H' w' → Q .normal a' w') : (Code.region id ops false).wp P Q a w := by
  refine wp_region ?_
  have := seq_sound (Q := Q) hC ops.toList 0 is (ops := ops) (base := H.next) (fun j => by simp) hc hn hs he hw hr (Nat.le_refl _) hQ
  rw [List.range_eq_range', Array.length_toList] at *
  exact this
end
end Go.AM
end TextAhReg
section TextAhDraw
/- AM: regions whose order is drawn. -/
namespace Go.AM
set_option linter.unusedVariables false
set_option linter.unusedSimpArgs false

/-! ### changing the abstract heap where nothing looks -/
theorem RelH.reheap {ρ : Rho} {H G : Heap} {w : World} (h : RelH ρ H w) (hn : H.next ≤ G.next) (hb : ∀ b L, ρ b = some L → G.blk b = H.blk b) : RelH ρ G w :=
  ⟨fun b L hL => by have := h.dom b L hL; omega, fun b L B hL hB => by rw [hb b L hL] at hB; exact h.blk b L B hL hB, fun b1 b2 L1 L2 B1 B2 g1 g2 g3 g4 g5 g6 => by
    rw [hb b1 L1 g1] at g3; rw [hb b2 L2 g2] at g4; exact h.inj b1 b2 L1 L2 B1 B2 g1 g2 g3 g4 g5 g6, h.j, fun b L B hL hB hro => by rw [hb b L hL] at hB; exact h.low b L B hL hB hro, fun b L B hL hB => by rw [hb b L hL] at hB; exact h.typ b L B hL hB⟩
theorem Adv.reheap {base : Nat} {ρ ρ' : Rho} {H H' G : Heap} {w w' : World} (a : Adv base ρ H w ρ' H' w') (hn : H.next ≤ G.next) (hd : ∀ b L, ρ' b = some L → b < G.next) (hb : ∀ b, (∃ L, ρ' b = some L) ∨ b < base → G.blk b = H'.blk b) : Adv base ρ H w ρ' G w' :=
  { a with
    rel := ⟨fun b L hL => hd b L hL, fun b L B hL hB => by rw [hb b (.inl ⟨L, hL⟩)] at hB; exact a.rel.blk b L B hL hB, fun b1 b2 L1 L2 B1 B2 g1 g2 g3 g4 g5 g6 => by
      rw [hb b1 (.inl ⟨L1, g1⟩)] at g3; rw [hb b2 (.inl ⟨L2, g2⟩)] at g4; exact a.rel.inj b1 b2 L1 L2 B1 B2 g1 g2 g3 g4 g5 g6, a.rel.j, fun b L B hL hB hro => by rw [hb b (.inl ⟨L, hL⟩)] at hB; exact a.rel.low b L B hL hB hro, fun b L B hL hB => by rw [hb b (.inl ⟨L, hL⟩)] at hB; exact a.rel.typ b L B hL hB⟩
    ghost := fun b hbb h0 => by obtain ⟨p, q⟩ := a.ghost b hbb h0; exact ⟨p, (hb b (.inr hbb)).trans q⟩
    next := hn
    back := fun b L B' hL hB' => by rw [hb b (.inl ⟨L, a.ext b L hL⟩)] at hB'; exact a.back b L B' hL hB' }
theorem Adv.src {base : Nat} {ρ ρ' : Rho} {H H' G : Heap} {w w' : World} (a : Adv base ρ H w ρ' H' w') (hn : G.next ≤ H'.next) (hb : ∀ b, (∃ L, ρ b = some L) ∨ b < base → G.blk b = H.blk b) : Adv base ρ G w ρ' H' w' :=
  { a with
    keep := fun cb hcb hno => a.keep cb hcb fun b L B hL hB hro => hno b L B hL (by rw [hb b (.inl ⟨L, hL⟩)]; exact hB) hro
    ghost := fun b hbb h0 => by obtain ⟨p, q⟩ := a.ghost b hbb h0; exact ⟨p, q.trans (hb b (.inr hbb)).symm⟩
    fresh := fun b L h0 h1 => by
      obtain ⟨p, q⟩ := a.fresh b L h0 h1
      refine ⟨p, q.imp id ?_⟩
      rintro ⟨b0, L0, B0, q1, q2, q3, q4⟩
      exact ⟨b0, L0, B0, q1, (hb b0 (.inl ⟨L0, q1⟩)).trans q2, q3, q4⟩
    next := hn
    back := fun b L B' hL hB' => by
      obtain ⟨B, q1, q2⟩ := a.back b L B' hL hB'
      exact ⟨B, (hb b (.inl ⟨L, hL⟩)).trans q1, q2⟩ }

/-! ### what the check gives -/
def Closed (ops : Array Oper) (S : Nat → Prop) : Prop := ∀ k, S k → ∀ e ∈ edgesAt ops k, S e
/-- Whoever has k's edges has i. -/
def Dep (ops : Array Oper) (k i : Nat) : Prop := ∀ S : Nat → Prop, Closed ops S → (∀ e ∈ edgesAt ops k, S e) → S i
theorem orM_bit {M : Nat → Nat} : ∀ (es : List Nat) {i : Nat}, (orM M es).testBit i = true → ∃ e ∈ es, i = e ∨ (M e).testBit i = true
  | [], i, h => by simp [orM] at h
  | e :: es, i, h => by
    simp only [orM, Nat.testBit_or, Bool.or_eq_true] at h
    rcases h with (h | h) | h
    · refine ⟨e, by simp, .inl ?_⟩
      rw [Nat.testBit_two_pow] at h
      simpa using (of_decide_eq_true h).symm
    · exact ⟨e, by simp, .inr h⟩
    · obtain ⟨e', h1, h2⟩ := orM_bit es h; exact ⟨e', by simp [h1], h2⟩
theorem maskM_sound {ops : Array Oper} : ∀ (ks : List Nat) (M : Nat → Nat), (∀ k i, (M k).testBit i = true → Dep ops k i) → ∀ k i, (maskM ops ks M k).testBit i = true → Dep ops k i
  | [], M, h => h
  | x :: ks, M, h => maskM_sound ks _ fun k i hb => by
    unfold setM at hb
    by_cases e : k = x
    · subst e
      rw [if_pos rfl] at hb
      obtain ⟨e, he, h2⟩ := orM_bit _ hb
      intro S hc hs
      rcases h2 with rfl | h2
      · exact hs _ he
      · exact h e i h2 S hc fun e' he' => hc e (hs e he) e' he'
    · rw [if_neg e] at hb; exact h k i hb
structure Facts (P : Program) (ops : Array Oper) (order : List Nat) (is : List Ir) (ch : List (Nat × Nat)) : Prop where
  len : order.length = ops.size
  ilen : is.length = ops.size
  lt : ∀ (p k : Nat), order[p]? = some k → k < ops.size
  inj : ∀ (p q k : Nat), order[p]? = some k → order[q]? = some k → p = q
  surj : ∀ k, k < ops.size → ∃ p : Nat, order[p]? = some k
  edge : ∀ (p k : Nat), order[p]? = some k → ∀ e ∈ edgesAt ops k, ∃ q : Nat, q < p ∧ order[q]? = some e
  code : ∀ (p k : Nat), order[p]? = some k → ∃ o i, ops[k]? = some o ∧ is[p]? = some i ∧ cOper P ops o = some i
  pair : ∀ (p q op oq : Nat) (i j : Ir), p < q → order[p]? = some op → order[q]? = some oq → is[p]? = some i → is[q]? = some j →
    Dep ops oq op ∨ (i.apart j = true ∧ isEff i.ins = false ∧ (isRd i.ins = true → isEff j.ins = true → (p, q) ∈ ch))
theorem ordOk_facts {ops : Array Oper} : ∀ (ks done : List Nat), ordOk ops done ks = true →
    (∀ (p k : Nat), ks[p]? = some k → k < ops.size ∧ k ∉ done ∧ (∀ q, q < p → ks[q]? ≠ some k) ∧ ∀ e ∈ edgesAt ops k, e ∈ done ∨ ∃ q, q < p ∧ ks[q]? = some e)
  | [], done, _ => fun p k h => by simp at h
  | x :: ks, done, h => by
    simp only [ordOk, Bool.and_eq_true, decide_eq_true_eq, Bool.not_eq_true', List.contains_eq_mem, decide_eq_false_iff_not, List.all_eq_true] at h
    obtain ⟨⟨⟨h1, h2⟩, h3⟩, h4⟩ := h
    have ih := ordOk_facts ks (done ++ [x]) h4
    intro p k hp
    cases p with
    | zero =>
      simp at hp; subst hp
      exact ⟨h1, h2, fun q hq => by omega, fun e he => .inl (by simpa using h3 e he)⟩
    | succ p =>
      obtain ⟨g1, g2, g3, g4⟩ := ih p k (by simpa using hp)
      refine ⟨g1, fun hm => g2 (by simp [hm]), fun q hq => ?_, fun e he => ?_⟩
      · cases q with
        | zero => simp; intro e; subst e; exact g2 (by simp)
        | succ q => simpa using g3 q (by omega)
      · rcases g4 e he with hm | ⟨q, hq, hqe⟩
        · simp only [List.mem_append, List.mem_singleton] at hm
          rcases hm with hm | rfl
          · exact .inl hm
          · exact .inr ⟨0, by omega, rfl⟩
        · exact .inr ⟨q + 1, by omega, by simpa using hqe⟩
theorem pickL_get {is : List Ir} : ∀ (ks : List Nat) {l : List Ir}, pickL is ks = some l → ∀ (p k : Nat), ks[p]? = some k → l[p]? = is[k]? ∧ (is[k]?).isSome
  | [], l, h, p, k, hp => by simp at hp
  | x :: ks, l, h, p, k, hp => by
    simp only [pickL] at h
    split at h
    · rename_i i l' h1 h2; cases h
      cases p with
      | zero => simp at hp; subst hp; simp [h1]
      | succ p => simpa using pickL_get ks h2 p k (by simpa using hp)
    · cases h
theorem cOpers_get {P : Program} {ops : Array Oper} : ∀ (os : List Oper) {is : List Ir}, cOpers P ops os = some is → ∀ (k : Nat), k < os.length → ∃ o i, os[k]? = some o ∧ is[k]? = some i ∧ cOper P ops o = some i
  | [], is, h, k, hk => by simp at hk
  | o :: os, is, h, k, hk => by
    simp only [cOpers] at h
    split at h
    · rename_i i l h1 h2; cases h
      cases k with
      | zero => exact ⟨o, i, rfl, rfl, h1⟩
      | succ k => simpa using cOpers_get os h2 k (by simpa using hk)
    · cases h
theorem facts_of {P : Program} {ops : Array Oper} {order : List Nat} {is0 is : List Ir} {ch : List (Nat × Nat)} (h0 : cOpers P ops ops.toList = some is0) (h1 : pickL is0 order = some is) (h2 : drawOk ops order is ch = true) : Facts P ops order is ch := by
  simp only [drawOk, Bool.and_eq_true, decide_eq_true_eq] at h2
  obtain ⟨⟨⟨⟨l1, l2⟩, l3⟩, l4⟩, l5⟩ := h2
  have of := ordOk_facts order [] l4
  refine ⟨l1, l2, fun p k h => (of p k h).1, fun p q k hp hq => ?_, fun k hk => ?_, fun p k h e he => ?_, fun p k h => ?_, fun p q op oq i j hpq hop hoq hi hj => ?_⟩
  · rcases Nat.lt_trichotomy p q with h | h | h
    · exact absurd hp ((of q k hq).2.2.1 p h)
    · exact h
    · exact absurd hq ((of p k hp).2.2.1 q h)
  · have := List.all_eq_true.1 l3 k (by simpa using hk)
    rw [List.contains_eq_mem] at this
    exact List.mem_iff_getElem?.1 (of_decide_eq_true this)
  · rcases (of p k h).2.2.2 e he with h | h
    · simp at h
    · exact h
  · obtain ⟨g1, g2⟩ := pickL_get order h1 p k h
    obtain ⟨o, i, q1, q2, q3⟩ := cOpers_get ops.toList h0 k (by rw [Array.length_toList]; exact (of p k h).1)
    exact ⟨o, i, by simpa using q1, by rw [g1, q2], q3⟩
  · have hq : q < is.length := (List.getElem?_eq_some_iff.1 hj).1
    have hp := List.all_eq_true.1 (List.all_eq_true.1 l5 q (by simpa using hq)) p (by simpa using hpq)
    simp only [pairOk, hop, hoq, hi, hj, Bool.or_eq_true, Bool.and_eq_true] at hp
    rcases hp with hp | hp
    · exact .inl (maskM_sound order _ (fun k i h => by simp at h) oq op hp)
    · right
      obtain ⟨⟨a1, a2⟩, a3⟩ := hp
      refine ⟨a1, by simpa using a2, fun r1 r2 => ?_⟩
      rcases a3 with a3 | a3
      · simp [r1, r2] at a3
      · rw [List.contains_eq_mem] at a3; exact of_decide_eq_true a3

/-! ### the states of our own order -/
theorem tr_states {P : Program} {C : CallF} : ∀ (is : List Ir) {e : Env} {H : Heap} {tr : List (Env × Heap)}, runTr P C is e H = some tr →
    tr.length = is.length + 1 ∧ tr[0]? = some (e, H) ∧ ∀ (p : Nat) (i : Ir), is[p]? = some i → ∃ s s', tr[p]? = some s ∧ tr[p + 1]? = some s' ∧ stepIr P C i s.1 s.2 = some s'
  | [], e, H, tr, h => by cases h; exact ⟨rfl, rfl, fun p i h => by simp at h⟩
  | x :: is, e, H, tr, h => by
    simp only [runTr] at h
    split at h
    · rename_i e1 H1 hs
      split at h
      · rename_i l hl; cases h
        obtain ⟨g1, g2, g3⟩ := tr_states is hl
        refine ⟨by simp [g1], rfl, fun p i hp => ?_⟩
        cases p with
        | zero => simp at hp; subst hp; exact ⟨(e, H), (e1, H1), rfl, by simpa using g2, hs⟩
        | succ p => obtain ⟨s, s', q1, q2, q3⟩ := g3 p i (by simpa using hp); exact ⟨s, s', by simpa using q1, by simpa using q2, q3⟩
      · cases h
    · cases h

/-! ### reading elsewhere -/
/-- The block that a reader reads. -/
def rdBlk (i : Ins) (e : Env) : Option Nat :=
  match i with
  | .ld x => (match ev e x with | .pointer (some a) => some a.block | _ => none)
  | .ldn _ x => (match ev e x with | .pointer (some a) => some a.block | _ => none)
  | .b2s x => (match ev e x with | .slice (some a) _ _ => some a.block | _ => none)
  | .slv _ x _ _ _ => (match ev e x with | .slice (some a) _ _ => some a.block | _ => none)
  | _ => none
theorem row_agree {H G : Heap} {b : Nat} (h : H.blk b ≠ none → G.blk b = H.blk b) : ∀ (n o : Nat) {u : List Value}, H.row b o n = some u → G.row b o n = some u
  | 0, _, _, hu => hu
  | n + 1, o, u, hu => by
    have hne : H.blk b ≠ none := by
      intro hn
      simp [Heap.row, Heap.cell, hn] at hu
    have e := h hne
    simp only [Heap.row, Heap.cell, e] at hu ⊢
    split at hu
    · rename_i v hv
      split at hu
      · rename_i vs hvs; cases hu; rw [row_agree h n (o + 1) hvs]
      · cases hu
    · cases hu
theorem rd_agree {P : Program} {C D : CallF} {i : Ins} {e : Env} {H G : Heap} {v : Value} {H' : Heap} (h1 : isAl i = false) (h2 : isEff i = false) (hs : step P C i e H = some (v, H')) (hb : ∀ b, rdBlk i e = some b → H.blk b ≠ none → G.blk b = H.blk b) : step P D i e G = some (v, G) := by
  cases i <;> simp [isAl, isEff] at h1 h2 <;> simp only [step] at hs ⊢
  case ld x =>
    split at hs
    · rename_i b o hx
      have := hb b (by simp [rdBlk, hx])
      split at hs
      · rename_i u hu; cases hs
        have hne : H.blk b ≠ none := by intro hn; simp [Heap.cell, hn] at hu
        have hu' : G.cell b o = some v := by simp only [Heap.cell, this hne]; exact hu
        rw [hu']
      · cases hs
    · cases hs
  case ldn n x =>
    split at hs
    · rename_i b o hx
      have := hb b (by simp [rdBlk, hx])
      split at hs
      · rename_i u hu; cases hs; rw [row_agree this _ _ hu]
      · cases hs
    · cases hs
  case b2s x =>
    split at hs
    · cases hs; rfl
    · rename_i b o n c hx
      have := hb b (by simp [rdBlk, hx])
      split at hs
      · rename_i u hu
        rw [row_agree this _ _ hu]
        simp only at hs ⊢
        split at hs
        · rename_i l hl; cases hs; rfl
        · cases hs
      · cases hs
    · cases hs
  case slv esz x lo hi mx =>
    split at hs
    case h_2 => cases hs
    rename_i u hu
    cases hs
    have : slvV G esz (ev e x) (lo.map (ev e)) (hi.map (ev e)) (mx.map (ev e)) = some v := by
      have hb' : ∀ b o n c, ev e x = .slice (some ⟨b, o, none⟩) n c → H.eszIs b esz = true → G.eszIs b esz = true := by
        intro b o n c hx he
        have hne : H.blk b ≠ none := by intro hn; simp [Heap.eszIs, hn] at he
        have := hb b (by simp [rdBlk, hx]) hne
        simp only [Heap.eszIs, this]; exact he
      revert hu hb'
      generalize ev e x = xv
      intro hu hb'
      unfold slvV at hu ⊢
      cases xv <;> try (cases hu; done)
      rename_i a n c
      simp only at hu ⊢
      cases h1 : bound (c / 2) (mx.map (ev e)) with
      | none => rw [h1] at hu; cases hu
      | some m =>
        rw [h1] at hu
        simp only at hu ⊢
        cases h2 : bound n (hi.map (ev e)) with
        | none => rw [h2] at hu; cases hu
        | some hv =>
          rw [h2] at hu
          simp only at hu ⊢
          cases h3 : bound 0 (lo.map (ev e)) with
          | none => rw [h3] at hu; cases hu
          | some l =>
            rw [h3] at hu
            simp only at hu ⊢
            split at hu
            case isFalse => cases hu
            rename_i hc
            rw [if_pos hc]
            cases a with
            | none => exact hu
            | some ad =>
              obtain ⟨b, o, sp⟩ := ad
              cases sp with
              | some sp => cases hu
              | none =>
                simp only at hu ⊢
                split at hu
                case isFalse => cases hu
                rename_i hz
                have hz' : (l == 0 || G.eszIs b esz) = true := by
                  simp only [Bool.or_eq_true] at hz ⊢
                  exact hz.imp id (hb' b o n c rfl)
                rw [if_pos hz']; exact hu
    rw [this]
  all_goals first
    | (cases hs; rfl; done)
    | (repeat' split at hs
       all_goals first | (cases hs; simp [*]; done) | (cases hs; done))
end Go.AM
end TextAhDraw
section TextAhDraw2
/- AM: regions whose order is drawn: whatever the order, the states of our own order come out. -/
namespace Go.AM
set_option linter.unusedVariables false
set_option linter.unusedSimpArgs false

/-- What stays fixed while a region runs. -/
structure Ctx where
  P : Program
  C : CallF
  ops : Array Oper
  order : List Nat
  is : List Ir
  ch : List (Nat × Nat)
  N : Nat
  E : Nat → Env
  Hp : Nat → Heap
  ρ0 : Rho
  w0 : World
structure Good (X : Ctx) : Prop where
  ok : COk X.P X.C
  facts : Facts X.P X.ops X.order X.is X.ch
  slots : SlotsIn X.N X.is
  tr : ∀ (p : Nat) (i : Ir), X.is[p]? = some i → stepIr X.P X.C i (X.E p) (X.Hp p) = some (X.E (p + 1), X.Hp (p + 1))
  chk : ∀ p q, (p, q) ∈ X.ch → ∀ i, X.is[p]? = some i → wanted i (X.E p) = true → (step X.P (fun _ _ _ => none) i.ins (X.E p) (X.Hp (q + 1))).map Prod.fst = (step X.P (fun _ _ _ => none) i.ins (X.E p) (X.Hp p)).map Prod.fst
  hw : Hw (X.Hp 0)
section
variable {X : Ctx}
def Ctx.n (X : Ctx) : Nat := X.ops.size
def Ctx.L (X : Ctx) (listed : Array Bool) (p : Nat) : Prop := ∃ k, X.order[p]? = some k ∧ listed.getD k false = true
def Ctx.Al (X : Ctx) (p : Nat) : Prop := ∃ i, X.is[p]? = some i ∧ isAl i.ins = true ∧ wanted i (X.E p) = true
def Ctx.idn (X : Ctx) (p : Nat) : Nat := (X.Hp p).next
theorem Good.is_lt (g : Good X) {p : Nat} (h : p < X.n) : ∃ i, X.is[p]? = some i := ⟨_, List.getElem?_eq_getElem (by rw [g.facts.ilen]; exact h)⟩
theorem Good.lt_is (g : Good X) {p : Nat} {i : Ir} (h : X.is[p]? = some i) : p < X.n := by have := (List.getElem?_eq_some_iff.1 h).1; rw [g.facts.ilen] at this; exact this
theorem Good.order_lt (g : Good X) {p : Nat} (h : p < X.n) : ∃ k, X.order[p]? = some k := ⟨_, List.getElem?_eq_getElem (by rw [g.facts.len]; exact h)⟩
theorem Good.hwp (g : Good X) : ∀ p, p ≤ X.n → Hw (X.Hp p)
  | 0, _ => g.hw
  | p + 1, h => by
    obtain ⟨i, hi⟩ := g.is_lt (show p < X.n by omega)
    exact (stepIr_next g.ok.next (g.tr p i hi) (g.hwp p (by omega))).1
theorem Good.next1 (g : Good X) {p : Nat} (h : p < X.n) : (X.Hp p).next ≤ (X.Hp (p + 1)).next := by
  obtain ⟨i, hi⟩ := g.is_lt h
  exact (stepIr_next g.ok.next (g.tr p i hi) (g.hwp p (by omega))).2
theorem Good.next_le (g : Good X) {p q : Nat} (hpq : p ≤ q) (hq : q ≤ X.n) : (X.Hp p).next ≤ (X.Hp q).next := by
  induction q with
  | zero => obtain rfl : p = 0 := by omega
            exact Nat.le_refl _
  | succ q ih =>
    rcases Nat.lt_or_ge p (q + 1) with h | h
    · exact Nat.le_trans (ih (by omega) (by omega)) (g.next1 (by omega))
    · obtain rfl : p = q + 1 := by omega
      exact Nat.le_refl _
theorem Good.al (g : Good X) {p : Nat} (h : X.Al p) : ∃ i f B, X.is[p]? = some i ∧ wanted i (X.E p) = true ∧ isAl i.ins = true ∧ alc i.ins (X.E p) = some (f, B) ∧ X.Hp (p + 1) = (X.Hp p).add B ∧ X.E (p + 1) = put i.dst (f (X.Hp p).next) (X.E p) := by
  obtain ⟨i, hi, h1, h2⟩ := h
  have ht := g.tr p i hi
  unfold stepIr at ht
  rw [if_pos h2] at ht
  split at ht
  · rename_i v H' hs
    obtain ⟨f, B, q1, rfl, rfl⟩ := step_alc h1 hs
    have h3 : put i.dst (f (X.Hp p).next) (X.E p) = X.E (p + 1) ∧ (X.Hp p).add B = X.Hp (p + 1) := by simpa using ht
    exact ⟨i, f, B, hi, h2, h1, q1, h3.2.symm, h3.1.symm⟩
  · cases ht
theorem Good.al_next (g : Good X) {p : Nat} (h : X.Al p) : (X.Hp (p + 1)).next = (X.Hp p).next + 1 := by
  obtain ⟨i, f, B, _, _, _, _, h1, _⟩ := g.al h
  rw [h1]; rfl
theorem Good.al_lt (g : Good X) {p : Nat} (h : X.Al p) : p < X.n := by obtain ⟨i, hi, _⟩ := h; exact g.lt_is hi
theorem Good.idn_lt (g : Good X) {p q : Nat} (h : X.Al p) (hpq : p < q) (hq : q ≤ X.n) : X.idn p < (X.Hp q).next := by
  have := g.al_next h
  have := g.next_le (show p + 1 ≤ q by omega) hq
  show (X.Hp p).next < _
  omega
theorem Good.idn_inj (g : Good X) {p q : Nat} (hp : X.Al p) (hq : X.Al q) (h : X.idn p = X.idn q) : p = q := by
  rcases Nat.lt_trichotomy p q with hl | hl | hl
  · have := g.idn_lt hp hl (Nat.le_of_lt (g.al_lt hq)); unfold Ctx.idn at h this; omega
  · exact hl
  · have := g.idn_lt hq hl (Nat.le_of_lt (g.al_lt hp)); unfold Ctx.idn at h this; omega
/-- A step that is neither an effect nor a making. -/
theorem Good.still (g : Good X) {p : Nat} (hp : p < X.n) (h : ∀ i, X.is[p]? = some i → wanted i (X.E p) = true → isEff i.ins = false ∧ isAl i.ins = false) : X.Hp (p + 1) = X.Hp p := by
  obtain ⟨i, hi⟩ := g.is_lt hp
  have ht := g.tr p i hi
  unfold stepIr at ht
  by_cases hw : wanted i (X.E p) = true
  · rw [if_pos hw] at ht
    obtain ⟨h1, h2⟩ := h i hi hw
    split at ht
    · rename_i v H' hs
      obtain rfl := step_same h2 h1 hs
      have h3 : put i.dst v (X.E p) = X.E (p + 1) ∧ X.Hp p = X.Hp (p + 1) := by simpa using ht
      exact h3.2.symm
    · cases ht
  · rw [if_neg hw] at ht
    have h3 : put i.dst undef (X.E p) = X.E (p + 1) ∧ X.Hp p = X.Hp (p + 1) := by simpa using ht
    exact h3.2.symm
def Ctx.NoEff (X : Ctx) (r m : Nat) : Prop := ∀ q, r ≤ q → q < m → ∀ i, X.is[q]? = some i → isEff i.ins = false
theorem Good.keep1 (g : Good X) {p : Nat} (hp : p < X.n) (h : ∀ i, X.is[p]? = some i → isEff i.ins = false) : ∀ b, b < (X.Hp p).next → (X.Hp (p + 1)).blk b = (X.Hp p).blk b := by
  intro b hb
  by_cases ha : X.Al p
  · obtain ⟨i, f, B, _, _, _, _, h1, _⟩ := g.al ha
    rw [h1]; simp only [Heap.add]; rw [if_neg (by omega)]
  · rw [g.still hp fun i hi hw => ⟨h i hi, by
      cases hx : isAl i.ins
      · rfl
      · exact absurd ⟨i, hi, hx, hw⟩ ha⟩]
theorem Good.keep (g : Good X) {r m : Nat} (hrm : r ≤ m) (hm : m ≤ X.n) (h : X.NoEff r m) : ∀ b, b < (X.Hp r).next → (X.Hp m).blk b = (X.Hp r).blk b := by
  induction m with
  | zero => obtain rfl : r = 0 := by omega
            intro b _; rfl
  | succ m ih =>
    rcases Nat.lt_or_ge r (m + 1) with hl | hl
    · intro b hb
      rw [g.keep1 (show m < X.n by omega) (fun i hi => h m (by omega) (by omega) i hi) b (by have := g.next_le (show r ≤ m by omega) (by omega); omega)]
      exact ih (by omega) (by omega) (fun q h1 h2 => h q h1 (by omega)) b hb
    · obtain rfl : r = m + 1 := by omega
      intro b _; rfl

/-- The state of affairs while the region runs in whatever order. -/
structure Inv (X : Ctx) (listed : Array Bool) (m : Nat) (ρ : Rho) (G : Heap) (Y : Env) (a : Act) (w : World) : Prop where
  size : listed.size = X.n
  closed : Closed X.ops fun k => listed.getD k false = true
  mle : m ≤ X.n
  eff : ∀ p i, X.is[p]? = some i → isEff i.ins = true → (X.L listed p ↔ p < m)
  env : EnvR ρ Y a X.N
  xval : ∀ t p, p ≤ X.n → (∀ q i, X.is[q]? = some i → i.dst = some t → (X.L listed q ↔ q < p)) → Y t = X.E p t
  gnext : G.next = (X.Hp X.n).next
  g1 : ∀ b, b < (X.Hp m).next → G.blk b = (X.Hp m).blk b
  g2 : ∀ p, m ≤ p → X.L listed p → X.Al p → G.blk (X.idn p) = (X.Hp (p + 1)).blk (X.idn p)
  dom : ∀ b Lc, ρ b = some Lc → b < (X.Hp m).next ∨ ∃ p, m ≤ p ∧ X.L listed p ∧ X.Al p ∧ b = X.idn p
  ghost : ∀ p, X.Al p → ¬ X.L listed p → ρ (X.idn p) = none ∧ (p < m → (X.Hp m).blk (X.idn p) = (X.Hp (p + 1)).blk (X.idn p))
  adv : Adv (X.Hp 0).next X.ρ0 (X.Hp 0) X.w0 ρ G w
/-- The mark may move over what is no effect. -/
theorem Inv.move (g : Good X) {listed : Array Bool} {m j : Nat} {ρ : Rho} {G : Heap} {Y : Env} {a : Act} {w : World} (v : Inv X listed m ρ G Y a w) (hmj : m ≤ j) (hj : j ≤ X.n) (hno : X.NoEff m j) : ∃ G', Inv X listed j ρ G' Y a w := by
  have hk := g.keep hmj hj hno
  have hnx := g.next_le hmj hj
  let G' : Heap := { next := G.next, blk := fun b => if b < (X.Hp j).next then (X.Hp j).blk b else G.blk b }
  have hsame : ∀ b, (∃ L, ρ b = some L) ∨ b < (X.Hp 0).next → G'.blk b = G.blk b := by
    intro b hb
    show (if b < (X.Hp j).next then (X.Hp j).blk b else G.blk b) = G.blk b
    by_cases hlt : b < (X.Hp j).next
    · rw [if_pos hlt]
      have hlow : b < (X.Hp m).next → (X.Hp j).blk b = G.blk b := fun h => by rw [hk b h, v.g1 b h]
      rcases hb with ⟨L, hL⟩ | hb
      · rcases v.dom b L hL with h | ⟨p, p1, p2, p3, rfl⟩
        · exact hlow h
        · have hpj : p < j := by
            rcases Nat.lt_or_ge p j with h | h
            · exact h
            · have := g.next_le h (Nat.le_of_lt (g.al_lt p3)); unfold Ctx.idn at hlt; omega
          rw [v.g2 p p1 p2 p3]
          exact g.keep (show p + 1 ≤ j by omega) hj (fun q h1 h2 => hno q (by omega) h2) _ (by have := g.al_next p3; unfold Ctx.idn; omega)
      · exact hlow (by have := g.next_le (Nat.zero_le m) v.mle; omega)
    · rw [if_neg hlt]
  refine ⟨G', v.size, v.closed, hj, ?_, v.env, v.xval, v.gnext, ?_, ?_, ?_, ?_, ?_⟩
  · intro p i hi he
    rw [v.eff p i hi he]
    constructor
    · intro h; omega
    · intro h
      rcases Nat.lt_or_ge p m with h1 | h1
      · exact h1
      · have := hno p h1 h i hi; rw [he] at this; cases this
  · intro b hb
    show (if b < (X.Hp j).next then (X.Hp j).blk b else G.blk b) = _
    rw [if_pos hb]
  · intro p hp hl ha
    show (if X.idn p < (X.Hp j).next then (X.Hp j).blk (X.idn p) else G.blk (X.idn p)) = _
    rw [if_neg (by have := g.next_le hp (Nat.le_of_lt (g.al_lt ha)); unfold Ctx.idn; omega)]
    exact v.g2 p (by omega) hl ha
  · intro b L hL
    rcases v.dom b L hL with h | ⟨p, p1, p2, p3, p4⟩
    · exact .inl (by omega)
    · rcases Nat.lt_or_ge p j with h | h
      · left; rw [p4]; exact g.idn_lt p3 h hj
      · exact .inr ⟨p, h, p2, p3, p4⟩
  · intro p ha hl
    obtain ⟨q1, q2⟩ := v.ghost p ha hl
    refine ⟨q1, fun hp => ?_⟩
    rcases Nat.lt_or_ge p m with h | h
    · rw [hk _ (g.idn_lt ha h v.mle)]; exact q2 h
    · exact g.keep (show p + 1 ≤ j by omega) hj (fun q h1 h2 => hno q (by omega) h2) _ (by have := g.al_next ha; unfold Ctx.idn; omega)
  · exact v.adv.reheap (G := G') (by have := v.adv.next; exact this) (fun b L hL => v.adv.rel.dom b L hL) hsame
/-- Dependence, seen from the positions. -/
theorem Good.dep (g : Good X) {listed : Array Bool} (hc : Closed X.ops fun k => listed.getD k false = true) {p q op oq : Nat} (hop : X.order[p]? = some op) (hoq : X.order[q]? = some oq) (hd : Dep X.ops oq op) (hl : ∀ e ∈ edgesAt X.ops oq, listed.getD e false = true) : X.L listed p :=
  ⟨op, hop, hd _ hc hl⟩
theorem L_set {listed : Array Bool} (g : Good X) (hs : listed.size = X.n) {j k p : Nat} (hk : X.order[j]? = some k) : X.L (listed.setIfInBounds k true) p ↔ X.L listed p ∨ p = j := by
  have hkn : k < listed.size := by rw [hs]; exact g.facts.lt j k hk
  constructor
  · rintro ⟨k', h1, h2⟩
    by_cases e : k' = k
    · subst e; exact .inr (g.facts.inj p j k' h1 hk)
    · left; refine ⟨k', h1, ?_⟩
      rw [Array.getD_eq_getD_getElem?, Array.getElem?_setIfInBounds_ne (by omega)] at h2
      rw [Array.getD_eq_getD_getElem?]; exact h2
  · rintro (⟨k', h1, h2⟩ | rfl)
    · refine ⟨k', h1, ?_⟩
      rw [Array.getD_eq_getD_getElem?] at h2 ⊢
      by_cases e : k' = k
      · subst e; simp [Array.getElem?_setIfInBounds_self_of_lt hkn]
      · rw [Array.getElem?_setIfInBounds_ne (by omega)]; exact h2
    · exact ⟨k, hk, by simp [Array.getD_eq_getD_getElem?, Array.getElem?_setIfInBounds_self_of_lt hkn]⟩
/-- Two that share a slot (one writes it) stand in an order. -/
theorem apart_no {i j : Ir} (h : i.apart j = true) {t : Nat} : (i.dst = some t → t ∈ j.looks → False) ∧ (i.dst = some t → j.dst = some t → False) ∧ (j.dst = some t → t ∈ i.looks → False) := by
  unfold Ir.apart at h
  simp only [Bool.and_eq_true] at h
  obtain ⟨h1, h2⟩ := h
  refine ⟨fun e hm => ?_, fun e e2 => ?_, fun e hm => ?_⟩
  · rw [e] at h1; simp at h1; exact h1.1 hm
  · rw [e] at h1; simp at h1; exact h1.2 e2
  · rw [e] at h2; simp at h2; exact h2 hm
structure Ready (X : Ctx) (listed : Array Bool) (k j : Nat) (o : Oper) (i : Ir) : Prop where
  pos : X.order[j]? = some k
  op : X.ops[k]? = some o
  ir : X.is[j]? = some i
  code : cOper X.P X.ops o = some i
  free : ¬ X.L listed j
  edges : ∀ e ∈ edgesAt X.ops k, listed.getD e false = true
/-- What a ready one looks at is what it looked at in our own order. -/
theorem Inv.look (g : Good X) {listed : Array Bool} {m : Nat} {ρ : Rho} {G : Heap} {Y : Env} {a : Act} {w : World} (v : Inv X listed m ρ G Y a w) {k j : Nat} {o : Oper} {i : Ir} (r : Ready X listed k j o i) : ∀ t ∈ i.looks, Y t = X.E j t := by
  intro t ht
  refine v.xval t j (Nat.le_of_lt (g.lt_is r.ir)) fun q iq hq hdq => ?_
  obtain ⟨oq, hoq⟩ := g.order_lt (g.lt_is hq)
  rcases Nat.lt_trichotomy q j with h | h | h
  · refine ⟨fun _ => h, fun _ => ?_⟩
    rcases g.facts.pair q j oq k iq i h hoq r.pos hq r.ir with hd | ⟨ha, _⟩
    · exact g.dep v.closed hoq r.pos hd r.edges
    · exact ((apart_no ha).1 hdq ht).elim
  · subst h; exact ⟨fun hl => absurd hl r.free, fun h => by omega⟩
  · refine ⟨fun hl => ?_, fun h' => by omega⟩
    exfalso
    rcases g.facts.pair j q k oq i iq h r.pos hoq r.ir hq with hd | ⟨ha, _⟩
    · obtain ⟨oq', h1, h2⟩ := hl
      rw [hoq] at h1; cases h1
      exact r.free (g.dep v.closed r.pos hoq hd fun e he => v.closed oq h2 e he)
    · exact (apart_no ha).2.2 hdq ht
theorem E_const (g : Good X) {t r p : Nat} (hrp : r ≤ p) (hp : p ≤ X.n) (h : ∀ q i, r ≤ q → q < p → X.is[q]? = some i → i.dst ≠ some t) : X.E p t = X.E r t := by
  induction p with
  | zero => obtain rfl : r = 0 := by omega
            rfl
  | succ p ih =>
    rcases Nat.lt_or_ge r (p + 1) with hl | hl
    · rw [← ih (by omega) (by omega) fun q i h1 h2 => h q i h1 (by omega)]
      obtain ⟨i, hi⟩ := g.is_lt (show p < X.n by omega)
      have hd := h p i (by omega) (by omega) hi
      have ht := g.tr p i hi
      have hput : ∀ (x : Value) (e : Env), put i.dst x e t = e t := fun x e => by
        cases hdd : i.dst with
        | none => rfl
        | some d => simp only [put, upd]; rw [if_neg (fun e => hd (by rw [hdd, e]))]
      unfold stepIr at ht
      split at ht
      · split at ht
        · rename_i x H' hs
          have h3 : put i.dst x (X.E p) = X.E (p + 1) ∧ H' = X.Hp (p + 1) := by simpa using ht
          rw [← h3.1, hput]
        · cases ht
      · have h3 : put i.dst undef (X.E p) = X.E (p + 1) ∧ X.Hp p = X.Hp (p + 1) := by simpa using ht
        rw [← h3.1, hput]
    · obtain rfl : r = p + 1 := by omega
      rfl
/-- The slots after a ready one has run. -/
theorem Inv.xval' (g : Good X) {listed : Array Bool} {m : Nat} {ρ : Rho} {G : Heap} {Y : Env} {a : Act} {w : World} (v : Inv X listed m ρ G Y a w) {k j : Nat} {o : Oper} {i : Ir} (r : Ready X listed k j o i) {x : Value} (hx : X.E (j + 1) = put i.dst x (X.E j)) :
    ∀ t p, p ≤ X.n → (∀ q iq, X.is[q]? = some iq → iq.dst = some t → (X.L (listed.setIfInBounds k true) q ↔ q < p)) → put i.dst x Y t = X.E p t := by
  intro t p hp hq
  by_cases hd : i.dst = some t
  · have hjp : j < p := (hq j i r.ir hd).1 ((L_set g v.size r.pos).2 (.inr rfl))
    have h1 : put i.dst x Y t = x := by rw [hd]; simp [put, upd]
    have h2 : X.E (j + 1) t = x := by rw [hx, hd]; simp [put, upd]
    rw [h1, ← h2]
    refine (E_const g (by omega) hp fun q iq q1 q2 hiq hdq => ?_).symm
    have hl := (L_set g v.size r.pos).1 ((hq q iq hiq hdq).2 q2)
    rcases hl with hl | hl
    · obtain ⟨oq, hoq, hlq⟩ := hl
      rcases g.facts.pair j q k oq i iq (by omega) r.pos hoq r.ir hiq with hdd | ⟨ha, _⟩
      · exact r.free (g.dep v.closed r.pos hoq hdd fun e he => v.closed oq hlq e he)
      · exact (apart_no ha).2.1 hd hdq
    · omega
  · have h1 : put i.dst x Y t = Y t := by
      cases hdd : i.dst with
      | none => rfl
      | some d => simp only [put, upd]; rw [if_neg (fun e => hd (by rw [hdd, e]))]
    rw [h1]
    refine v.xval t p hp fun q iq hiq hdq => ?_
    rw [← hq q iq hiq hdq, L_set g v.size r.pos]
    constructor
    · intro h; exact .inl h
    · rintro (h | rfl)
      · exact h
      · rw [r.ir] at hiq; cases hiq; exact absurd hdq hd
theorem closed_set {listed : Array Bool} (hs : listed.size = X.n) (hc : Closed X.ops fun k => listed.getD k false = true) {k : Nat} (hk : k < X.n) (he : ∀ e ∈ edgesAt X.ops k, listed.getD e false = true) : Closed X.ops fun j => (listed.setIfInBounds k true).getD j false = true := by
  have up : ∀ e, listed.getD e false = true → (listed.setIfInBounds k true).getD e false = true := fun e h => by
    rw [Array.getD_eq_getD_getElem?] at h ⊢
    by_cases e1 : e = k
    · subst e1; simp [Array.getElem?_setIfInBounds_self_of_lt (show e < listed.size by omega)]
    · rw [Array.getElem?_setIfInBounds_ne (by omega)]; exact h
  intro j hj e hje
  by_cases e1 : j = k
  · subst e1; exact up e (he e hje)
  · have : listed.getD j false = true := by
      have hj' : (listed.setIfInBounds k true).getD j false = true := hj
      rw [Array.getD_eq_getD_getElem?, Array.getElem?_setIfInBounds_ne (by omega)] at hj'
      rw [Array.getD_eq_getD_getElem?]; exact hj'
    exact up e (hc j this e hje)
/-- A step that changes neither heap nor blocks. -/
theorem Inv.still (g : Good X) {listed : Array Bool} {m : Nat} {ρ : Rho} {G : Heap} {Y : Env} {a : Act} {w : World} (v : Inv X listed m ρ G Y a w) {k j : Nat} {o : Oper} {i : Ir} (r : Ready X listed k j o i) {x x' : Value} (hx : X.E (j + 1) = put i.dst x (X.E j)) (hv : V3 ρ x x')
    (hna : ¬ X.Al j) (he : isEff i.ins = false) : Inv X (listed.setIfInBounds k true) m ρ G (put i.dst x Y) (a.put i.dst x') w := by
  have hL := fun p => L_set (p := p) g v.size r.pos
  refine ⟨by simp [v.size], closed_set v.size v.closed (g.facts.lt j k r.pos) r.edges, v.mle, ?_, v.env.put hv (g.slots i (List.mem_of_getElem? r.ir)), v.xval' g r hx, v.gnext, v.g1, ?_, ?_, ?_, v.adv⟩
  · intro p ip hp hep
    rw [hL, ← v.eff p ip hp hep]
    constructor
    · rintro (h | rfl)
      · exact h
      · rw [r.ir] at hp; cases hp; rw [he] at hep; cases hep
    · exact .inl
  · intro p h1 h2 h3
    rcases (hL p).1 h2 with h | rfl
    · exact v.g2 p h1 h h3
    · exact absurd h3 hna
  · intro b L hL'
    rcases v.dom b L hL' with h | ⟨p, p1, p2, p3, p4⟩
    · exact .inl h
    · exact .inr ⟨p, p1, (hL p).2 (.inl p2), p3, p4⟩
  · intro p h1 h2
    exact v.ghost p h1 fun h => h2 ((hL p).2 (.inl h))
/-- A step that makes a block. -/
theorem Inv.made (g : Good X) {listed : Array Bool} {m : Nat} {ρ : Rho} {G : Heap} {Y : Env} {a : Act} {w w' : World} (v : Inv X listed m ρ G Y a w) {k j : Nat} {o : Oper} {i : Ir} (r : Ready X listed k j o i) {f : Nat → Value} {B : Blk} (ha : X.Al j)
    (hx : X.E (j + 1) = put i.dst (f (X.idn j)) (X.E j)) (hH : X.Hp (j + 1) = (X.Hp j).add B) {s : Sem Next} {v' : Value} {L : Loc} {c : Array Value} {t : TypeId} {fr : Nat × Nat} (hro : B.ro = false) (md : Made X.P w ρ s f B v' w' L c t fr) :
    ∃ ρ' G', Inv X (listed.setIfInBounds k true) m ρ' G' (put i.dst (f (X.idn j)) Y) (a.put i.dst v') w' := by
  have hL := fun p => L_set (p := p) g v.size r.pos
  obtain ⟨hfree, hgh⟩ := v.ghost j ha r.free
  have hjn := g.al_lt ha
  have hbase : (X.Hp 0).next ≤ X.idn j := g.next_le (Nat.zero_le j) (Nat.le_of_lt hjn)
  have hidn : X.idn j < (X.Hp X.n).next := g.idn_lt ha hjn (Nat.le_refl _)
  let G' : Heap := { next := G.next, blk := fun b => if b = X.idn j then some B else G.blk b }
  have hB : (X.Hp (j + 1)).blk (X.idn j) = some B := by rw [hH]; simp [Heap.add, Ctx.idn]
  have adv : Adv (X.Hp 0).next ρ G w (rset ρ (X.idn j) L) G' w' :=
    Adv.alloc (H' := G') v.adv.rel (X.idn j) hfree hbase (by show X.idn j < G.next; rw [v.gnext]; exact hidn) (Nat.le_refl _) B (by simp [G']) (fun b hb => by simp [G', hb]) L c t fr md.heap md.blk md.size md.esz md.fr md.cells md.os md.tape md.output md.tyAt
  have heff : isEff i.ins = false := by
    obtain ⟨i', hi', h1, _⟩ := ha
    rw [r.ir] at hi'; cases hi'
    cases hii : i.ins <;> rw [hii] at h1 <;> simp [isAl] at h1 <;> rfl
  refine ⟨rset ρ (X.idn j) L, G', by simp [v.size], closed_set v.size v.closed (g.facts.lt j k r.pos) r.edges, v.mle, ?_, (v.env.mono adv.ext).put (md.val _ _ (by simp [rset])) (g.slots i (List.mem_of_getElem? r.ir)), v.xval' g r hx, v.gnext, ?_, ?_, ?_, ?_, v.adv.trans adv⟩
  · intro p ip hp hep
    rw [hL, ← v.eff p ip hp hep]
    constructor
    · rintro (h | rfl)
      · exact h
      · rw [r.ir] at hp; cases hp; rw [heff] at hep; cases hep
    · exact .inl
  · intro b hb
    show (if b = X.idn j then some B else G.blk b) = _
    by_cases e : b = X.idn j
    · rw [if_pos e, e, hgh ?_, hB]
      rcases Nat.lt_or_ge j m with h | h
      · exact h
      · have := g.next_le h (Nat.le_of_lt hjn); rw [e] at hb; unfold Ctx.idn at hb; omega
    · rw [if_neg e]; exact v.g1 b hb
  · intro p h1 h2 h3
    show (if X.idn p = X.idn j then some B else G.blk (X.idn p)) = _
    by_cases e : X.idn p = X.idn j
    · obtain rfl := g.idn_inj h3 ha e
      rw [if_pos rfl, hB]
    · rw [if_neg e]
      rcases (hL p).1 h2 with h | rfl
      · exact v.g2 p h1 h h3
      · exact absurd rfl e
  · intro b M hM
    unfold rset at hM
    by_cases e : b = X.idn j
    · rcases Nat.lt_or_ge j m with h | h
      · left; rw [e]; exact g.idn_lt ha h v.mle
      · exact .inr ⟨j, h, (hL j).2 (.inr rfl), ha, e⟩
    · rw [if_neg e] at hM
      rcases v.dom b M hM with h | ⟨p, p1, p2, p3, p4⟩
      · exact .inl h
      · exact .inr ⟨p, p1, (hL p).2 (.inl p2), p3, p4⟩
  · intro p h1 h2
    have hnj : p ≠ j := fun e => h2 ((hL p).2 (.inr e))
    have hne : X.idn p ≠ X.idn j := fun e => hnj (g.idn_inj h1 ha e)
    obtain ⟨q1, q2⟩ := v.ghost p h1 fun h => h2 ((hL p).2 (.inl h))
    exact ⟨by unfold rset; rw [if_neg hne]; exact q1, q2⟩
/-- An effect: all that stands behind it in our order waits for it. -/
theorem Inv.effect (g : Good X) {listed : Array Bool} {ρ ρ' : Rho} {G : Heap} {Y : Env} {a : Act} {w w' : World} {k j : Nat} (v : Inv X listed j ρ G Y a w) {o : Oper} {i : Ir} (r : Ready X listed k j o i) {x x' : Value} (hx : X.E (j + 1) = put i.dst x (X.E j)) (he : isEff i.ins = true)
    (hv : V3 ρ' x x') (adv : Adv (X.Hp j).next ρ (X.Hp j) w ρ' (X.Hp (j + 1)) w') : ∃ G', Inv X (listed.setIfInBounds k true) (j + 1) ρ' G' (put i.dst x Y) (a.put i.dst x') w' := by
  have hL := fun p => L_set (p := p) g v.size r.pos
  have hjn := g.lt_is r.ir
  have hna : ¬ X.Al j := fun ⟨i', hi', h1, _⟩ => by
    rw [r.ir] at hi'; cases hi'
    cases hii : i.ins <;> rw [hii] at h1 he <;> simp [isAl, isEff] at h1 he
  -- nothing behind it is listed
  have later : ∀ p, j < p → ¬ X.L listed p := fun p hp hl => by
    obtain ⟨op, hop, hlp⟩ := hl
    have hpn : p < X.n := by have := (List.getElem?_eq_some_iff.1 hop).1; rw [g.facts.len] at this; exact this
    obtain ⟨ip, hip⟩ := g.is_lt hpn
    rcases g.facts.pair j p k op i ip hp r.pos hop r.ir hip with hd | ⟨_, h2, _⟩
    · exact r.free (g.dep v.closed r.pos hop hd fun e he => v.closed op hlp e he)
    · rw [he] at h2; cases h2
  have hdom : ∀ b L, ρ b = some L → b < (X.Hp j).next := fun b L hL' => by
    rcases v.dom b L hL' with h | ⟨p, p1, p2, p3, p4⟩
    · exact h
    · rcases Nat.lt_or_ge j p with h | h
      · exact absurd p2 (later p h)
      · obtain rfl : p = j := by omega
        exact absurd p3 hna
  have hle := g.next_le (Nat.zero_le j) (Nat.le_of_lt hjn)
  let G' : Heap := { next := (X.Hp X.n).next, blk := (X.Hp (j + 1)).blk }
  have hn1 := g.next_le (show j + 1 ≤ X.n by omega) (Nat.le_refl _)
  have a1 : Adv (X.Hp 0).next ρ (X.Hp j) w ρ' G' w' := (adv.base hle).reheap (G := G') (by have := g.next1 hjn; show _ ≤ (X.Hp X.n).next; omega) (fun b L h => by have := adv.rel.dom b L h; show b < (X.Hp X.n).next; omega) (fun b _ => rfl)
  have a2 : Adv (X.Hp 0).next ρ G w ρ' G' w' := a1.src (by rw [v.gnext]; exact Nat.le_refl _) fun b hb => v.g1 b (by
    rcases hb with ⟨L, h⟩ | h
    · exact hdom b L h
    · omega)
  refine ⟨G', by simp [v.size], closed_set v.size v.closed (g.facts.lt j k r.pos) r.edges, by omega, ?_, (v.env.mono adv.ext).put hv (g.slots i (List.mem_of_getElem? r.ir)), v.xval' g r hx, rfl, fun b _ => rfl, ?_, ?_, ?_, v.adv.trans a2⟩
  · intro p ip hp hep
    rw [hL, v.eff p ip hp hep]
    constructor
    · rintro (h | rfl) <;> omega
    · intro h; omega
  · intro p h1 h2 h3
    rcases (hL p).1 h2 with h | rfl
    · exact absurd h (later p (by omega))
    · omega
  · intro b L hL'
    exact .inl (adv.rel.dom b L hL')
  · intro p h1 h2
    have hnj : p ≠ j := fun e => h2 ((hL p).2 (.inr e))
    obtain ⟨q1, q2⟩ := v.ghost p h1 fun h => h2 ((hL p).2 (.inl h))
    rcases Nat.lt_or_ge p j with h | h
    · obtain ⟨s1, s2⟩ := adv.ghost (X.idn p) (g.idn_lt h1 h (Nat.le_of_lt hjn)) q1
      exact ⟨s1, fun _ => s2.trans (q2 h)⟩
    · have hpj : j < p := by omega
      refine ⟨?_, fun h' => by omega⟩
      cases hr : ρ' (X.idn p) with
      | none => rfl
      | some L =>
        have := adv.rel.dom _ L hr
        have h5 := g.next_le (show j + 1 ≤ p by omega) (Nat.le_of_lt (g.al_lt h1))
        unfold Ctx.idn at this; omega
/-- A reader reads where things stand what it read in our own order. -/
theorem Inv.reads (g : Good X) {listed : Array Bool} {m : Nat} {ρ : Rho} {G : Heap} {Y : Env} {a : Act} {w : World} (v : Inv X listed m ρ G Y a w) {k j : Nat} {o : Oper} {i : Ir} (r : Ready X listed k j o i) {x : Value} (h1 : isAl i.ins = false) (h2 : isEff i.ins = false) (hw : wanted i (X.E j) = true)
    (hs : step X.P X.C i.ins (X.E j) (X.Hp j) = some (x, X.Hp j)) (hjm : j ≤ m) (hdomr : ∀ b, rdBlk i.ins (X.E j) = some b → ∃ L, ρ b = some L) : step X.P X.C i.ins Y G = some (x, G) := by
  have hlook := v.look g r
  rw [step_congr (e := Y) (e' := X.E j) fun t ht => hlook t (by simp [Ir.looks, ht])]
  -- the last effect between j and m
  have key : ∃ q, q ≤ m ∧ j ≤ q ∧ X.NoEff q m ∧ ∃ H', step X.P (fun _ _ _ => none) i.ins (X.E j) (X.Hp q) = some (x, H') := by
    have base : step X.P (fun _ _ _ => none) i.ins (X.E j) (X.Hp j) = some (x, X.Hp j) := rd_agree h1 h2 hs fun b _ _ => rfl
    have ind : ∀ d, ∀ q, q + d = m → j ≤ q → X.NoEff q m → ∃ q, q ≤ m ∧ j ≤ q ∧ X.NoEff q m ∧ ∃ H', step X.P (fun _ _ _ => none) i.ins (X.E j) (X.Hp q) = some (x, H') := by
      intro d
      intro q hq hjq hno
      clear hq d
      induction q with
      | zero => obtain rfl : j = 0 := by omega
                exact ⟨0, by omega, Nat.le_refl _, hno, _, base⟩
      | succ q ih =>
        rcases Nat.lt_or_ge j (q + 1) with hl | hl
        · by_cases hqm : q < m
          · obtain ⟨iq, hiq⟩ := g.is_lt (show q < X.n by have := v.mle; omega)
            by_cases heq : isEff iq.ins = true
            · have hne : q ≠ j := fun e => by subst e; rw [r.ir] at hiq; cases hiq; rw [h2] at heq; cases heq
              have hlq : X.L listed q := (v.eff q iq hiq heq).2 hqm
              obtain ⟨oq, hoq, hlo⟩ := hlq
              rcases g.facts.pair j q k oq i iq (by omega) r.pos hoq r.ir hiq with hd | ⟨_, _, hch⟩
              · exact absurd (g.dep v.closed r.pos hoq hd fun e he => v.closed oq hlo e he) r.free
              · by_cases hrd : isRd i.ins = true
                · have hc := g.chk j q (hch hrd heq) i r.ir hw
                  rw [base] at hc
                  cases hst : step X.P (fun _ _ _ => none) i.ins (X.E j) (X.Hp (q + 1)) with
                  | none => rw [hst] at hc; cases hc
                  | some p =>
                    rw [hst] at hc
                    simp only [Option.map_some, Option.some.injEq] at hc
                    obtain ⟨px, pH⟩ := p
                    simp only at hc
                    subst hc
                    exact ⟨q + 1, by omega, by omega, hno, pH, hst⟩
                · -- it reads nothing
                  have hnb : rdBlk i.ins (X.E j) = none := by
                    cases hii : i.ins <;> rw [hii] at hrd <;> simp [isRd] at hrd <;> rfl
                  exact ⟨q + 1, by omega, by omega, hno, _, rd_agree h1 h2 base fun b hb _ => by rw [hnb] at hb; cases hb⟩
            · exact ih (by omega) fun q' s1 s2 => by
                rcases Nat.lt_or_ge q q' with h | h
                · exact hno q' (by omega) s2
                · obtain rfl : q' = q := by omega
                  intro i' hi'
                  rw [hiq] at hi'; cases hi'
                  simpa using heq
          · exact ih (by omega) fun q' s1 s2 => by omega
        · obtain rfl : j = q + 1 := by omega
          by_cases hjm' : q + 1 ≤ m
          · exact ⟨q + 1, hjm', Nat.le_refl _, hno, _, base⟩
          · omega
    exact ind 0 m (by omega) hjm fun q s1 s2 => by omega
  obtain ⟨q, q1, q2, q3, H', q4⟩ := key
  refine rd_agree h1 h2 q4 fun b hb hne => ?_
  obtain ⟨L, hL⟩ := hdomr b hb
  have hqn : q ≤ X.n := by have := v.mle; omega
  have hbq : b < (X.Hp q).next := by
    rcases Nat.lt_or_ge b (X.Hp q).next with h | h
    · exact h
    · exact absurd (g.hwp q hqn b h) hne
  rw [v.g1 b (by have := g.next_le q1 v.mle; omega)]
  exact g.keep q1 v.mle q3 b hbq
end
end Go.AM
end TextAhDraw2
section TextAhDraw3
/- AM: regions whose order is drawn: the theorem. -/
namespace Go.AM
set_option linter.unusedVariables false
set_option linter.unusedSimpArgs false
section
variable {X : Ctx}
theorem cOp_rdArg {P : Program} {op : Op} {i : Ins} (hc : cOp P op = some i) : (∀ x, i = .ld x → ∃ y, cArg y = some x) ∧ (∀ n x, i = .ldn n x → ∃ y, cArg y = some x) ∧ (∀ x, i = .b2s x → ∃ y, cArg y = some x) ∧ (∀ n x lo hi mx, i = .slv n x lo hi mx → ∃ y, cArg y = some x) := by
  refine ⟨fun x e => ?_, fun n x e => ?_, fun x e => ?_, fun n x lo hi mx e => ?_⟩ <;> subst e
  all_goals
    cases op
    case call c =>
      obtain ⟨callee, args, argTypes⟩ := c
      simp only [cOp] at hc
      cases callee
      case value g => cases g <;> simp at hc
      case invoke => cases hc
      case builtin b =>
        simp only at hc
        split at hc <;> try (cases hc; done)
        cases b <;> simp only [cBuiltin, cLen, cApp, cCopy, cClear, cCap, cMM] at hc <;> try (cases hc; done)
        all_goals (repeat' split at hc)
        all_goals first | (cases hc; done) | (simp at hc; done)
    case makeFunc fn first cap =>
      cases fn <;> simp only [cOp] at hc <;> try (cases hc; done)
      split at hc
      · simp at hc
      · cases hc
    all_goals first
      | (simp only [cOp] at hc; cases hc; done)
      | (simp [cOp] at hc; done)
      | (simp only [cOp, cBin] at hc; repeat' split at hc
         all_goals first | (cases hc; done) | (simp at hc; done) | (cases hc; exact ⟨_, ‹_›⟩))
theorem rdBlk_congr {e e' : Env} {i : Ins} (h : ∀ t ∈ i.tmps, e t = e' t) : rdBlk i e = rdBlk i e' := by
  cases i <;> simp only [Ins.tmps, List.mem_append] at h <;> simp only [rdBlk]
  case ld x => rw [ev_congr h]
  case ldn n x => rw [ev_congr h]
  case b2s x => rw [ev_congr h]
  case slv n x lo hi mx => rw [ev_congr (a := x) fun t ht => h t (.inl (.inl (.inl ht)))]
theorem rd_dom {P : Program} {ρ : Rho} {e : Env} {f : Operand → Value} (ha : ArgR ρ e f) {op : Op} {i : Ins} (hc : cOp P op = some i) {b : Nat} (h : rdBlk i e = some b) : ∃ L, ρ b = some L := by
  obtain ⟨c1, c2, c3, c4⟩ := cOp_rdArg hc
  have ptr : ∀ x, (∃ y, cArg y = some x) → (match ev e x with | .pointer (some a) => some a.block | _ => none) = some b → ∃ L, ρ b = some L := by
    rintro x ⟨y, hy⟩ hx
    have hv := ha y x hy
    cases hxv : ev e x <;> rw [hxv] at hx <;> try (cases hx; done)
    rename_i ad
    cases ad with
    | none => cases hx
    | some ad =>
      simp only [Option.some.injEq] at hx
      subst hx
      rw [hxv] at hv
      obtain ⟨L, h1, _⟩ := hv
      exact ⟨L, h1⟩
  have sl : ∀ x, (∃ y, cArg y = some x) → (match ev e x with | .slice (some a) _ _ => some a.block | _ => none) = some b → ∃ L, ρ b = some L := by
    rintro x ⟨y, hy⟩ hx
    have hv := ha y x hy
    cases hxv : ev e x <;> rw [hxv] at hx <;> try (cases hx; done)
    rename_i ad n c
    cases ad with
    | none => cases hx
    | some ad =>
      simp only [Option.some.injEq] at hx
      subst hx
      rw [hxv] at hv
      obtain ⟨L, o', c', h1, _⟩ := hv
      exact ⟨L, h1⟩
  cases i <;> simp only [rdBlk] at h <;> try (cases h; done)
  case ld x => exact ptr x (c1 x rfl) h
  case ldn n x => exact ptr x (c2 n x rfl) h
  case b2s x => exact sl x (c3 x rfl) h
  case slv n x lo hi mx => exact sl x (c4 n x lo hi mx rfl) h
/-- Effects that stand ahead in our order are listed, if one is ready. -/
theorem Inv.noEff (g : Good X) {listed : Array Bool} {m : Nat} {ρ : Rho} {G : Heap} {Y : Env} {a : Act} {w : World} (v : Inv X listed m ρ G Y a w) {k j : Nat} {o : Oper} {i : Ir} (r : Ready X listed k j o i) : X.NoEff m j := by
  intro p h1 h2 ip hip
  cases he : isEff ip.ins with
  | false => rfl
  | true =>
    exfalso
    obtain ⟨op, hop⟩ := g.order_lt (g.lt_is hip)
    rcases g.facts.pair p j op k ip i h2 hop r.pos hip r.ir with hd | ⟨_, h3, _⟩
    · have := (v.eff p ip hip he).1 (g.dep v.closed hop r.pos hd r.edges); omega
    · rw [he] at h3; cases h3
theorem Inv.below (g : Good X) {listed : Array Bool} {ρ : Rho} {G : Heap} {Y : Env} {a : Act} {w : World} {k j : Nat} (v : Inv X listed j ρ G Y a w) {o : Oper} {i : Ir} (r : Ready X listed k j o i) (he : isEff i.ins = true) : ∀ b L, ρ b = some L → b < (X.Hp j).next := by
  intro b L hL
  rcases v.dom b L hL with h | ⟨p, p1, p2, p3, p4⟩
  · exact h
  · exfalso
    rcases Nat.lt_or_ge j p with h | h
    · obtain ⟨op, hop, hlp⟩ := p2
      obtain ⟨ip, hip⟩ := g.is_lt (g.al_lt p3)
      rcases g.facts.pair j p k op i ip h r.pos hop r.ir hip with hd | ⟨_, h2, _⟩
      · exact r.free (g.dep v.closed r.pos hop hd fun e he => v.closed op hlp e he)
      · rw [he] at h2; cases h2
    · obtain rfl : p = j := by omega
      exact r.free p2
/-- All have run. -/
theorem Inv.done (g : Good X) {listed : Array Bool} {m : Nat} {ρ : Rho} {G : Heap} {Y : Env} {a : Act} {w : World} (v : Inv X listed m ρ G Y a w) (hall : ∀ p, p < X.n → X.L listed p) : EnvR ρ (X.E X.n) a X.N ∧ Adv (X.Hp 0).next X.ρ0 (X.Hp 0) X.w0 ρ (X.Hp X.n) w := by
  obtain ⟨G', v'⟩ := v.move g v.mle (Nat.le_refl _) (fun p h1 h2 ip hip => by
    cases he : isEff ip.ins with
    | false => rfl
    | true => have := (v.eff p ip hip he).1 (hall p h2); omega)
  have hY : Y = X.E X.n := funext fun t => v'.xval t X.n (Nat.le_refl _) fun q iq hiq hd => ⟨fun _ => g.lt_is hiq, fun h => hall q h⟩
  have hd : ∀ b L, ρ b = some L → b < (X.Hp X.n).next := fun b L hL => by
    rcases v'.dom b L hL with h | ⟨p, p1, _, p3, _⟩
    · exact h
    · have := g.al_lt p3; omega
  refine ⟨hY ▸ v'.env, v'.adv.reheap (by have := v'.adv.next; rw [v'.gnext] at this; exact this) hd fun b hb => (v'.g1 b ?_).symm⟩
  rcases hb with ⟨L, h⟩ | h
  · exact hd b L h
  · have := g.next_le (Nat.zero_le X.n) (Nat.le_refl _); omega
theorem mem_ready {listed : Array Bool} {k : Nat} : k ∈ Region.ready .any X.ops listed ↔ k < X.ops.size ∧ listed.getD k true = false ∧ ∃ o, X.ops[k]? = some o ∧ ∀ e ∈ edgesAt X.ops k, listed.getD e false = true := by
  unfold Region.ready
  simp only [List.mem_filter, List.mem_range, Bool.and_eq_true, Bool.not_eq_true']
  constructor
  · rintro ⟨h1, h2, h3⟩
    cases ho : X.ops[k]? with
    | none => rw [ho] at h3; simp at h3
    | some o =>
      rw [ho] at h3
      simp only [Option.map_some, Option.getD_some] at h3
      refine ⟨h1, h2, o, rfl, fun e he => ?_⟩
      simp only [edgesAt, ho, edgesOf, List.mem_map, List.mem_filter] at he
      obtain ⟨ed, ⟨he1, he2⟩, rfl⟩ := he
      rw [Array.all_eq_true_iff_forall_mem] at h3
      have := h3 ed (by simpa using he1)
      simpa [he2] using this
  · rintro ⟨h1, h2, o, ho, h3⟩
    refine ⟨h1, h2, ?_⟩
    rw [ho]
    simp only [Option.map_some, Option.getD_some]
    rw [Array.all_eq_true_iff_forall_mem]
    intro ed hed
    by_cases hb : Region.binds .any ed = true
    · have := h3 ed.on (by simp only [edgesAt, ho, edgesOf, List.mem_map, List.mem_filter]; exact ⟨ed, ⟨by simpa using hed, hb⟩, rfl⟩)
      simp [this]
    · simp [hb]
theorem getD_two {l : Array Bool} {k : Nat} (hk : k < l.size) : l.getD k true = l.getD k false := by
  simp [Array.getD_eq_getD_getElem?, hk]
theorem draw_any (g : Good X) {Q : Exit → Act → World → Prop} (hQ : ∀ a' w' ρ', EnvR ρ' (X.E X.n) a' X.N → Adv (X.Hp 0).next X.ρ0 (X.Hp 0) X.w0 ρ' (X.Hp X.n) w' → Q .normal a' w') :
    ∀ (fuel : Nat) (listed : Array Bool) (left : List Nat) {m : Nat} {ρ : Rho} {G : Heap} {Y : Env} {a : Act} {w : World}, Inv X listed m ρ G Y a w → left.length ≤ fuel → (∀ p, p < X.n → ¬ X.L listed p → p ∈ left) → wpAny X.P .any X.ops Q fuel listed a w := by
  intro fuel
  induction fuel with
  | zero =>
    intro listed left m ρ G Y a w v hl hleft
    have hnil : left = [] := List.length_eq_zero_iff.1 (by omega)
    have hall : ∀ p, p < X.n → X.L listed p := fun p hp => Classical.byContradiction fun h => by
      have := hleft p hp h
      rw [hnil] at this; cases this
    obtain ⟨h1, h2⟩ := v.done g hall
    refine ⟨?_, hQ a w ρ h1 h2⟩
    cases hr : Region.ready .any X.ops listed with
    | nil => rfl
    | cons k ks =>
      exfalso
      have hk : k ∈ Region.ready .any X.ops listed := by rw [hr]; simp
      obtain ⟨q1, q2, _⟩ := mem_ready.1 hk
      obtain ⟨p, hp⟩ := g.facts.surj k q1
      have hpn : p < X.n := by have := (List.getElem?_eq_some_iff.1 hp).1; rw [g.facts.len] at this; exact this
      obtain ⟨k', h3, h4⟩ := hall p hpn
      rw [hp] at h3; cases h3
      rw [getD_two (by rw [v.size]; exact q1), h4] at q2
      cases q2
  | succ fuel ih =>
    intro listed left m ρ G Y a w v hl hleft
    refine ⟨fun hr => ?_, fun k hk => ?_⟩
    · -- none is ready: all have run
      have hall : ∀ p, p < X.n → X.L listed p := by
        intro p
        induction p using Nat.strongRecOn with
        | _ p ihp =>
          intro hp
          refine Classical.byContradiction fun hno => ?_
          obtain ⟨k, hk⟩ := g.order_lt hp
          obtain ⟨o, i, ho, _, _⟩ := g.facts.code p k hk
          have hkn := g.facts.lt p k hk
          have : k ∈ Region.ready .any X.ops listed := by
            refine mem_ready.2 ⟨hkn, ?_, o, ho, fun e he => ?_⟩
            · rw [getD_two (by rw [v.size]; exact hkn)]
              cases hx : listed.getD k false with
              | false => rfl
              | true => exact absurd ⟨k, hk, hx⟩ hno
            · obtain ⟨q, hq, hqe⟩ := g.facts.edge p k hk e he
              obtain ⟨e', h1, h2⟩ := ihp q hq (by omega)
              rw [hqe] at h1; cases h1
              exact h2
          rw [hr] at this; cases this
      obtain ⟨h1, h2⟩ := v.done g hall
      exact hQ a w ρ h1 h2
    · obtain ⟨hkn, hfree, o, ho, hedges⟩ := mem_ready.1 hk
      obtain ⟨j, hj⟩ := g.facts.surj k hkn
      obtain ⟨o', i, ho', hi, hcode⟩ := g.facts.code j k hj
      rw [ho] at ho'; cases ho'
      have hjn := g.lt_is hi
      have r : Ready X listed k j o i := ⟨hj, ho, hi, hcode, (fun ⟨k', h1, h2⟩ => by
        rw [hj] at h1; cases h1
        rw [getD_two (by rw [v.size]; exact hkn), h2] at hfree; cases hfree), hedges⟩
      have hlook := v.look g r
      obtain ⟨hdst, hins⟩ := cOper_ins hcode
      -- what is left to do once j has run
      have next : ∀ {m' : Nat} {ρ' : Rho} {G' : Heap} {Y' : Env} {a' : Act} {w' : World}, Inv X (listed.setIfInBounds k true) m' ρ' G' Y' a' w' → wpAny X.P .any X.ops Q fuel (listed.setIfInBounds k true) a' w' := by
        intro m' ρ' G' Y' a' w' v'
        refine ih (listed.setIfInBounds k true) (left.erase j) v' ?_ fun p hp hno => ?_
        · rw [List.length_erase_of_mem (hleft j hjn r.free)]; omega
        · have hpj : p ≠ j := fun e => hno ((L_set g v.size hj).2 (.inr e))
          exact (List.mem_erase_of_ne hpj).2 (hleft p hp fun h => hno ((L_set g v.size hj).2 (.inl h)))
      unfold wpOp
      rw [ho]
      simp only
      rw [wanted_sound v.env hcode, wanted_congr (e := Y) (e' := X.E j) hlook]
      have htr := g.tr j i hi
      unfold stepIr at htr
      by_cases hw : wanted i (X.E j) = true
      · rw [if_pos hw] at htr ⊢
        split at htr
        case h_2 => cases htr
        rename_i x H' hs
        have h3 : put i.dst x (X.E j) = X.E (j + 1) ∧ H' = X.Hp (j + 1) := by simpa using htr
        obtain ⟨hE, rfl⟩ := h3
        left
        by_cases he : isEff i.ins = true
        · -- an effect
          have hmj : m ≤ j := by
            rcases Nat.lt_or_ge j m with h | h
            · exact absurd ((v.eff j i hi he).2 h) r.free
            · exact h
          obtain ⟨G1, v1⟩ := v.move g hmj (Nat.le_of_lt hjn) (v.noEff g r)
          have hbelow := v1.below g r he
          have hrel : RelH ρ (X.Hp j) w := ⟨hbelow, fun b L B hL hB => v1.adv.rel.blk b L B hL (by rw [v1.g1 b (hbelow b L hL)]; exact hB), fun b1 b2 L1 L2 B1 B2 q1 q2 q3 q4 q5 q6 =>
            v1.adv.rel.inj b1 b2 L1 L2 B1 B2 q1 q2 (by rw [v1.g1 b1 (hbelow b1 L1 q1)]; exact q3) (by rw [v1.g1 b2 (hbelow b2 L2 q2)]; exact q4) q5 q6, v1.adv.rel.j, fun b L B hL hB hro => v1.adv.rel.low b L B hL (by rw [v1.g1 b (hbelow b L hL)]; exact hB) hro, fun b L B hL hB => v1.adv.rel.typ b L B hL (by rw [v1.g1 b (hbelow b L hL)]; exact hB)⟩
          have hsY : step X.P X.C i.ins Y (X.Hp j) = some (x, X.Hp (j + 1)) := by
            rw [step_congr (e := Y) (e' := X.E j) fun t ht => hlook t (by simp [Ir.looks, ht])]; exact hs
          refine ins_sound g.ok hcode hsY v1.env.arg (g.hwp j (Nat.le_of_lt hjn)) hrel _ _ fun x' w' ρ' hv hadv => ?_
          obtain ⟨G2, v2⟩ := v1.effect g r hE.symm he hv hadv
          rw [← hdst]
          exact next v2
        · have he' : isEff i.ins = false := by simpa using he
          have hc2 : cOp X.P o.op = some i.ins := by
            rcases hins with h | h
            · exact h
            · rw [h] at he'; simp [isEff] at he'
          by_cases ha : isAl i.ins = true
          · -- a new block
            obtain ⟨f, B, q1, q2, q3⟩ := step_alc ha hs
            have hal : X.Al j := ⟨i, hi, ha, hw⟩
            have hq1 : alc i.ins Y = some (f, B) := by rw [alc_congr (e := Y) (e' := X.E j) fun t ht => hlook t (by simp [Ir.looks, ht])]; exact q1
            obtain ⟨hro, v', w', L, c, t, fr, md⟩ := al_sound (P := X.P) (w := w) hc2 hq1 v.env.arg
            obtain ⟨ρ', G', v2⟩ := v.made g r hal (by rw [← hE, q2]; rfl) q3 hro md
            refine wp_value md.run ?_
            rw [← hdst]
            exact next v2
          · have ha' : isAl i.ins = false := by simpa using ha
            have hsame := step_same ha' he' hs
            rw [hsame] at hs
            have go : ∀ {m1 : Nat} {G1 : Heap}, Inv X listed m1 ρ G1 Y a w → j ≤ m1 → o.wp X.P a w (wpAny X.P .any X.ops Q fuel (listed.setIfInBounds k true)) Q := by
              intro m1 G1 v1 hjm
              have hsG := v1.reads g r ha' he' hw hs hjm fun b hb => rd_dom (P := X.P) v1.env.arg hc2 (by rw [rdBlk_congr (e := Y) (e' := X.E j) fun t ht => hlook t (by simp [Ir.looks, ht])]; exact hb)
              obtain ⟨_, x', p1, p2⟩ := rd_sound (P := X.P) (w := w) hc2 ha' he' hsG v1.env.arg v1.adv.rel
              refine wp_value p1 ?_
              have v2 := v1.still g r hE.symm p2 (fun ⟨i', hi', h1, _⟩ => by rw [hi] at hi'; cases hi'; rw [ha'] at h1; cases h1) he'
              rw [← hdst]
              exact next v2
            rcases Nat.lt_or_ge m j with h | h
            · obtain ⟨G1, v1⟩ := v.move g (Nat.le_of_lt h) (Nat.le_of_lt hjn) (v.noEff g r)
              exact go v1 (Nat.le_refl _)
            · exact go v h
      · rw [if_neg hw] at htr ⊢
        have h3 : put i.dst undef (X.E j) = X.E (j + 1) ∧ X.Hp j = X.Hp (j + 1) := by simpa using htr
        by_cases he : isEff i.ins = true
        · have hmj : m ≤ j := by
            rcases Nat.lt_or_ge j m with h | h
            · exact absurd ((v.eff j i hi he).2 h) r.free
            · exact h
          obtain ⟨G1, v1⟩ := v.move g hmj (Nat.le_of_lt hjn) (v.noEff g r)
          have hbelow := v1.below g r he
          have hrel : RelH ρ (X.Hp j) w := ⟨hbelow, fun b L B hL hB => v1.adv.rel.blk b L B hL (by rw [v1.g1 b (hbelow b L hL)]; exact hB), fun b1 b2 L1 L2 B1 B2 q1 q2 q3 q4 q5 q6 =>
            v1.adv.rel.inj b1 b2 L1 L2 B1 B2 q1 q2 (by rw [v1.g1 b1 (hbelow b1 L1 q1)]; exact q3) (by rw [v1.g1 b2 (hbelow b2 L2 q2)]; exact q4) q5 q6, v1.adv.rel.j, fun b L B hL hB hro => v1.adv.rel.low b L B hL (by rw [v1.g1 b (hbelow b L hL)]; exact hB) hro, fun b L B hL hB => v1.adv.rel.typ b L B hL (by rw [v1.g1 b (hbelow b L hL)]; exact hB)⟩
          obtain ⟨G2, v2⟩ := v1.effect g r h3.1.symm he V3.undef (by rw [← h3.2]; exact Adv.refl hrel)
          rw [← hdst]
          exact next v2
        · have v2 := v.still g r h3.1.symm (x' := undef) V3.undef (fun ⟨i', hi', _, h2⟩ => by rw [hi] at hi'; cases hi'; exact hw h2) (by simpa using he)
          rw [← hdst]
          exact next v2
end
theorem regd_sound {P : Program} {C : CallF} (hP : P.follows .mixedOrders = true) (hC : COk P C) {ops : Array Oper} {N id : Nat} {Q : Exit → Act → World → Prop} {is0 is : List Ir} {order : List Nat} {ch : List (Nat × Nat)} {e e' : Env} {H H' : Heap} {a : Act} {ρ : Rho} {w : World}
    (h0 : cOpers P ops ops.toList = some is0) (h1 : pickL is0 order = some is) (h2 : drawOk ops order is ch = true) (hn : SlotsIn N is)
    (hs : runD P C is ch e H = some (e', H')) (he : EnvR ρ e a N) (hw : Hw H) (hr : RelH ρ H w) (hQ : ∀ a' w' ρ', EnvR ρ' e' a' N → Adv H.next ρ H w ρ' H' w' → Q .normal a' w') : (Code.region id ops true).wp P Q a w := by
  have facts := facts_of h0 h1 h2
  unfold runD at hs
  split at hs
  case h_2 => cases hs
  rename_i tr htr
  split at hs
  case isFalse => cases hs
  rename_i hchk
  obtain ⟨t1, t2, t3⟩ := tr_states is htr
  let X : Ctx := ⟨P, C, ops, order, is, ch, N, fun p => (tr.getD p (e, H)).1, fun p => (tr.getD p (e, H)).2, ρ, w⟩
  have hget : ∀ p s, tr[p]? = some s → tr.getD p (e, H) = s := fun p s h => by rw [List.getD_eq_getElem?_getD, h]; rfl
  have g : Good X := by
    refine ⟨hC, facts, hn, fun p i hi => ?_, fun p q hpq i hi hwt => ?_, ?_⟩
    · obtain ⟨s, s', q1, q2, q3⟩ := t3 p i hi
      show stepIr P C i (tr.getD p (e, H)).1 (tr.getD p (e, H)).2 = some ((tr.getD (p + 1) (e, H)).1, (tr.getD (p + 1) (e, H)).2)
      rw [hget p s q1, hget (p + 1) s' q2]; exact q3
    · have hc := hchk (p, q) hpq
      unfold Chk at hc
      simp only at hc
      split at hc
      · rename_i i' e1 H1 e2 G1 a1 a2 a3
        rw [hi] at a1; cases a1
        show (step P _ i.ins (tr.getD p (e, H)).1 (tr.getD (q + 1) (e, H)).2).map Prod.fst = (step P _ i.ins (tr.getD p (e, H)).1 (tr.getD p (e, H)).2).map Prod.fst
        have hwt' : wanted i (tr.getD p (e, H)).1 = true := hwt
        rw [hget p _ a2] at hwt' ⊢
        rw [hget (q + 1) _ a3]
        exact hc hwt'
      · exact hc.elim
    · show Hw (tr.getD 0 (e, H)).2
      rw [hget 0 _ t2]; exact hw
  have hE0 : X.E 0 = e := by show (tr.getD 0 (e, H)).1 = e; rw [hget 0 _ t2]
  have hH0 : X.Hp 0 = H := by show (tr.getD 0 (e, H)).2 = H; rw [hget 0 _ t2]
  have hn' : X.n = is.length := by show ops.size = is.length; exact facts.ilen.symm
  have hlast : tr.getD X.n (e, H) = (e', H') := by
    rw [List.getLast?_eq_getElem?, t1] at hs
    exact hget _ _ (by rw [hn']; simpa using hs)
  have hEn : X.E X.n = e' := by show (tr.getD X.n (e, H)).1 = e'; rw [hlast]
  have hHn : X.Hp X.n = H' := by show (tr.getD X.n (e, H)).2 = H'; rw [hlast]
  refine wp_region_any hP ?_
  have hrep : ∀ k, (Array.replicate ops.size false).getD k false = false := fun k => by
    rw [Array.getD_eq_getD_getElem?, Array.getElem?_replicate]
    split <;> rfl
  have hL0 : ∀ p, ¬ X.L (Array.replicate ops.size false) p := fun p ⟨k, _, h⟩ => by rw [hrep] at h; cases h
  have hnx : H.next ≤ H'.next := by have := g.next_le (Nat.zero_le X.n) (Nat.le_refl _); rw [hH0, hHn] at this; exact this
  let G : Heap := { next := H'.next, blk := H.blk }
  have hw1 : RelH ρ H { w with drawn := w.drawn + 1 } := hr.same rfl
  have v : Inv X (Array.replicate ops.size false) 0 ρ G e a { w with drawn := w.drawn + 1 } := by
    refine ⟨(by simp; rfl), (fun k hk => by have hk' : (Array.replicate ops.size false).getD k false = true := hk; rw [hrep] at hk'; cases hk'), Nat.zero_le _, (fun p i hi hee => ⟨fun h => absurd h (hL0 p), fun h => by omega⟩), he, (fun t p hp hq => ?_), (by show H'.next = _; rw [hHn]), (fun b hb => by show H.blk b = _; rw [hH0]), (fun p _ h _ => absurd h (hL0 p)), (fun b L hL => .inl (by rw [hH0]; exact hr.dom b L hL)), (fun p hp _ => ⟨?_, fun h => by omega⟩), ?_⟩
    · rw [E_const g (Nat.zero_le p) hp fun q i h1 h2 hi hd => ?_, hE0]
      exact hL0 q ((hq q i hi hd).2 h2)
    · cases hx : ρ (X.idn p) with
      | none => rfl
      | some L =>
        have h3 := hr.dom _ L hx
        have h4 := g.next_le (Nat.zero_le p) (Nat.le_of_lt (g.al_lt hp))
        rw [hH0] at h4
        unfold Ctx.idn at h3; omega
    · have a0 : Adv (X.Hp 0).next ρ H w ρ H { w with drawn := w.drawn + 1 } := Adv.same hr rfl rfl rfl rfl
      rw [hH0] at a0 ⊢
      exact a0.reheap (G := G) hnx (fun b L hL => by have := hr.dom b L hL; show b < H'.next; omega) fun b _ => rfl
  refine draw_any g (Q := Q) (fun a' w' ρ' q1 q2 => ?_) ops.size _ (List.range ops.size) v (by simp) fun p hp _ => List.mem_range.2 hp
  rw [hEn] at q1
  rw [hH0, hHn] at q2
  exact hQ a' w' ρ' q1 q2
end Go.AM
end TextAhDraw3
