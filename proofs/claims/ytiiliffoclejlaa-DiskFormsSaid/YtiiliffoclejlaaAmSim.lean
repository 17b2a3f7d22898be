/- AM: running code by rewriting. -/
import Derived.Test.YtiiliffoclejlaaAmSound
namespace Go.AM
set_option linter.unusedVariables false
set_option linter.unusedSimpArgs false

/-! ### slots -/
@[simp] theorem upd_app (t : Nat) (v : Value) (e : Env) (s : Nat) : upd t v e s = if s = t then v else e s := rfl
@[simp] theorem put_some' (t : Nat) (v : Value) (e : Env) : put (some t) v e = upd t v e := rfl
@[simp] theorem put_none' (v : Value) (e : Env) : put none v e = e := rfl
@[simp] theorem ev_t (e : Env) (n : Nat) : ev e (.t n) = e n := rfl
@[simp] theorem ev_c (e : Env) (v : Value) : ev e (.c v) = v := rfl
@[simp] theorem env0_cons0 (a : Value) (as : List Value) : env0 (a :: as) 0 = a := rfl
@[simp] theorem env0_cons1 (a b : Value) (as : List Value) : env0 (a :: b :: as) 1 = b := rfl
@[simp] theorem env0_cons2 (a b c : Value) (as : List Value) : env0 (a :: b :: c :: as) 2 = c := rfl
@[simp] theorem env0_cons3 (a b c d : Value) (as : List Value) : env0 (a :: b :: c :: d :: as) 3 = d := rfl
@[simp] theorem env0_cons4 (a b c d x : Value) (as : List Value) : env0 (a :: b :: c :: d :: x :: as) 4 = x := rfl
@[simp] theorem env0_cons5 (a b c d x y : Value) (as : List Value) : env0 (a :: b :: c :: d :: x :: y :: as) 5 = y := rfl

/-! ### what an end must satisfy -/
def wp (r : Option (IEx × Env × Heap)) (Q : IEx → Env → Heap → Prop) : Prop := ∃ x e H, r = some (x, e, H) ∧ Q x e H
def wpf (r : Option (Value × Heap)) (Q : Value → Heap → Prop) : Prop := ∃ v H, r = some (v, H) ∧ Q v H
@[simp] theorem wp_some (x : IEx) (e : Env) (H : Heap) (Q : IEx → Env → Heap → Prop) : wp (some (x, e, H)) Q = Q x e H := by
  apply propext; constructor
  · rintro ⟨x', e', H', h, hq⟩; cases h; exact hq
  · exact fun h => ⟨x, e, H, rfl, h⟩
@[simp] theorem wpf_some (v : Value) (H : Heap) (Q : Value → Heap → Prop) : wpf (some (v, H)) Q = Q v H := by
  apply propext; constructor
  · rintro ⟨v', H', h, hq⟩; cases h; exact hq
  · exact fun h => ⟨v, H, rfl, h⟩
@[simp] theorem wp_ite {c : Prop} [Decidable c] (r s : Option (IEx × Env × Heap)) (Q : IEx → Env → Heap → Prop) : wp (if c then r else s) Q = if c then wp r Q else wp s Q := by split <;> rfl
theorem wp.mono {r : Option (IEx × Env × Heap)} {Q Q' : IEx → Env → Heap → Prop} (h : wp r Q) (hq : ∀ x e H, Q x e H → Q' x e H) : wp r Q' := by
  obtain ⟨x, e, H, h1, h2⟩ := h; exact ⟨x, e, H, h1, hq _ _ _ h2⟩
theorem wpf.mono {r : Option (Value × Heap)} {Q Q' : Value → Heap → Prop} (h : wpf r Q) (hq : ∀ v H, Q v H → Q' v H) : wpf r Q' := by
  obtain ⟨v, H, h1, h2⟩ := h; exact ⟨v, H, h1, hq _ _ h2⟩
@[simp] theorem nxt_norm (e : Env) (H : Heap) (f : Env → Heap → Option (IEx × Env × Heap)) : nxt (some (.norm, e, H)) f = f e H := rfl
@[simp] theorem nxt_ret (e : Env) (H : Heap) (f : Env → Heap → Option (IEx × Env × Heap)) : nxt (some (.ret, e, H)) f = some (.ret, e, H) := rfl
@[simp] theorem nxt_exit (id : Nat) (e : Env) (H : Heap) (f : Env → Heap → Option (IEx × Env × Heap)) : nxt (some (.exit id, e, H)) f = some (.exit id, e, H) := rfl
@[simp] theorem nxt_none (f : Env → Heap → Option (IEx × Env × Heap)) : nxt none f = none := rfl
@[simp] theorem unblock_norm (id : Nat) (e : Env) (H : Heap) : unblock id (some (.norm, e, H)) = some (.norm, e, H) := rfl
@[simp] theorem unblock_ret (id : Nat) (e : Env) (H : Heap) : unblock id (some (.ret, e, H)) = some (.ret, e, H) := rfl
@[simp] theorem unblock_exit (id i : Nat) (e : Env) (H : Heap) : unblock id (some (.exit i, e, H)) = if i = id then some (.norm, e, H) else some (.exit i, e, H) := rfl
@[simp] theorem ok2_some (e : Env) (H : Heap) : ok2 (some (e, H)) = some (.norm, e, H) := rfl
/-- What follows, if the end is an end within. -/
def thenQ (f : Env → Heap → Option (IEx × Env × Heap)) (Q : IEx → Env → Heap → Prop) : IEx → Env → Heap → Prop
  | .norm, e, H => wp (f e H) Q
  | x, e, H => Q x e H
def blockQ (id : Nat) (Q : IEx → Env → Heap → Prop) : IEx → Env → Heap → Prop
  | .exit i, e, H => if i = id then Q .norm e H else Q (.exit i) e H
  | x, e, H => Q x e H
@[simp] theorem thenQ_norm (f : Env → Heap → Option (IEx × Env × Heap)) (Q : IEx → Env → Heap → Prop) (e : Env) (H : Heap) : thenQ f Q .norm e H = wp (f e H) Q := rfl
@[simp] theorem thenQ_ret (f : Env → Heap → Option (IEx × Env × Heap)) (Q : IEx → Env → Heap → Prop) (e : Env) (H : Heap) : thenQ f Q .ret e H = Q .ret e H := rfl
@[simp] theorem thenQ_exit (f : Env → Heap → Option (IEx × Env × Heap)) (Q : IEx → Env → Heap → Prop) (i : Nat) (e : Env) (H : Heap) : thenQ f Q (.exit i) e H = Q (.exit i) e H := rfl
@[simp] theorem blockQ_norm (id : Nat) (Q : IEx → Env → Heap → Prop) (e : Env) (H : Heap) : blockQ id Q .norm e H = Q .norm e H := rfl
@[simp] theorem blockQ_ret (id : Nat) (Q : IEx → Env → Heap → Prop) (e : Env) (H : Heap) : blockQ id Q .ret e H = Q .ret e H := rfl
@[simp] theorem blockQ_exit (id i : Nat) (Q : IEx → Env → Heap → Prop) (e : Env) (H : Heap) : blockQ id Q (.exit i) e H = if i = id then Q .norm e H else Q (.exit i) e H := rfl
theorem wp_nxt {r : Option (IEx × Env × Heap)} {f : Env → Heap → Option (IEx × Env × Heap)} {Q : IEx → Env → Heap → Prop} (h : wp r (thenQ f Q)) : wp (nxt r f) Q := by
  obtain ⟨x, e, H, rfl, h2⟩ := h
  cases x
  · exact h2
  · exact ⟨_, _, _, rfl, h2⟩
  · exact ⟨_, _, _, rfl, h2⟩
theorem wp_unblock {r : Option (IEx × Env × Heap)} {id : Nat} {Q : IEx → Env → Heap → Prop} (h : wp r (blockQ id Q)) : wp (unblock id r) Q := by
  obtain ⟨x, e, H, rfl, h2⟩ := h
  cases x
  · exact ⟨_, _, _, rfl, h2⟩
  · simp only [blockQ] at h2
    simp only [unblock]
    split
    · rename_i hi; rw [if_pos hi] at h2; exact ⟨_, _, _, rfl, h2⟩
    · rename_i hi; rw [if_neg hi] at h2; exact ⟨_, _, _, rfl, h2⟩
  · exact ⟨_, _, _, rfl, h2⟩

/-! ### code -/
attribute [simp] run_skip run_exit run_ret run_reg run_seq run_block
def condV (v : Value) (p q : Option (IEx × Env × Heap)) : Option (IEx × Env × Heap) := match v with | .bool b => if b = true then p else q | _ => none
@[simp] theorem condV_bool (b : Bool) (p q : Option (IEx × Env × Heap)) : condV (.bool b) p q = if b = true then p else q := rfl
@[simp] theorem run_cond' (K : Cfg) (c : Arg) (a b : IC) (e : Env) (H : Heap) : run K (.cond c a b) e H = condV (ev e c) (run K a e H) (run K b e H) := by
  rw [run_cond]
  unfold condV
  split
  · rename_i h; rw [h]; rfl
  · rename_i h; rw [h]; rfl
  · rename_i h1 h2
    split
    · rename_i b hb; cases b
      · exact absurd hb h2
      · exact absurd hb h1
    · rfl
theorem runTr_last {P : Program} {C : CallF} : ∀ (is : List Ir) (e : Env) (H : Heap), (runTr P C is e H).bind (·.getLast?) = runIr P C is e H
  | [], e, H => rfl
  | i :: is, e, H => by
    simp only [runTr, runIr]
    cases hs : stepIr P C i e H with
    | none => rfl
    | some q =>
      simp only
      have ih := runTr_last (P := P) (C := C) is q.1 q.2
      cases ht : runTr P C is q.1 q.2 with
      | none => rw [ht] at ih; simpa using ih
      | some l =>
        rw [ht] at ih
        simp only [Option.bind_some] at ih ⊢
        rw [← ih]
        cases l with
        | nil => exfalso; cases is <;> simp only [runTr] at ht <;> (repeat' split at ht) <;> cases ht
        | cons a l => rw [List.getLast?_cons_cons]
theorem runD_nil (P : Program) (C : CallF) (is : List Ir) (e : Env) (H : Heap) : runD P C is [] e H = runIr P C is e H := by
  unfold runD
  rw [← runTr_last]
  cases runTr P C is e H with
  | none => rfl
  | some l => simp
@[simp] theorem run_regd_nil (K : Cfg) (is : List Ir) (e : Env) (H : Heap) : run K (.regd is []) e H = ok2 (runIr K.P (call K) is e H) := by rw [run_regd, runD_nil]
@[simp] theorem runIr_nil (P : Program) (C : CallF) (e : Env) (H : Heap) : runIr P C [] e H = some (e, H) := rfl
def contIr (P : Program) (C : CallF) (is : List Ir) (d : Option Nat) (e : Env) (r : Option (Value × Heap)) : Option (Env × Heap) := match r with | some (v, H) => runIr P C is (put d v e) H | none => none
@[simp] theorem contIr_some (P : Program) (C : CallF) (is : List Ir) (d : Option Nat) (e : Env) (v : Value) (H : Heap) : contIr P C is d e (some (v, H)) = runIr P C is (put d v e) H := rfl
@[simp] theorem contIr_none (P : Program) (C : CallF) (is : List Ir) (d : Option Nat) (e : Env) : contIr P C is d e none = none := rfl
@[simp] theorem runIr_cons (P : Program) (C : CallF) (d : Option Nat) (i : Ins) (is : List Ir) (e : Env) (H : Heap) :
    runIr P C (⟨d, none, i⟩ :: is) e H = contIr P C is d e (step P C i e H) := by
  simp only [runIr, stepIr, wanted, if_true]
  cases step P C i e H <;> rfl
def isB (v : Value) (w : Bool) : Bool := match v with | .bool b => b == w | _ => false
@[simp] theorem isB_bool (b w : Bool) : isB (.bool b) w = (b == w) := rfl
@[simp] theorem isB_undef (w : Bool) : isB undef w = false := rfl
@[simp] theorem runIr_cons_g (P : Program) (C : CallF) (d : Option Nat) (g : Nat) (w : Bool) (i : Ins) (is : List Ir) (e : Env) (H : Heap) :
    runIr P C (⟨d, some (g, w), i⟩ :: is) e H = if isB (e g) w = true then contIr P C is d e (step P C i e H) else runIr P C is (put d undef e) H := by
  have hw : wanted ⟨d, some (g, w), i⟩ e = isB (e g) w := rfl
  simp only [runIr, stepIr, hw]
  by_cases h : isB (e g) w = true
  · rw [if_pos h, if_pos h]; cases step P C i e H <;> rfl
  · rw [if_neg h, if_neg h]

/-! ### operators -/
@[simp] theorem cast_eq (a b : Nat) : ((a : Int) = (b : Int)) = (a = b) := propext ⟨Int.ofNat.inj, fun h => by rw [h]⟩
@[simp] theorem natOf_cast (k : IntKind) (n : Nat) : natOf (.int k (n : Int)) = some n := by simp [natOf]
theorem natOf_int (k : IntKind) (n : Int) : natOf (.int k n) = if 0 ≤ n then some n.toNat else none := rfl
@[simp] theorem natOf_zero (k : IntKind) : natOf (.int k 0) = some 0 := rfl
@[simp] theorem natOf_one (k : IntKind) : natOf (.int k 1) = some 1 := rfl
section
variable (P : Program) (t : TypeId) (k : IntKind) (a b : Int)
@[simp] theorem binV_add : binV P .add t (.int k a) (.int k b) = some (.int k (k.wrap (a + b))) := by cases k <;> rfl
@[simp] theorem binV_sub : binV P .sub t (.int k a) (.int k b) = some (.int k (k.wrap (a - b))) := by cases k <;> rfl
@[simp] theorem binV_mul : binV P .mul t (.int k a) (.int k b) = some (.int k (k.wrap (a * b))) := by cases k <;> rfl
@[simp] theorem binV_eql : binV P .eql t (.int k a) (.int k b) = some (.bool (decide (a = b))) := by cases k <;> rfl
@[simp] theorem binV_neq : binV P .neq t (.int k a) (.int k b) = some (.bool (decide (a ≠ b))) := by
  have : binV P .neq t (.int k a) (.int k b) = some (.bool (a != b)) := by cases k <;> rfl
  rw [this]; congr 2; by_cases h : a = b <;> simp [h]
@[simp] theorem binV_lss : binV P .lss t (.int k a) (.int k b) = some (.bool (decide (a < b))) := by cases k <;> rfl
@[simp] theorem binV_leq : binV P .leq t (.int k a) (.int k b) = some (.bool (decide (a ≤ b))) := by cases k <;> rfl
@[simp] theorem binV_gtr : binV P .gtr t (.int k a) (.int k b) = some (.bool (decide (b < a))) := by cases k <;> rfl
@[simp] theorem binV_geq : binV P .geq t (.int k a) (.int k b) = some (.bool (decide (b ≤ a))) := by cases k <;> rfl
theorem binV_rem (h : b ≠ 0) : binV P .rem t (.int k a) (.int k b) = some (.int k (a.tmod b)) := by
  unfold binV
  simp [flat2, flat1, bothNilIface, eqGuard, binOp, Op.intDiv, h, pv, flatRes, bind, Sem.bind, pure]
theorem binV_quo (h : b ≠ 0) : binV P .quo t (.int k a) (.int k b) = some (.int k (k.wrap (a.tdiv b))) := by
  unfold binV
  simp [flat2, flat1, bothNilIface, eqGuard, binOp, Op.intDiv, h, pv, flatRes, bind, Sem.bind, pure]
theorem binV_shr (k' : IntKind) (n : Nat) : binV P .shr t (.int k a) (.int k' (n : Int)) = some (.int k (a.fdiv (2 ^ (min n k.bits)))) := by
  unfold binV
  simp [flat2, flat1, bothNilIface, eqGuard, binOp, Op.shift, pv, flatRes, bind, Sem.bind, pure]
  rw [if_neg (by omega)]
  simp [pv]
theorem binV_shl (k' : IntKind) (n : Nat) : binV P .shl t (.int k a) (.int k' (n : Int)) = some (.int k (k.wrap (a * 2 ^ (min n k.bits)))) := by
  unfold binV
  simp [flat2, flat1, bothNilIface, eqGuard, binOp, Op.shift, pv, flatRes, bind, Sem.bind, pure]
  rw [if_neg (by omega)]
  simp [pv]
variable (x y : ByteArray)
@[simp] theorem binV_seql : binV P .eql t (.string x) (.string y) = some (.bool (decide (x = y))) := by
  have : binV P .eql t (.string x) (.string y) = some (.bool (x.toList == y.toList)) := rfl
  rw [this, dec_beq_bytes]
@[simp] theorem binV_sneq : binV P .neq t (.string x) (.string y) = some (.bool (decide (x ≠ y))) := by
  have : binV P .neq t (.string x) (.string y) = some (.bool (!(x.toList == y.toList))) := rfl
  rw [this, dec_beq_bytes]; congr 2; by_cases h : x = y <;> simp [h]
def bLess (x y : ByteArray) : Bool := Op.bytesLess x.toList y.toList
@[simp] theorem binV_slss : binV P .lss t (.string x) (.string y) = some (.bool (bLess x y)) := rfl
@[simp] theorem binV_sleq : binV P .leq t (.string x) (.string y) = some (.bool (bLess x y || decide (x = y))) := by
  have : binV P .leq t (.string x) (.string y) = some (.bool (bLess x y || (x.toList == y.toList))) := rfl
  rw [this, dec_beq_bytes]
@[simp] theorem binV_sgtr : binV P .gtr t (.string x) (.string y) = some (.bool (!(bLess x y || decide (x = y)))) := by
  have : binV P .gtr t (.string x) (.string y) = some (.bool (!(bLess x y || (x.toList == y.toList)))) := rfl
  rw [this, dec_beq_bytes]
@[simp] theorem binV_sgeq : binV P .geq t (.string x) (.string y) = some (.bool (!bLess x y)) := rfl
theorem binV_sadd (h : x.size + y.size ≤ 9223372036854775807) : binV P .add t (.string x) (.string y) = some (.string (x ++ y)) := by
  have hc : ¬ (((x.size + y.size : Nat) : Int) > IntKind.i64.max) := by simp [IntKind.max, IntKind.bits, IntKind.signed]; omega
  have h1 : binV P .add t (.string x) (.string y) = flatRes (pv P (Op.stringOp .add x y)) := rfl
  rw [h1]
  unfold Op.stringOp
  simp only [if_neg hc]
  rfl
@[simp] theorem un_not (b : Bool) : flatRes (pv P (Op.unary .not (.bool b))) = some (.bool (!b)) := rfl
@[simp] theorem un_neg : flatRes (pv P (Op.unary .neg (.int k a))) = some (.int k (k.wrap (0 - a))) := rfl
end
@[simp] theorem flat1_bool (b : Bool) : flat1 (.bool b) = true := rfl
@[simp] theorem flat1_int (k : IntKind) (n : Int) : flat1 (.int k n) = true := rfl
@[simp] theorem flat1_string (s : ByteArray) : flat1 (.string s) = true := rfl
@[simp] theorem flat1_nil : flat1 (.slice none 0 0) = true := rfl
@[simp] theorem flat_bool (b : Bool) : flat (.bool b) = true := rfl
@[simp] theorem flat_int (k : IntKind) (n : Int) : flat (.int k n) = true := rfl
@[simp] theorem flat_string (s : ByteArray) : flat (.string s) = true := rfl
attribute [simp] flat2
@[simp] theorem flat_tuple (vs : Array Value) : flat (.tuple vs) = vs.toList.all flat2 := rfl
@[simp] theorem flat_agg (vs : Array Value) : flat (.agg vs) = vs.toList.all flat1 := rfl
theorem wrap_i64 {x : Int} (h1 : -9223372036854775808 ≤ x) (h2 : x ≤ 9223372036854775807) : IntKind.i64.wrap x = x := by
  unfold IntKind.wrap; simp [IntKind.bits, IntKind.signed]; omega
theorem wrap_succ {i : Nat} (h : i < 9223372036854775807) : IntKind.i64.wrap ((i : Int) + 1) = ((i + 1 : Nat) : Int) := by
  rw [wrap_i64 (by omega) (by omega)]; simp
theorem wrap_u8 {x : Int} (h1 : 0 ≤ x) (h2 : x ≤ 255) : IntKind.u8.wrap x = x := by
  unfold IntKind.wrap; simp [IntKind.bits, IntKind.signed]; omega

/-! ### the heap -/
attribute [simp] ptr row0
@[simp] theorem blk_roAll (H : Heap) (b : Nat) : H.roAll.blk b = (H.blk b).map fun B => { B with ro := true } := by
  simp only [Heap.roAll]; cases H.blk b <;> rfl
@[simp] theorem next_roAll (H : Heap) : H.roAll.next = H.next := rfl
@[simp] theorem cell_roAll (H : Heap) (b o : Nat) : H.roAll.cell b o = H.cell b o := by
  simp only [Heap.cell, blk_roAll]; cases H.blk b <;> rfl
@[simp] theorem row_roAll (H : Heap) (b : Nat) : ∀ (n o : Nat), H.roAll.row b o n = H.row b o n
  | 0, _ => rfl
  | n + 1, o => by simp only [Heap.row, cell_roAll, row_roAll H b n]
@[simp] theorem next_add (H : Heap) (B : Blk) : (H.add B).next = H.next + 1 := rfl
@[simp] theorem next_set (H : Heap) (b : Nat) (f : Option Blk) : (H.set b f).next = H.next := rfl
@[simp] theorem blk_add_new (H : Heap) (B : Blk) : (H.add B).blk H.next = some B := by simp [Heap.add]
theorem blk_add_old {H : Heap} {B : Blk} {b : Nat} (h : b < H.next) : (H.add B).blk b = H.blk b := by simp only [Heap.add]; rw [if_neg (by omega)]
@[simp] theorem blk_set_self (H : Heap) (b : Nat) (f : Option Blk) : (H.set b f).blk b = f := by simp [Heap.set]
theorem blk_set_ne {H : Heap} {b k : Nat} {f : Option Blk} (h : k ≠ b) : (H.set b f).blk k = H.blk k := by simp only [Heap.set]; rw [if_neg h]
@[simp] theorem cell_add_new (H : Heap) (B : Blk) (o : Nat) : (H.add B).cell H.next o = B.at_ o := by simp [Heap.cell]
theorem cell_add_old {H : Heap} {B : Blk} {b o : Nat} (h : b < H.next) : (H.add B).cell b o = H.cell b o := by simp only [Heap.cell, blk_add_old h]
@[simp] theorem cell_set_self (H : Heap) (b o : Nat) (B : Blk) : (H.set b (some B)).cell b o = B.at_ o := by simp [Heap.cell]
theorem cell_set_ne {H : Heap} {b k o : Nat} {f : Option Blk} (h : k ≠ b) : (H.set b f).cell k o = H.cell k o := by simp only [Heap.cell, blk_set_ne h]
@[simp] theorem at_row (esz : Nat) (vs : List Value) (o : Nat) : (rowBlk esz vs).at_ o = vs[o]? := rfl
@[simp] theorem ro_row (esz : Nat) (vs : List Value) : (rowBlk esz vs).ro = false := rfl
@[simp] theorem esz_row (esz : Nat) (vs : List Value) : (rowBlk esz vs).esz = esz := rfl
@[simp] theorem at_put (B : Blk) (o j : Nat) (v : Value) : (B.put o v).at_ j = if j = o then some v else B.at_ j := rfl
@[simp] theorem ro_put (B : Blk) (o : Nat) (v : Value) : (B.put o v).ro = B.ro := rfl
@[simp] theorem esz_put (B : Blk) (o : Nat) (v : Value) : (B.put o v).esz = B.esz := rfl
@[simp] theorem puts_nil (B : Blk) (o : Nat) : B.puts o [] = B := rfl
@[simp] theorem puts_cons (B : Blk) (o : Nat) (v : Value) (vs : List Value) : B.puts o (v :: vs) = (B.put o v).puts (o + 1) vs := rfl
/-- One heap goes on from another: nothing that stood has turned. -/
structure Ext (H H' : Heap) : Prop where
  next : H.next ≤ H'.next
  blk : ∀ b, b < H.next → H'.blk b = H.blk b
theorem Ext.refl (H : Heap) : Ext H H := ⟨Nat.le_refl _, fun _ _ => rfl⟩
theorem Ext.trans {A B C : Heap} (h : Ext A B) (k : Ext B C) : Ext A C := ⟨Nat.le_trans h.next k.next, fun b hb => (k.blk b (by have := h.next; omega)).trans (h.blk b hb)⟩
theorem Ext.add {A B : Heap} (h : Ext A B) (X : Blk) : Ext A (B.add X) := ⟨by have := h.next; simp; omega, fun b hb => by rw [blk_add_old (by have := h.next; omega)]; exact h.blk b hb⟩
theorem Ext.set {A B : Heap} (h : Ext A B) {b : Nat} (hb : A.next ≤ b) (f : Option Blk) : Ext A (B.set b f) := ⟨h.next, fun k hk => by rw [blk_set_ne (by omega)]; exact h.blk k hk⟩
theorem Ext.cell {A B : Heap} (h : Ext A B) {b o : Nat} (hb : b < A.next) : B.cell b o = A.cell b o := by simp only [Heap.cell, h.blk b hb]
theorem row_congr {H G : Heap} {b : Nat} (h : ∀ o, G.cell b o = H.cell b o) : ∀ (n o : Nat), G.row b o n = H.row b o n
  | 0, _ => rfl
  | n + 1, o => by simp only [Heap.row, h, row_congr h n]
theorem Ext.row {A B : Heap} (h : Ext A B) {b : Nat} (hb : b < A.next) (n o : Nat) : B.row b o n = A.row b o n := row_congr (fun o => h.cell hb) n o
@[simp] theorem row_zero (H : Heap) (b o : Nat) : H.row b o 0 = some [] := rfl

/-! ### functions -/
theorem open_pure {K : Cfg} {f : FuncId} {F : IFn} {args : List Value} {H : Heap} {Q : Value → Heap → Prop} (hX : K.X f = none) (hF : K.F f = some F) (hp : K.pur f = true) (hl : args.length ≤ F.ntmps)
    (h : wp (run K F.code (env0 args) H.roAll) fun x e H' => isEnd x = true ∧ ∃ v, resAll H' e F.res = some v ∧ flat v = true ∧ Q v H) : wpf (call K f args H) Q := by
  obtain ⟨x, e, H', h1, h2, v, h3, h4, h5⟩ := h
  refine ⟨v, H, ?_, h5⟩
  rw [call_eq, hX, hF]
  simp only [if_pos hl, if_pos hp, h1]
  simp [finish, quiet, h2, h3, h4]
theorem open_plain {K : Cfg} {f : FuncId} {F : IFn} {args : List Value} {H : Heap} {Q : Value → Heap → Prop} (hX : K.X f = none) (hF : K.F f = some F) (hp : K.pur f = false) (hl : args.length ≤ F.ntmps)
    (h : wp (run K F.code (env0 args) H) fun x e H' => isEnd x = true ∧ ∃ v, resAll H' e F.res = some v ∧ Q v H') : wpf (call K f args H) Q := by
  obtain ⟨x, e, H', h1, h2, v, h3, h5⟩ := h
  refine ⟨v, H', ?_, h5⟩
  rw [call_eq, hX, hF]
  simp only [if_pos hl, hp, h1]
  simp [finish, h2, h3]
@[simp] theorem isEnd_ret : isEnd .ret = true := rfl
@[simp] theorem isEnd_norm : isEnd .norm = true := rfl
attribute [simp] resAll resL resV noTup
theorem of_wpf {r : Option (Value × Heap)} {v : Value} {H : Heap} (h : wpf r fun u G => u = v ∧ G = H) : r = some (v, H) := by
  obtain ⟨u, G, h1, rfl, rfl⟩ := h; exact h1
/-- A loop over what is left: at each head 'Inv' holds; a round lowers the number or ends. -/
theorem wp_loop {K : Cfg} {a : IC} {Q : IEx → Env → Heap → Prop} (Inv : Nat → Env → Heap → Prop)
    (round : ∀ d e H, Inv d e H → wp (run K a e H) fun x e' H' => match x with | .norm => ∃ d', d' < d ∧ Inv d' e' H' | x => Q x e' H') : ∀ (d : Nat) (e : Env) (H : Heap), Inv d e H → wp (run K (.loop a) e H) Q := by
  intro d
  induction d using Nat.strongRecOn with
  | _ d ih =>
    intro e H h
    obtain ⟨x, e', H', h1, h2⟩ := round d e H h
    rw [run_loop, h1]
    cases x with
    | norm => obtain ⟨d', hd, hi⟩ := h2; exact ih d' hd e' H' hi
    | exit i => exact ⟨_, _, _, rfl, h2⟩
    | ret => exact ⟨_, _, _, rfl, h2⟩

/-! ### rows of elements -/
/-- v is a slice of xs: each element has sz cells, as enc says. -/
structure Rows {α : Type} (enc : α → List Value) (sz : Nat) (H : Heap) (v : Value) (xs : List α) : Prop where
  lim : xs.length ≤ 9223372036854775807
  is : ∃ p c, v = .slice p xs.length c ∧ ((p = none ∧ xs = [] ∧ c = 0) ∨ ∃ b o, p = some ⟨b, o, none⟩ ∧ b < H.next ∧ xs.length ≤ c / 2 ∧ ∀ (i : Nat) (h : i < xs.length) (j : Nat), j < sz → H.cell b (o + i * sz + j) = (enc xs[i])[j]?)
section
variable {α : Type} {enc : α → List Value} {sz : Nat} {H : Heap} {v : Value} {xs : List α}
theorem Rows.ext (h : Rows enc sz H v xs) {H' : Heap} (he : Ext H H') : Rows enc sz H' v xs := by
  obtain ⟨l, p, c, rfl, hp⟩ := h
  refine ⟨l, p, c, rfl, hp.imp id ?_⟩
  rintro ⟨b, o, h1, h2, h3, h4⟩
  exact ⟨b, o, h1, by have := he.next; omega, h3, fun i hi j hj => by rw [he.cell h2]; exact h4 i hi j hj⟩
theorem Rows.roAll (h : Rows enc sz H v xs) : Rows enc sz H.roAll v xs := by
  obtain ⟨l, p, c, rfl, hp⟩ := h
  refine ⟨l, p, c, rfl, hp.imp id ?_⟩
  rintro ⟨b, o, h1, h2, h3, h4⟩
  exact ⟨b, o, h1, h2, h3, fun i hi j hj => by rw [cell_roAll]; exact h4 i hi j hj⟩
theorem Rows.nil : Rows enc sz H (.slice none 0 0) ([] : List α) := ⟨by simp, none, 0, rfl, .inl ⟨rfl, rfl, rfl⟩⟩
/-- An element, where it lies. -/
theorem Rows.at_ {p : Option Addr} {n c : Nat} (h : Rows enc sz H (.slice p n c) xs) {i : Nat} (hi : i < xs.length) : n = xs.length ∧ ∃ b o, p = some ⟨b, o, none⟩ ∧ b < H.next ∧ ∀ j, j < sz → H.cell b (o + i * sz + j) = (enc xs[i])[j]? := by
  obtain ⟨l, p', c', h1, hp⟩ := h
  cases h1
  rcases hp with ⟨_, rfl, _⟩ | ⟨b, o, h1, h2, h3, h4⟩
  · simp at hi
  · exact ⟨rfl, b, o, h1, h2, fun j hj => h4 i hi j hj⟩
theorem Rows.len {p : Option Addr} {n c : Nat} (h : Rows enc sz H (.slice p n c) xs) : n = xs.length := by
  obtain ⟨l, p', c', h1, hp⟩ := h; cases h1; rfl
theorem Rows.slice (h : Rows enc sz H v xs) : ∃ p c, v = .slice p xs.length c := by obtain ⟨l, p, c, h1, _⟩ := h; exact ⟨p, c, h1⟩
end
abbrev Strs := Rows (fun s : ByteArray => [Value.string s]) 1
abbrev Ints := Rows (fun n : Int => [Value.int .i64 n]) 1
theorem take_succ_eq {α : Type} {xs ys : List α} {i : Nat} (hx : i < xs.length) (hy : i < ys.length) : xs.take (i + 1) = ys.take (i + 1) ↔ xs.take i = ys.take i ∧ xs[i] = ys[i] := by
  rw [List.take_succ_eq_append_getElem hx, List.take_succ_eq_append_getElem hy]
  constructor
  · intro h
    have := List.append_inj' h rfl
    exact ⟨this.1, by simpa using this.2⟩
  · rintro ⟨h1, h2⟩; rw [h1, h2]
end Go.AM
