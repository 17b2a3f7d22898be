/- AM: a deterministic abstract machine over the given code: definitions. -/
import Derived.Calls
import Derived.Orders
import Derived.Below
namespace Go.AM
set_option linter.unusedVariables false

/-! ### values -/
def flat1 : Value → Bool
  | .bool _ | .int _ _ | .string _ | .pointer none | .nilFunc | .nilIface => true
  | .slice none n c => n == 0 && c == 0
  | .func (.func _) first cap => first.size == 0 && cap.size == 0
  | _ => false
def flat2 : Value → Bool
  | .agg cs => cs.toList.all flat1
  | v => flat1 v
def flat : Value → Bool
  | .tuple vs => vs.toList.all flat2
  | v => flat2 v

/-! ### the abstract heap -/
structure Blk where
  esz : Nat
  ro : Bool
  at_ : Nat → Option Value
structure Heap where
  next : Nat
  blk : Nat → Option Blk
def Heap.cell (H : Heap) (b o : Nat) : Option Value := match H.blk b with | some B => B.at_ o | none => none
def Heap.row (H : Heap) (b : Nat) : Nat → Nat → Option (List Value)
  | _, 0 => some []
  | o, n + 1 => match H.cell b o with
    | some v => (match Heap.row H b (o + 1) n with | some vs => some (v :: vs) | none => none)
    | none => none
def Heap.set (H : Heap) (b : Nat) (f : Option Blk) : Heap := { H with blk := fun k => if k = b then f else H.blk k }
def Heap.add (H : Heap) (B : Blk) : Heap := { next := H.next + 1, blk := fun k => if k = H.next then some B else H.blk k }
def Heap.roAll (H : Heap) : Heap := { H with blk := fun k => match H.blk k with | some B => some { B with ro := true } | none => none }
def Blk.put (B : Blk) (o : Nat) (v : Value) : Blk := { B with at_ := fun j => if j = o then some v else B.at_ j }
def Blk.puts (B : Blk) : Nat → List Value → Blk
  | _, [] => B
  | o, v :: vs => (B.put o v).puts (o + 1) vs
def Heap.store (H : Heap) (b o : Nat) (vs : List Value) : Option Heap :=
  match vs with
  | [] => some H
  | _ => match H.blk b with
    | some B => if B.ro = false ∧ (H.row b o vs.length).isSome = true ∧ vs.all Value.oneCell' = true then some (H.set b (some (B.puts o vs))) else none
    | none => none
def rowBlk (esz : Nat) (vs : List Value) : Blk := { esz := esz, ro := false, at_ := fun o => vs[o]? }

/-! ### instructions -/
inductive Arg where
  | t (n : Nat)
  | c (v : Value)
abbrev Env := Nat → Value
def upd (t : Nat) (v : Value) (e : Env) : Env := fun s => if s = t then v else e s
def put (d : Option Nat) (v : Value) (e : Env) : Env := match d with | some t => upd t v e | none => e
def ev (e : Env) : Arg → Value
  | .t n => e n
  | .c v => v
inductive Srt where
  | num (k : IntKind)
  | txt
  | flag
inductive Ins where
  | mov (x : Arg) | pick (c a b : Arg) | box (n : Nat) (x : Arg) | new (z : List Value)
  | build (z : List Value) (ps : List (Nat × Nat × Arg))
  | mkrow (esz len : Nat) (z : List Value) (ps : List (Nat × Nat × Arg))
  | ld (x : Arg) | ldn (n : Nat) (x : Arg) | st (n : Nat) (a x : Arg) | nilck (x : Arg)
  | bin (op : BinOp) (t : TypeId) (x y : Arg) | un (op : UnOp) (x : Arg) | ii (k : IntKind) (x : Arg)
  | s2b (x : Arg) | b2s (x : Arg)
  | clos (f : FuncId) (cap : List Arg)
  | mks (esz bytes : Nat) (z : List Value) (l c : Arg)
  | sls (x : Arg) (lo hi : Option Arg) | slv (esz : Nat) (x : Arg) (lo hi mx : Option Arg)
  | fadr (off : Nat) (x : Arg) | iadrS (esz : Nat) (x i : Arg) | iadrA (n esz : Nat) (x i : Arg)
  | fld (off n : Nat) (agg : Bool) (x : Arg) | idxA (len esz : Nat) (agg : Bool) (x i : Arg) | idxS (x i : Arg)
  | ext (i : Nat) (x : Arg)
  | call (f : FuncId) (xs : List Arg) | callV (x : Arg) (xs : List Arg)
  | app (esz bytes : Nat) (x y : Arg) | lenV (x : Arg) | lenS (x : Arg) | lenA (n : Nat) | copy (esz : Nat) (x y : Arg) | mm (mx : Bool) (x y : Arg)
  | eqa (neg : Bool) (ss : List Srt) (x y : Arg) | clr (z : List Value) (x : Arg) | capV (x : Arg) | bad
structure Ir where
  dst : Option Nat
  guard : Option (Nat × Bool)
  ins : Ins
inductive IC where
  | skip
  | reg (is : List Ir)
  | regd (is : List Ir) (ch : List (Nat × Nat))
  | seq (a b : IC)
  | cond (c : Arg) (a b : IC)
  | block (id : Nat) (a : IC)
  | loop (a : IC)
  | exit (id : Nat)
  | ret
inductive IRes where
  | tmp (t : Nat)
  | ld (a : Nat)
  | ldn (a n : Nat)
structure IFn where
  code : IC
  ntmps : Nat
  res : List IRes
inductive IEx where
  | norm
  | exit (id : Nat)
  | ret

/-! ### what instructions do -/
/-- What a computation answers that looks at no memory. -/
def pv {α : Type} (P : Program) : Sem α → Option α
  | .pure a => some a
  | .program k => pv P (k P)
  | .mark _ k => pv P k
  | _ => none
def bothNilIface : Value → Value → Bool
  | .nilIface, .nilIface => true
  | _, _ => false
/-- What a closure may hold. -/
def capt : Value → Bool
  | .pointer (some a) => a.spot.isNone
  | .slice (some a) _ _ => a.spot.isNone
  | v => flat1 v
def flatRes (r : Option Value) : Option Value := match r with | some v => if flat1 v then some v else none | none => none
def nilSort (d : Option TypeDesc) : Value → Value → Bool
  | .pointer _, .pointer none => (match d with | some (.pointer _) => true | _ => false)
  | .slice _ _ _, .slice none _ _ => (match d with | some (.slice _) => true | _ => false)
  | _, _ => false
def nilCmp (op : BinOp) (b : Bool) : Option Value :=
  match op with
  | .eql => some (.bool b)
  | .neq => some (.bool (!b))
  | _ => none
def isNilV : Value → Bool
  | .pointer none => true
  | .slice none _ _ => true
  | _ => false
def binV (P : Program) (op : BinOp) (t : TypeId) (x y : Value) : Option Value :=
  if (flat2 x && flat2 y && !bothNilIface x y) = true then flatRes (pv P (do eqGuard op t (.tmp 0) (.tmp 0) x y; binOp op t x y))
  else if nilSort (P.underlying t) x y = true then nilCmp op (isNilV x) else none
def natOf : Value → Option Nat
  | .int _ n => if 0 ≤ n then some n.toNat else none
  | _ => none
def fillL : List Value → List (Nat × Nat × Value) → Option (List Value)
  | cs, [] => some cs
  | cs, (off, n, v) :: ps =>
    if v.cells.toList.length = n ∧ off + n ≤ cs.length ∧ v.cells.toList.all Value.oneCell' = true then fillL (cs.take off ++ v.cells.toList ++ cs.drop (off + n)) ps else none
def partL (off n : Nat) (agg : Bool) (cs : List Value) : Option Value :=
  if agg then some (.agg ((cs.drop off).take n).toArray) else cs[off]?
def bytesOfRow : List Value → Option (List UInt8)
  | [] => some []
  | .int .u8 n :: vs => (match bytesOfRow vs with | some l => some (UInt8.ofNat n.toNat :: l) | none => none)
  | _ => none
def rowOfBytes (s : ByteArray) : List Value := s.data.toList.map fun b => .int .u8 (b.toNat : Int)
def strLen : Value → Option Nat
  | .string s => some s.size
  | .slice _ n _ => some n
  | _ => none
/-- The first n elements that a slice or a string holds. -/
def elems (H : Heap) (esz n : Nat) : Value → Option (List Value)
  | .slice (some ⟨b, o, none⟩) _ _ => H.row b o (n * esz)
  | .slice none _ _ => if n * esz = 0 then some [] else none
  | .string s => if esz = 1 then some ((rowOfBytes s).take n) else none
  | _ => none
def bound (d : Nat) : Option Value → Option Nat
  | some v => natOf v
  | none => some d
def slsV (s : ByteArray) (lo hi : Option Value) : Option Value :=
  match bound s.size hi with
  | some h => (match bound 0 lo with
    | some l => if l ≤ h ∧ h ≤ s.size then some (.string (s.extract l h)) else none
    | none => none)
  | none => none
def Heap.eszIs (H : Heap) (b n : Nat) : Bool := match H.blk b with | some B => B.esz == n | none => false
def slvV (H : Heap) (esz : Nat) (x : Value) (lo hi mx : Option Value) : Option Value :=
  match x with
  | .slice a n c =>
    (match bound (c / 2) mx with
     | some m => (match bound n hi with
       | some h => (match bound 0 lo with
         | some l => if l ≤ h ∧ h ≤ m ∧ m ≤ c / 2 ∧ (mx.isSome = true → hi.isSome = true) then
             (match a with
              | none => some (.slice none 0 0)
              | some ⟨b, o, none⟩ => if (l == 0 || H.eszIs b esz) = true then some (.slice (some ⟨b, o + l * esz, none⟩) (h - l) (2 * (m - l) + (if mx.isSome then 1 else c % 2))) else none
              | _ => none) else none
         | none => none)
       | none => none)
     | none => none)
  | _ => none
/-- An append of k elements (cells ys). -/
def appV (H : Heap) (esz bytes k : Nat) (x : Value) (ys : List Value) : Option (Value × Heap) :=
  if k = 0 then (match x with | .slice _ _ _ => some (x, H) | _ => none) else
  match x with
  | .slice none 0 0 => if k * bytes ≤ 2 ^ 47 ∧ k ≤ 2 ^ 47 ∧ ys.all Value.oneCell' = true then some (.slice (some ⟨H.next, 0, none⟩) k (2 * k), H.add (rowBlk esz ys)) else none
  | .slice (some ⟨b, o, none⟩) n c =>
    if n + k ≤ c / 2 then (match H.store b (o + n * esz) ys with | some H' => some (.slice (some ⟨b, o, none⟩) (n + k) c, H') | none => none)
    else if (n + k) * bytes ≤ 2 ^ 47 ∧ n + k ≤ 2 ^ 47 ∧ ys.all Value.oneCell' = true then
      (match H.row b o (n * esz) with
       | some xs =>
         if c % 2 = 1 then some (.slice (some ⟨H.next, 0, none⟩) (n + k) (2 * (n + k)), H.add (rowBlk esz (xs ++ ys)))
         else (match H.blk b with
           | some B => if B.ro = false ∧ B.esz = esz then some (.slice (some ⟨H.next, 0, none⟩) (n + k) (2 * (n + k)), (H.set b none).add (rowBlk esz (xs ++ ys))) else none
           | none => none)
       | none => none)
    else none
  | _ => none
def rep (z : List Value) : Nat → List Value
  | 0 => []
  | n + 1 => z ++ rep z n
/-- Cell by cell the same? -/
def cellEq : Srt → Value → Value → Option Bool
  | .num k, .int k1 a, .int k2 b => if k1 = k ∧ k2 = k then some (decide (a = b)) else none
  | .txt, .string a, .string b => some (decide (a = b))
  | .flag, .bool a, .bool b => some (decide (a = b))
  | _, _, _ => none
def cellsEq : List Srt → List Value → List Value → Option Bool
  | [], [], [] => some true
  | s :: ss, x :: xs, y :: ys => (match cellEq s x y, cellsEq ss xs ys with | some a, some b => some (a && b) | _, _ => none)
  | _, _, _ => none
abbrev CallF := FuncId → List Value → Heap → Option (Value × Heap)
def ptr (b o : Nat) : Value := .pointer (some ⟨b, o, none⟩)
def row0 (n c b : Nat) : Value := .slice (some ⟨b, 0, none⟩) n c
/-- What makes one block: the value (of the block's number), the block. -/
def alc (i : Ins) (e : Env) : Option ((Nat → Value) × Blk) :=
  match i with
  | .box n x => if (ev e x).cells.toList.length = n ∧ (ev e x).cells.toList.all Value.oneCell' = true then some (fun b => ptr b 0, rowBlk n (ev e x).cells.toList) else none
  | .new z => some (fun b => ptr b 0, rowBlk z.length z)
  | .mkrow esz len z ps => (match fillL z (ps.map fun p => (p.1, p.2.1, ev e p.2.2)) with
      | some cs => if cs.all Value.oneCell' = true then some (row0 len (2 * len + 1), rowBlk esz cs) else none | none => none)
  | .s2b x => (match ev e x with | .string s => some (row0 s.size (2 * s.size), rowBlk 1 (rowOfBytes s)) | _ => none)
  | .mks esz bytes z l c => (match natOf (ev e l), natOf (ev e c) with
      | some l, some c => if l ≤ c ∧ bytes * c ≤ 2 ^ 46 ∧ c ≤ 2 ^ 46 then some (row0 l (2 * c + 1), { esz := esz, ro := false, at_ := fun o => if o < c * esz then z[o % esz]? else none }) else none
      | _, _ => none)
  | _ => none
def step (P : Program) (C : CallF) (i : Ins) (e : Env) (H : Heap) : Option (Value × Heap) :=
  match i with
  | .mov x => some (ev e x, H)
  | .pick c a b => (match ev e c with | .bool true => some (ev e a, H) | .bool false => some (ev e b, H) | _ => none)
  | .box .. | .new .. | .mkrow .. | .s2b .. | .mks .. => (match alc i e with | some (f, B) => some (f H.next, H.add B) | none => none)
  | .build z ps => (match fillL z (ps.map fun p => (p.1, p.2.1, ev e p.2.2)) with | some cs => some (.agg cs.toArray, H) | none => none)
  | .ld x => (match ev e x with | .pointer (some ⟨b, o, none⟩) => (match H.cell b o with | some v => some (v, H) | none => none) | _ => none)
  | .ldn n x => (match ev e x with | .pointer (some ⟨b, o, none⟩) => (match H.row b o n with | some vs => some (.agg vs.toArray, H) | none => none) | _ => none)
  | .st n a x => (match ev e a with
      | .pointer (some ⟨b, o, none⟩) => if (ev e x).cells.toList.length = n then (match H.store b o (ev e x).cells.toList with | some H' => some (undef, H') | none => none) else none
      | _ => none)
  | .nilck x => (match ev e x with | .pointer (some a) => some (.pointer (some a), H) | _ => none)
  | .bin op t x y => (match binV P op t (ev e x) (ev e y) with | some v => some (v, H) | none => none)
  | .un op x => if flat1 (ev e x) then (match flatRes (pv P (Op.unary op (ev e x))) with | some v => some (v, H) | none => none) else none
  | .ii k x => (match ev e x with | .int _ n => some (.int k (k.wrap n), H) | _ => none)
  | .b2s x => (match ev e x with
      | .slice none _ _ => some (.string .empty, H)
      | .slice (some ⟨b, o, none⟩) n _ => (match H.row b o n with
        | some vs => (match bytesOfRow vs with | some l => some (.string ⟨l.toArray⟩, H) | none => none) | none => none)
      | _ => none)
  | .clos f cap => if (cap.map (ev e)).all capt = true then some (.func (.func f) #[] (cap.map (ev e)).toArray, H) else none
  | .sls x lo hi => (match ev e x with | .string s => (match slsV s (lo.map (ev e)) (hi.map (ev e)) with | some v => some (v, H) | none => none) | _ => none)
  | .slv esz x lo hi mx => (match slvV H esz (ev e x) (lo.map (ev e)) (hi.map (ev e)) (mx.map (ev e)) with | some v => some (v, H) | none => none)
  | .fadr off x => (match ev e x with | .pointer (some ⟨b, o, none⟩) => some (ptr b (o + off), H) | _ => none)
  | .iadrS esz x i => (match ev e x, natOf (ev e i) with
      | .slice (some ⟨b, o, none⟩) n _, some k => if k < n then some (ptr b (o + k * esz), H) else none
      | _, _ => none)
  | .iadrA n esz x i => (match ev e x, natOf (ev e i) with
      | .pointer (some ⟨b, o, none⟩), some k => if k < n then some (ptr b (o + k * esz), H) else none
      | _, _ => none)
  | .fld off n agg x => (match ev e x with | .agg cs => (match partL off n agg cs.toList with | some v => some (v, H) | none => none) | _ => none)
  | .idxA len esz agg x i => (match ev e x, natOf (ev e i) with
      | .agg cs, some k => if k < len then (match partL (k * esz) esz agg cs.toList with | some v => some (v, H) | none => none) else none
      | _, _ => none)
  | .idxS x i => (match ev e x, natOf (ev e i) with
      | .string s, some k => (match s.data.toList[k]? with | some b => some (.int .u8 (b.toNat : Int), H) | none => none)
      | _, _ => none)
  | .ext i x => (match ev e x with | .tuple vs => (match vs.toList[i]? with | some v => some (v, H) | none => none) | _ => none)
  | .call f xs => C f (xs.map (ev e)) H
  | .callV x xs => (match ev e x with | .func (.func f) first cap => if first.size = 0 then C f (xs.map (ev e) ++ cap.toList) H else none | _ => none)
  | .app esz bytes x y => (match strLen (ev e y) with
      | some k => (match elems H esz k (ev e y) with | some ys => appV H esz bytes k (ev e x) ys | none => none)
      | none => none)
  | .lenV x => (match ev e x with | .slice _ n _ => some (.int .i64 (n : Int), H) | _ => none)
  | .lenS x => (match ev e x with | .string s => some (.int .i64 (s.size : Int), H) | _ => none)
  | .lenA n => some (.int .i64 (n : Int), H)
  | .copy esz x y => (match ev e x, strLen (ev e y) with
      | .slice (some ⟨b, o, none⟩) n _, some k => (match elems H esz (Nat.min k n) (ev e y) with
        | some ys => (match H.store b o ys with | some H' => some (.int .i64 ((Nat.min k n : Nat) : Int), H') | none => none)
        | none => none)
      | .slice none 0 0, some k => some (.int .i64 0, H)
      | _, _ => none)
  | .clr z x => (match ev e x with
      | .slice none _ _ => some (undef, H)
      | .slice (some ⟨b, o, none⟩) n _ => (match H.store b o (rep z n) with | some H' => some (undef, H') | none => none)
      | _ => none)
  | .capV x => (match ev e x with | .slice a _ c => if a = none then some (.int .i64 0, H) else if c % 2 = 1 then some (.int .i64 ((c / 2 : Nat) : Int), H) else none | _ => none)
  | .eqa neg ss x y => (match ev e x, ev e y with
      | .agg xs, .agg ys => (match cellsEq ss xs.toList ys.toList with | some b => some (.bool (b != neg), H) | none => none)
      | _, _ => none)
  | .bad => none
  | .mm mx x y => (match ev e x, ev e y with
      | .int k a, .int _ b => some (.int k (if mx then (if b > a then b else a) else (if b < a then b else a)), H)
      | _, _ => none)

/-! ### running -/
def wanted (i : Ir) (e : Env) : Bool :=
  match i.guard with
  | none => true
  | some (d, w) => (match e d with | .bool b => b == w | _ => false)
def stepIr (P : Program) (C : CallF) (i : Ir) (e : Env) (H : Heap) : Option (Env × Heap) :=
  if wanted i e then (match step P C i.ins e H with | some (v, H') => some (put i.dst v e, H') | none => none)
  else some (put i.dst undef e, H)
def runIr (P : Program) (C : CallF) : List Ir → Env → Heap → Option (Env × Heap)
  | [], e, H => some (e, H)
  | i :: is, e, H => (match stepIr P C i e H with | some (e', H') => runIr P C is e' H' | none => none)
def runTr (P : Program) (C : CallF) : List Ir → Env → Heap → Option (List (Env × Heap))
  | [], e, H => some [(e, H)]
  | i :: is, e, H => (match stepIr P C i e H with
    | some (e', H') => (match runTr P C is e' H' with | some l => some ((e, H) :: l) | none => none)
    | none => none)
/-- A reader j that stands in no order with an effect k reads the same ahead of it and behind it. -/
def Chk (P : Program) (is : List Ir) (tr : List (Env × Heap)) (p : Nat × Nat) : Prop :=
  match is[p.1]?, tr[p.1]?, tr[p.2 + 1]? with
  | some i, some (e, H), some (_, G) => wanted i e = true → (step P (fun _ _ _ => none) i.ins e G).map Prod.fst = (step P (fun _ _ _ => none) i.ins e H).map Prod.fst
  | _, _, _ => False
open Classical in
noncomputable def runD (P : Program) (C : CallF) (is : List Ir) (ch : List (Nat × Nat)) (e : Env) (H : Heap) : Option (Env × Heap) :=
  match runTr P C is e H with
  | some tr => if ∀ p ∈ ch, Chk P is tr p then tr.getLast? else none
  | none => none
/-- What follows an end. -/
def nxt (r : Option (IEx × Env × Heap)) (f : Env → Heap → Option (IEx × Env × Heap)) : Option (IEx × Env × Heap) :=
  match r with
  | some (.norm, e, H) => f e H
  | r => r
def unblock (id : Nat) (r : Option (IEx × Env × Heap)) : Option (IEx × Env × Heap) :=
  match r with
  | some (.exit i, e, H) => if i = id then some (.norm, e, H) else some (.exit i, e, H)
  | r => r
def ok2 (r : Option (Env × Heap)) : Option (IEx × Env × Heap) := match r with | some (e, H) => some (.norm, e, H) | none => none
def iter (f : Env → Heap → Option (IEx × Env × Heap)) : Nat → Env → Heap → Option (IEx × Env × Heap)
  | 0, _, _ => none
  | n + 1, e, H => nxt (f e H) (iter f n)
noncomputable def exec (P : Program) (C : CallF) (n : Nat) : IC → Env → Heap → Option (IEx × Env × Heap)
  | .skip, e, H => some (.norm, e, H)
  | .reg is, e, H => ok2 (runIr P C is e H)
  | .regd is ch, e, H => ok2 (runD P C is ch e H)
  | .seq a b, e, H => nxt (exec P C n a e H) (exec P C n b)
  | .cond c a b, e, H => (match ev e c with | .bool true => exec P C n a e H | .bool false => exec P C n b e H | _ => none)
  | .block id a, e, H => unblock id (exec P C n a e H)
  | .loop a, e, H => iter (exec P C n a) n e H
  | .exit id, e, H => some (.exit id, e, H)
  | .ret, e, H => some (.ret, e, H)
def resV (H : Heap) (e : Env) : IRes → Option Value
  | .tmp t => some (e t)
  | .ld a => (match e a with | .pointer (some ⟨b, o, none⟩) => H.cell b o | _ => none)
  | .ldn a n => (match e a with | .pointer (some ⟨b, o, none⟩) => (match H.row b o n with | some vs => some (.agg vs.toArray) | none => none) | _ => none)
def resL (H : Heap) (e : Env) : List IRes → Option (List Value)
  | [] => some []
  | r :: rs => (match resV H e r with | some v => (match resL H e rs with | some vs => some (v :: vs) | none => none) | none => none)
def noTup : Value → Bool
  | .tuple _ => false
  | _ => true
def resAll (H : Heap) (e : Env) (rs : List IRes) : Option Value :=
  match resL H e rs with
  | some [v] => some v
  | some vs => if vs.all noTup = true then some (.tuple vs.toArray) else none
  | none => none
def env0 (args : List Value) : Env := fun t => args.getD t undef
def isEnd : IEx → Bool
  | .exit _ => false
  | _ => true
def finish (F : IFn) (r : Option (IEx × Env × Heap)) : Option (Value × Heap) :=
  match r with
  | some (x, e, H') => if isEnd x then (match resAll H' e F.res with | some v => some (v, H') | none => none) else none
  | none => none
def quiet (H : Heap) (r : Option (Value × Heap)) : Option (Value × Heap) :=
  match r with
  | some (v, _) => if flat v then some (v, H) else none
  | none => none
/-- What a claim sets: the functions' codes, contracts from elsewhere, which functions are pure. -/
structure Cfg where
  P : Program
  F : FuncId → Option IFn
  X : FuncId → Option (List Value → Heap → Option (Value × Heap))
  pur : FuncId → Bool
noncomputable def callN (K : Cfg) : Nat → CallF
  | 0, _, _, _ => none
  | n + 1, f, args, H =>
    match K.X f with
    | some g => g args H
    | none => match K.F f with
      | none => none
      | some F =>
        if args.length ≤ F.ntmps then
          (if K.pur f then quiet H (finish F (exec K.P (callN K n) n F.code (env0 args) H.roAll))
           else finish F (exec K.P (callN K n) n F.code (env0 args) H))
        else none
end Go.AM
