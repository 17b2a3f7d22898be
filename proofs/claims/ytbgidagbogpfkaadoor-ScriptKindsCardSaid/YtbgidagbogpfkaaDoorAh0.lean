import Derived.Calls
import Derived.Orders
import Derived.Below
import Derived.Laws.Cells
import Derived.Laws.BytesString
import Derived.Laws.Slices
import Derived.Laws.StructEq
section TextAhDefs
/- AM: a deterministic abstract machine over the given code: definitions. -/
namespace Go.AM
set_option linter.unusedVariables false

/-! ### values -/
def flat1 : Value → Bool
  | .bool _ | .int _ _ | .string _ | .pointer none | .nilFunc | .nilIface => true
  | .slice none n c => n == 0 && c == 0
  | .func (.func _) first cap => first.size == 0 && cap.size == 0
  | _ => false
def flat2 : Value → Bool
  | .agg cs => cs.toList.all flat1
  | v => flat1 v
def flat : Value → Bool
  | .tuple vs => vs.toList.all flat2
  | v => flat2 v

/-! ### the abstract heap -/
structure Blk where
  esz : Nat
  ro : Bool
  at_ : Nat → Option Value
  ty : Option (TypeId × Bool) := none
  room : Option Nat := none
structure Heap where
  next : Nat
  blk : Nat → Option Blk
def Heap.cell (H : Heap) (b o : Nat) : Option Value := match H.blk b with | some B => B.at_ o | none => none
def Heap.row (H : Heap) (b : Nat) : Nat → Nat → Option (List Value)
  | _, 0 => some []
  | o, n + 1 => match H.cell b o with
    | some v => (match Heap.row H b (o + 1) n with | some vs => some (v :: vs) | none => none)
    | none => none
def Heap.set (H : Heap) (b : Nat) (f : Option Blk) : Heap := { H with blk := fun k => if k = b then f else H.blk k }
def Heap.add (H : Heap) (B : Blk) : Heap := { next := H.next + 1, blk := fun k => if k = H.next then some B else H.blk k }
def Heap.roAll (H : Heap) : Heap := { H with blk := fun k => match H.blk k with | some B => some { B with ro := true } | none => none }
def Blk.put (B : Blk) (o : Nat) (v : Value) : Blk := { B with at_ := fun j => if j = o then some v else B.at_ j }
def Blk.puts (B : Blk) : Nat → List Value → Blk
  | _, [] => B
  | o, v :: vs => (B.put o v).puts (o + 1) vs
def Heap.store (H : Heap) (b o : Nat) (vs : List Value) : Option Heap :=
  match vs with
  | [] => some H
  | _ => match H.blk b with
    | some B => if B.ro = false ∧ (H.row b o vs.length).isSome = true ∧ vs.all Value.oneCell' = true then some (H.set b (some (B.puts o vs))) else none
    | none => none
/-- A store that may go where nothing is known of the cells, if there is room. -/
def Heap.storeR (H : Heap) (b o : Nat) (vs : List Value) : Option Heap :=
  match H.store b o vs with
  | some H' => some H'
  | none => match H.blk b with
    | some B => (match B.room with
      | some r => if B.ro = false ∧ o + vs.length ≤ r ∧ vs.all Value.oneCell' = true then some (H.set b (some (B.puts o vs))) else none
      | none => none)
    | none => none
def rowBlk (esz : Nat) (vs : List Value) : Blk := { esz := esz, ro := false, at_ := fun o => vs[o]? }

/-! ### instructions -/
inductive Arg where
  | t (n : Nat)
  | c (v : Value)
abbrev Env := Nat → Value
def upd (t : Nat) (v : Value) (e : Env) : Env := fun s => if s = t then v else e s
def put (d : Option Nat) (v : Value) (e : Env) : Env := match d with | some t => upd t v e | none => e
def ev (e : Env) : Arg → Value
  | .t n => e n
  | .c v => v
inductive Srt where
  | num (k : IntKind)
  | txt
  | flag
inductive Ins where
  | mov (x : Arg) | pick (c a b : Arg) | box (n : Nat) (x : Arg) | new (z : List Value) | newT (t : TypeId) (z : List Value)
  | build (z : List Value) (ps : List (Nat × Nat × Arg))
  | mkrow (esz len : Nat) (z : List Value) (ps : List (Nat × Nat × Arg))
  | ld (x : Arg) | ldn (n : Nat) (x : Arg) | st (n : Nat) (a x : Arg) | nilck (x : Arg)
  | bin (op : BinOp) (t : TypeId) (x y : Arg) | un (op : UnOp) (x : Arg) | ii (k : IntKind) (x : Arg)
  | s2b (x : Arg) | b2s (x : Arg)
  | clos (f : FuncId) (cap : List Arg)
  | mks (esz bytes : Nat) (z : List Value) (l c : Arg)
  | sls (x : Arg) (lo hi : Option Arg) | slv (esz : Nat) (x : Arg) (lo hi mx : Option Arg)
  | fadr (off : Nat) (x : Arg) | iadrS (esz : Nat) (x i : Arg) | iadrA (n esz : Nat) (x i : Arg)
  | fld (off n : Nat) (agg : Bool) (x : Arg) | idxA (len esz : Nat) (agg : Bool) (x i : Arg) | idxS (x i : Arg)
  | ext (i : Nat) (x : Arg)
  | call (f : FuncId) (xs : List Arg) | callV (x : Arg) (xs : List Arg)
  | app (esz bytes : Nat) (x y : Arg) | appZ (esz bytes : Nat) (z : List Value) (x y : Arg) | lenV (x : Arg) | lenS (x : Arg) | lenA (n : Nat) | copy (esz : Nat) (x y : Arg) | mm (mx : Bool) (x y : Arg)
  | eqa (neg : Bool) (ss : List Srt) (x y : Arg) | clr (z : List Value) (x : Arg) | capV (x : Arg) | bad
structure Ir where
  dst : Option Nat
  guard : Option (Nat × Bool)
  ins : Ins
inductive IC where
  | skip
  | reg (is : List Ir)
  | regd (is : List Ir) (ch : List (Nat × Nat))
  | seq (a b : IC)
  | cond (c : Arg) (a b : IC)
  | block (id : Nat) (a : IC)
  | loop (a : IC)
  | exit (id : Nat)
  | ret
inductive IRes where
  | tmp (t : Nat)
  | ld (a : Nat)
  | ldn (a n : Nat)
structure IFn where
  code : IC
  ntmps : Nat
  res : List IRes
inductive IEx where
  | norm
  | exit (id : Nat)
  | ret

/-! ### what instructions do -/
/-- What a computation answers that looks at no memory. -/
def pv {α : Type} (P : Program) : Sem α → Option α
  | .pure a => some a
  | .program k => pv P (k P)
  | .mark _ k => pv P k
  | _ => none
def bothNilIface : Value → Value → Bool
  | .nilIface, .nilIface => true
  | _, _ => false
/-- What a closure may hold. -/
def capt : Value → Bool
  | .pointer (some a) => a.spot.isNone
  | .slice (some a) _ _ => a.spot.isNone
  | v => flat1 v
def flatRes (r : Option Value) : Option Value := match r with | some v => if flat1 v then some v else none | none => none
def nilSort (d : Option TypeDesc) : Value → Value → Bool
  | .pointer _, .pointer none => (match d with | some (.pointer _) => true | _ => false)
  | .slice _ _ _, .slice none _ _ => (match d with | some (.slice _) => true | _ => false)
  | .iface _ (.pointer (some _)), .nilIface => (match d with | some (.interface _) => true | _ => false)
  | _, _ => false
def nilCmp (op : BinOp) (b : Bool) : Option Value :=
  match op with
  | .eql => some (.bool b)
  | .neq => some (.bool (!b))
  | _ => none
def isNilV : Value → Bool
  | .pointer none => true
  | .slice none _ _ => true
  | _ => false
def binV (P : Program) (op : BinOp) (t : TypeId) (x y : Value) : Option Value :=
  if (flat2 x && flat2 y && !bothNilIface x y) = true then flatRes (pv P (do eqGuard op t (.tmp 0) (.tmp 0) x y; binOp op t x y))
  else if nilSort (P.underlying t) x y = true then nilCmp op (isNilV x) else none
/-- Is an operand the literal nil of an interface? -/
def litNil : Arg → Bool
  | .c .nilIface => true
  | _ => false
def binA (P : Program) (op : BinOp) (t : TypeId) (x y : Value) (lit : Bool) : Option Value :=
  if (lit && bothNilIface x y) = true then (match P.underlying t with | some (.interface _) => nilCmp op true | _ => none) else binV P op t x y
def natOf : Value → Option Nat
  | .int _ n => if 0 ≤ n then some n.toNat else none
  | _ => none
def fillL : List Value → List (Nat × Nat × Value) → Option (List Value)
  | cs, [] => some cs
  | cs, (off, n, v) :: ps =>
    if v.cells.toList.length = n ∧ off + n ≤ cs.length ∧ v.cells.toList.all Value.oneCell' = true then fillL (cs.take off ++ v.cells.toList ++ cs.drop (off + n)) ps else none
def partL (off n : Nat) (agg : Bool) (cs : List Value) : Option Value :=
  if agg then some (.agg ((cs.drop off).take n).toArray) else cs[off]?
def bytesOfRow : List Value → Option (List UInt8)
  | [] => some []
  | .int .u8 n :: vs => (match bytesOfRow vs with | some l => some (UInt8.ofNat n.toNat :: l) | none => none)
  | _ => none
def rowOfBytes (s : ByteArray) : List Value := s.data.toList.map fun b => .int .u8 (b.toNat : Int)
def strLen : Value → Option Nat
  | .string s => some s.size
  | .slice _ n _ => some n
  | _ => none
/-- The first n elements that a slice or a string holds. -/
def elems (H : Heap) (esz n : Nat) : Value → Option (List Value)
  | .slice (some ⟨b, o, none⟩) _ _ => H.row b o (n * esz)
  | .slice none _ _ => if n * esz = 0 then some [] else none
  | .string s => if esz = 1 then some ((rowOfBytes s).take n) else none
  | _ => none
def bound (d : Nat) : Option Value → Option Nat
  | some v => natOf v
  | none => some d
def slsV (s : ByteArray) (lo hi : Option Value) : Option Value :=
  match bound s.size hi with
  | some h => (match bound 0 lo with
    | some l => if l ≤ h ∧ h ≤ s.size then some (.string (s.extract l h)) else none
    | none => none)
  | none => none
def Heap.eszIs (H : Heap) (b n : Nat) : Bool := match H.blk b with | some B => B.esz == n | none => false
def slvV (H : Heap) (esz : Nat) (x : Value) (lo hi mx : Option Value) : Option Value :=
  match x with
  | .slice a n c =>
    (match bound (c / 2) mx with
     | some m => (match bound n hi with
       | some h => (match bound 0 lo with
         | some l => if l ≤ h ∧ h ≤ m ∧ m ≤ c / 2 ∧ (mx.isSome = true → hi.isSome = true) then
             (match a with
              | none => some (.slice none 0 0)
              | some ⟨b, o, none⟩ => if (l == 0 || H.eszIs b esz) = true then some (.slice (some ⟨b, o + l * esz, none⟩) (h - l) (2 * (m - l) + (if mx.isSome then 1 else c % 2))) else none
              | _ => none) else none
         | none => none)
       | none => none)
     | none => none)
  | _ => none
/-- An append of k elements (cells ys). -/
def appV (H : Heap) (esz bytes k : Nat) (x : Value) (ys : List Value) : Option (Value × Heap) :=
  if k = 0 then (match x with | .slice _ _ _ => some (x, H) | _ => none) else
  match x with
  | .slice none 0 0 => if k * bytes ≤ 2 ^ 47 ∧ k ≤ 2 ^ 47 ∧ ys.all Value.oneCell' = true then some (.slice (some ⟨H.next, 0, none⟩) k (2 * k), H.add (rowBlk esz ys)) else none
  | .slice (some ⟨b, o, none⟩) n c =>
    if n + k ≤ c / 2 then (match H.storeR b (o + n * esz) ys with | some H' => some (.slice (some ⟨b, o, none⟩) (n + k) c, H') | none => none)
    else if (n + k) * bytes ≤ 2 ^ 47 ∧ n + k ≤ 2 ^ 47 ∧ ys.all Value.oneCell' = true then
      (match H.row b o (n * esz) with
       | some xs =>
         if c % 2 = 1 then some (.slice (some ⟨H.next, 0, none⟩) (n + k) (2 * (n + k)), H.add (rowBlk esz (xs ++ ys)))
         else (match H.blk b with
           | some B => if B.ro = false ∧ B.esz = esz then some (.slice (some ⟨H.next, 0, none⟩) (n + k) (2 * (n + k)), (H.set b none).add (rowBlk esz (xs ++ ys))) else none
           | none => none)
       | none => none)
    else none
  | _ => none
def rep (z : List Value) : Nat → List Value
  | 0 => []
  | n + 1 => z ++ rep z n
/-- Cell by cell the same? -/
def cellEq : Srt → Value → Value → Option Bool
  | .num k, .int k1 a, .int k2 b => if k1 = k ∧ k2 = k then some (decide (a = b)) else none
  | .txt, .string a, .string b => some (decide (a = b))
  | .flag, .bool a, .bool b => some (decide (a = b))
  | _, _, _ => none
def cellsEq : List Srt → List Value → List Value → Option Bool
  | [], [], [] => some true
  | s :: ss, x :: xs, y :: ys => (match cellEq s x y, cellsEq ss xs ys with | some a, some b => some (a && b) | _, _ => none)
  | _, _, _ => none
abbrev CallF := FuncId → List Value → Heap → Option (Value × Heap)
def ptr (b o : Nat) : Value := .pointer (some ⟨b, o, none⟩)
def row0 (n c b : Nat) : Value := .slice (some ⟨b, 0, none⟩) n c
/-- What makes one block: the value (of the block's number), the block. -/
def alc (i : Ins) (e : Env) : Option ((Nat → Value) × Blk) :=
  match i with
  | .newT t z => some (fun b => ptr b 0, { rowBlk z.length z with ty := some (t, true) })
  | .box n x => if (ev e x).cells.toList.length = n ∧ (ev e x).cells.toList.all Value.oneCell' = true then some (fun b => ptr b 0, rowBlk n (ev e x).cells.toList) else none
  | .new z => some (fun b => ptr b 0, rowBlk z.length z)
  | .mkrow esz len z ps => (match fillL z (ps.map fun p => (p.1, p.2.1, ev e p.2.2)) with
      | some cs => if cs.all Value.oneCell' = true then some (row0 len (2 * len + 1), rowBlk esz cs) else none | none => none)
  | .s2b x => (match ev e x with | .string s => some (row0 s.size (2 * s.size), rowBlk 1 (rowOfBytes s)) | _ => none)
  | .mks esz bytes z l c => (match natOf (ev e l), natOf (ev e c) with
      | some l, some c => if l ≤ c ∧ bytes * c ≤ 2 ^ 46 ∧ c ≤ 2 ^ 46 then some (row0 l (2 * c + 1), { esz := esz, ro := false, at_ := fun o => if o < c * esz then z[o % esz]? else none }) else none
      | _, _ => none)
  | _ => none
def step (P : Program) (C : CallF) (i : Ins) (e : Env) (H : Heap) : Option (Value × Heap) :=
  match i with
  | .mov x => some (ev e x, H)
  | .pick c a b => (match ev e c with | .bool true => some (ev e a, H) | .bool false => some (ev e b, H) | _ => none)
  | .box .. | .new .. | .newT .. | .mkrow .. | .s2b .. | .mks .. => (match alc i e with | some (f, B) => some (f H.next, H.add B) | none => none)
  | .build z ps => (match fillL z (ps.map fun p => (p.1, p.2.1, ev e p.2.2)) with | some cs => some (.agg cs.toArray, H) | none => none)
  | .ld x => (match ev e x with | .pointer (some ⟨b, o, none⟩) => (match H.cell b o with | some v => some (v, H) | none => none) | _ => none)
  | .ldn n x => (match ev e x with | .pointer (some ⟨b, o, none⟩) => (match H.row b o n with | some vs => some (.agg vs.toArray, H) | none => none) | _ => none)
  | .st n a x => (match ev e a with
      | .pointer (some ⟨b, o, none⟩) => if (ev e x).cells.toList.length = n then (match H.store b o (ev e x).cells.toList with | some H' => some (undef, H') | none => none) else none
      | _ => none)
  | .nilck x => (match ev e x with | .pointer (some a) => some (.pointer (some a), H) | _ => none)
  | .bin op t x y => (match binA P op t (ev e x) (ev e y) (litNil y) with | some v => some (v, H) | none => none)
  | .un op x => if flat1 (ev e x) then (match flatRes (pv P (Op.unary op (ev e x))) with | some v => some (v, H) | none => none) else none
  | .ii k x => (match ev e x with | .int _ n => some (.int k (k.wrap n), H) | _ => none)
  | .b2s x => (match ev e x with
      | .slice none _ _ => some (.string .empty, H)
      | .slice (some ⟨b, o, none⟩) n _ => (match H.row b o n with
        | some vs => (match bytesOfRow vs with | some l => some (.string ⟨l.toArray⟩, H) | none => none) | none => none)
      | _ => none)
  | .clos f cap => if (cap.map (ev e)).all capt = true then some (.func (.func f) #[] (cap.map (ev e)).toArray, H) else none
  | .sls x lo hi => (match ev e x with | .string s => (match slsV s (lo.map (ev e)) (hi.map (ev e)) with | some v => some (v, H) | none => none) | _ => none)
  | .slv esz x lo hi mx => (match slvV H esz (ev e x) (lo.map (ev e)) (hi.map (ev e)) (mx.map (ev e)) with | some v => some (v, H) | none => none)
  | .fadr off x => (match ev e x with | .pointer (some ⟨b, o, none⟩) => some (ptr b (o + off), H) | _ => none)
  | .iadrS esz x i => (match ev e x, natOf (ev e i) with
      | .slice (some ⟨b, o, none⟩) n _, some k => if k < n then some (ptr b (o + k * esz), H) else none
      | _, _ => none)
  | .iadrA n esz x i => (match ev e x, natOf (ev e i) with
      | .pointer (some ⟨b, o, none⟩), some k => if k < n then some (ptr b (o + k * esz), H) else none
      | _, _ => none)
  | .fld off n agg x => (match ev e x with | .agg cs => (match partL off n agg cs.toList with | some v => some (v, H) | none => none) | _ => none)
  | .idxA len esz agg x i => (match ev e x, natOf (ev e i) with
      | .agg cs, some k => if k < len then (match partL (k * esz) esz agg cs.toList with | some v => some (v, H) | none => none) else none
      | _, _ => none)
  | .idxS x i => (match ev e x, natOf (ev e i) with
      | .string s, some k => (match s.data.toList[k]? with | some b => some (.int .u8 (b.toNat : Int), H) | none => none)
      | _, _ => none)
  | .ext i x => (match ev e x with | .tuple vs => (match vs.toList[i]? with | some v => some (v, H) | none => none) | _ => none)
  | .call f xs => C f (xs.map (ev e)) H
  | .callV x xs => (match ev e x with | .func (.func f) first cap => if first.size = 0 then C f (xs.map (ev e) ++ cap.toList) H else none | _ => none)
  | .app esz bytes x y => (match strLen (ev e y) with
      | some k => (match elems H esz k (ev e y) with | some ys => appV H esz bytes k (ev e x) ys | none => none)
      | none => none)
  | .appZ esz bytes z x y => (match natOf (ev e y) with
      | some k => if k * bytes ≤ 2 ^ 46 ∧ k ≤ 2 ^ 46 then appV H esz bytes k (ev e x) (rep z k) else none
      | none => none)
  | .lenV x => (match ev e x with | .slice _ n _ => some (.int .i64 (n : Int), H) | _ => none)
  | .lenS x => (match ev e x with | .string s => some (.int .i64 (s.size : Int), H) | _ => none)
  | .lenA n => some (.int .i64 (n : Int), H)
  | .copy esz x y => (match ev e x, strLen (ev e y) with
      | .slice (some ⟨b, o, none⟩) n _, some k => (match elems H esz (Nat.min k n) (ev e y) with
        | some ys => (match H.storeR b o ys with | some H' => some (.int .i64 ((Nat.min k n : Nat) : Int), H') | none => none)
        | none => none)
      | .slice none 0 0, some k => some (.int .i64 0, H)
      | _, _ => none)
  | .clr z x => (match ev e x with
      | .slice none _ _ => some (undef, H)
      | .slice (some ⟨b, o, none⟩) n _ => (match H.store b o (rep z n) with | some H' => some (undef, H') | none => none)
      | _ => none)
  | .capV x => (match ev e x with | .slice a _ c => if a = none then some (.int .i64 0, H) else if c % 2 = 1 then some (.int .i64 ((c / 2 : Nat) : Int), H) else none | _ => none)
  | .eqa neg ss x y => (match ev e x, ev e y with
      | .agg xs, .agg ys => (match cellsEq ss xs.toList ys.toList with | some b => some (.bool (b != neg), H) | none => none)
      | _, _ => none)
  | .bad => none
  | .mm mx x y => (match ev e x, ev e y with
      | .int k a, .int _ b => some (.int k (if mx then (if b > a then b else a) else (if b < a then b else a)), H)
      | _, _ => none)

/-! ### running -/
def wanted (i : Ir) (e : Env) : Bool :=
  match i.guard with
  | none => true
  | some (d, w) => (match e d with | .bool b => b == w | _ => false)
def stepIr (P : Program) (C : CallF) (i : Ir) (e : Env) (H : Heap) : Option (Env × Heap) :=
  if wanted i e then (match step P C i.ins e H with | some (v, H') => some (put i.dst v e, H') | none => none)
  else some (put i.dst undef e, H)
def runIr (P : Program) (C : CallF) : List Ir → Env → Heap → Option (Env × Heap)
  | [], e, H => some (e, H)
  | i :: is, e, H => (match stepIr P C i e H with | some (e', H') => runIr P C is e' H' | none => none)
def runTr (P : Program) (C : CallF) : List Ir → Env → Heap → Option (List (Env × Heap))
  | [], e, H => some [(e, H)]
  | i :: is, e, H => (match stepIr P C i e H with
    | some (e', H') => (match runTr P C is e' H' with | some l => some ((e, H) :: l) | none => none)
    | none => none)
/-- A reader j that stands in no order with an effect k reads the same ahead of it and behind it. -/
def Chk (P : Program) (is : List Ir) (tr : List (Env × Heap)) (p : Nat × Nat) : Prop :=
  match is[p.1]?, tr[p.1]?, tr[p.2 + 1]? with
  | some i, some (e, H), some (_, G) => wanted i e = true → (step P (fun _ _ _ => none) i.ins e G).map Prod.fst = (step P (fun _ _ _ => none) i.ins e H).map Prod.fst
  | _, _, _ => False
open Classical in
noncomputable def runD (P : Program) (C : CallF) (is : List Ir) (ch : List (Nat × Nat)) (e : Env) (H : Heap) : Option (Env × Heap) :=
  match runTr P C is e H with
  | some tr => if ∀ p ∈ ch, Chk P is tr p then tr.getLast? else none
  | none => none
/-- What follows an end. -/
def nxt (r : Option (IEx × Env × Heap)) (f : Env → Heap → Option (IEx × Env × Heap)) : Option (IEx × Env × Heap) :=
  match r with
  | some (.norm, e, H) => f e H
  | r => r
def unblock (id : Nat) (r : Option (IEx × Env × Heap)) : Option (IEx × Env × Heap) :=
  match r with
  | some (.exit i, e, H) => if i = id then some (.norm, e, H) else some (.exit i, e, H)
  | r => r
def ok2 (r : Option (Env × Heap)) : Option (IEx × Env × Heap) := match r with | some (e, H) => some (.norm, e, H) | none => none
def iter (f : Env → Heap → Option (IEx × Env × Heap)) : Nat → Env → Heap → Option (IEx × Env × Heap)
  | 0, _, _ => none
  | n + 1, e, H => nxt (f e H) (iter f n)
noncomputable def exec (P : Program) (C : CallF) (n : Nat) : IC → Env → Heap → Option (IEx × Env × Heap)
  | .skip, e, H => some (.norm, e, H)
  | .reg is, e, H => ok2 (runIr P C is e H)
  | .regd is ch, e, H => ok2 (runD P C is ch e H)
  | .seq a b, e, H => nxt (exec P C n a e H) (exec P C n b)
  | .cond c a b, e, H => (match ev e c with | .bool true => exec P C n a e H | .bool false => exec P C n b e H | _ => none)
  | .block id a, e, H => unblock id (exec P C n a e H)
  | .loop a, e, H => iter (exec P C n a) n e H
  | .exit id, e, H => some (.exit id, e, H)
  | .ret, e, H => some (.ret, e, H)
def resV (H : Heap) (e : Env) : IRes → Option Value
  | .tmp t => some (e t)
  | .ld a => (match e a with | .pointer (some ⟨b, o, none⟩) => H.cell b o | _ => none)
  | .ldn a n => (match e a with | .pointer (some ⟨b, o, none⟩) => (match H.row b o n with | some vs => some (.agg vs.toArray) | none => none) | _ => none)
def resL (H : Heap) (e : Env) : List IRes → Option (List Value)
  | [] => some []
  | r :: rs => (match resV H e r with | some v => (match resL H e rs with | some vs => some (v :: vs) | none => none) | none => none)
def noTup : Value → Bool
  | .tuple _ => false
  | _ => true
def resAll (H : Heap) (e : Env) (rs : List IRes) : Option Value :=
  match resL H e rs with
  | some [v] => some v
  | some vs => if vs.all noTup = true then some (.tuple vs.toArray) else none
  | none => none
def env0 (args : List Value) : Env := fun t => args.getD t undef
def isEnd : IEx → Bool
  | .exit _ => false
  | _ => true
def finish (F : IFn) (r : Option (IEx × Env × Heap)) : Option (Value × Heap) :=
  match r with
  | some (x, e, H') => if isEnd x then (match resAll H' e F.res with | some v => some (v, H') | none => none) else none
  | none => none
def quiet (H : Heap) (r : Option (Value × Heap)) : Option (Value × Heap) :=
  match r with
  | some (v, _) => if flat v then some (v, H) else none
  | none => none
/-- What a claim sets: the functions' codes, contracts from elsewhere, which functions are pure. -/
structure Cfg where
  P : Program
  F : FuncId → Option IFn
  X : FuncId → Option (List Value → Heap → Option (Value × Heap))
  pur : FuncId → Bool
noncomputable def callN (K : Cfg) : Nat → CallF
  | 0, _, _, _ => none
  | n + 1, f, args, H =>
    match K.X f with
    | some g => g args H
    | none => match K.F f with
      | none => none
      | some F =>
        if args.length ≤ F.ntmps then
          (if K.pur f then quiet H (finish F (exec K.P (callN K n) n F.code (env0 args) H.roAll))
           else finish F (exec K.P (callN K n) n F.code (env0 args) H))
        else none
end Go.AM
end TextAhDefs
section TextAhLim
/- AM: running without a bound: the limit over the bounds, and its equations. -/
namespace Go.AM
set_option linter.unusedVariables false
open Classical

def Mono {α : Type} (g : Nat → Option α) : Prop := ∀ n m a, n ≤ m → g n = some a → g m = some a
noncomputable def lim {α : Type} (g : Nat → Option α) : Option α := if h : ∃ a n, g n = some a then some h.choose else none
theorem Mono.const {α : Type} (x : Option α) : Mono (fun _ => x) := fun _ _ _ _ h => h
theorem lim_of {α : Type} {g : Nat → Option α} (hg : Mono g) {n : Nat} {a : α} (h : g n = some a) : lim g = some a := by
  have hx : ∃ a n, g n = some a := ⟨a, n, h⟩
  unfold lim
  rw [dif_pos hx]
  obtain ⟨m, hm⟩ := hx.choose_spec
  have h1 := hg n (max n m) _ (Nat.le_max_left _ _) h
  have h2 := hg m (max n m) _ (Nat.le_max_right _ _) hm
  rw [h1] at h2
  exact congrArg some (Option.some.inj h2).symm
theorem of_lim {α : Type} {g : Nat → Option α} {a : α} (h : lim g = some a) : ∃ n, g n = some a := by
  unfold lim at h
  split at h
  · rename_i hx
    obtain ⟨m, hm⟩ := hx.choose_spec
    exact ⟨m, by rw [hm]; exact h⟩
  · cases h
theorem lim_none {α : Type} {g : Nat → Option α} (h : lim g = none) (n : Nat) : g n = none := by
  unfold lim at h
  split at h
  · cases h
  · rename_i hx
    cases hg : g n with
    | none => rfl
    | some a => exact absurd ⟨a, n, hg⟩ hx
theorem lim_const {α : Type} (x : Option α) : lim (fun _ => x) = x := by
  cases x with
  | none => unfold lim; split
            · rename_i h; obtain ⟨_, _, h⟩ := h; cases h
            · rfl
  | some a => exact lim_of (Mono.const _) (n := 0) rfl
theorem lim_ext {α : Type} {g h : Nat → Option α} (e : ∀ n, g n = h n) : lim g = lim h := by rw [funext e]
theorem lim_bind {α β : Type} {g : Nat → Option α} {f : Nat → α → Option β} (hg : Mono g) (hf : ∀ a, Mono (fun n => f n a)) :
    lim (fun n => (g n).bind (f n)) = (lim g).bind fun a => lim fun n => f n a := by
  have hm : Mono (fun n => (g n).bind (f n)) := by
    intro n m b hnm h
    obtain ⟨a, h1, h2⟩ := Option.bind_eq_some_iff.1 h
    exact Option.bind_eq_some_iff.2 ⟨a, hg n m a hnm h1, hf a n m b hnm h2⟩
  cases hl : lim g with
  | none =>
    have : (fun n => (g n).bind (f n)) = fun _ => none := funext fun n => by rw [lim_none hl n]; rfl
    rw [this, lim_const]; rfl
  | some a =>
    obtain ⟨n, hn⟩ := of_lim hl
    show _ = lim fun n => f n a
    cases hk : lim (fun n => f n a) with
    | none =>
      cases hx : lim (fun n => (g n).bind (f n)) with
      | none => rfl
      | some b =>
        obtain ⟨m, hb⟩ := of_lim hx
        obtain ⟨a', h1, h2⟩ := Option.bind_eq_some_iff.1 hb
        obtain rfl : a' = a := Option.some.inj ((lim_of hg h1).symm.trans hl)
        have := lim_none hk m
        rw [h2] at this; cases this
    | some b =>
      obtain ⟨m, hb⟩ := of_lim hk
      exact lim_of hm (n := max n m) (Option.bind_eq_some_iff.2 ⟨a, hg n _ a (Nat.le_max_left _ _) hn, hf a m _ b (Nat.le_max_right _ _) hb⟩)

theorem lim_bindc {α β : Type} {g : Nat → Option α} (f : α → Option β) (hg : Mono g) : lim (fun n => (g n).bind f) = (lim g).bind f := by
  rw [lim_bind (f := fun _ => f) hg (fun _ => Mono.const _)]
  congr 1; funext a; exact lim_const _

/-! ### more bound, the same answer -/
def LeC (C D : CallF) : Prop := ∀ f args H r, C f args H = some r → D f args H = some r
theorem step_le {P : Program} {C D : CallF} (h : LeC C D) {i : Ins} {e : Env} {H : Heap} {r : Value × Heap} (hr : step P C i e H = some r) : step P D i e H = some r := by
  cases i <;> try exact hr
  case call f xs => exact h _ _ _ _ hr
  case callV x xs =>
    simp only [step] at hr ⊢
    split at hr <;> try exact hr
    split at hr
    · rename_i hz; rw [if_pos hz]; exact h _ _ _ _ hr
    · cases hr
theorem stepIr_le {P : Program} {C D : CallF} (h : LeC C D) {i : Ir} {e : Env} {H : Heap} {r : Env × Heap} (hr : stepIr P C i e H = some r) : stepIr P D i e H = some r := by
  unfold stepIr at hr ⊢
  split
  · rename_i hw; rw [if_pos hw] at hr
    cases hs : step P C i.ins e H with
    | none => rw [hs] at hr; cases hr
    | some q => rw [hs] at hr; rw [step_le h hs]; exact hr
  · rename_i hw; rw [if_neg hw] at hr; exact hr
theorem runIr_le {P : Program} {C D : CallF} (h : LeC C D) : ∀ (is : List Ir) (e : Env) (H : Heap) (r : Env × Heap), runIr P C is e H = some r → runIr P D is e H = some r
  | [], e, H, r, hr => hr
  | i :: is, e, H, r, hr => by
    simp only [runIr] at hr ⊢
    cases hs : stepIr P C i e H with
    | none => rw [hs] at hr; cases hr
    | some q => rw [hs] at hr; rw [stepIr_le h hs]; exact runIr_le h is _ _ _ hr
theorem runTr_le {P : Program} {C D : CallF} (h : LeC C D) : ∀ (is : List Ir) (e : Env) (H : Heap) (r : List (Env × Heap)), runTr P C is e H = some r → runTr P D is e H = some r
  | [], e, H, r, hr => hr
  | i :: is, e, H, r, hr => by
    simp only [runTr] at hr ⊢
    cases hs : stepIr P C i e H with
    | none => rw [hs] at hr; cases hr
    | some q =>
      rw [hs] at hr; rw [stepIr_le h hs]
      simp only at hr ⊢
      cases ht : runTr P C is q.1 q.2 with
      | none => rw [ht] at hr; cases hr
      | some l => rw [ht] at hr; rw [runTr_le h is _ _ _ ht]; exact hr
theorem runD_le {P : Program} {C D : CallF} (h : LeC C D) {is : List Ir} {ch : List (Nat × Nat)} {e : Env} {H : Heap} {r : Env × Heap} (hr : runD P C is ch e H = some r) : runD P D is ch e H = some r := by
  unfold runD at hr ⊢
  cases ht : runTr P C is e H with
  | none => rw [ht] at hr; cases hr
  | some l => rw [ht] at hr; rw [runTr_le h is _ _ _ ht]; exact hr
theorem nxt_le {r r' : Option (IEx × Env × Heap)} {f f' : Env → Heap → Option (IEx × Env × Heap)} {q : IEx × Env × Heap}
    (h : ∀ q, r = some q → r' = some q) (hf : ∀ e H q, f e H = some q → f' e H = some q) (hq : nxt r f = some q) : nxt r' f' = some q := by
  cases r with
  | none => cases hq
  | some x =>
    rw [h x rfl]
    obtain ⟨x1, e, H⟩ := x
    cases x1 <;> simp only [nxt] at hq ⊢ <;> first | exact hf _ _ _ hq | exact hq
theorem iter_le {f f' : Env → Heap → Option (IEx × Env × Heap)} (hf : ∀ e H q, f e H = some q → f' e H = some q) :
    ∀ (n m : Nat) (e : Env) (H : Heap) (q : IEx × Env × Heap), n ≤ m → iter f n e H = some q → iter f' m e H = some q
  | 0, _, _, _, _, _, h => by cases h
  | n + 1, 0, _, _, _, hl, _ => by omega
  | n + 1, m + 1, e, H, q, hl, h => nxt_le (hf e H) (fun e H q hq => iter_le hf n m e H q (by omega) hq) h
theorem exec_le {P : Program} {C D : CallF} (h : LeC C D) {n m : Nat} (hnm : n ≤ m) : ∀ (c : IC) (e : Env) (H : Heap) (q : IEx × Env × Heap), exec P C n c e H = some q → exec P D m c e H = some q := by
  intro c
  induction c with
  | skip => exact fun _ _ _ hq => hq
  | exit id => exact fun _ _ _ hq => hq
  | ret => exact fun _ _ _ hq => hq
  | reg is =>
    intro e H q hq
    simp only [exec] at hq ⊢
    cases hs : runIr P C is e H with
    | none => rw [hs] at hq; cases hq
    | some r => rw [hs] at hq; rw [runIr_le h is _ _ _ hs]; exact hq
  | regd is ch =>
    intro e H q hq
    simp only [exec] at hq ⊢
    cases hs : runD P C is ch e H with
    | none => rw [hs] at hq; cases hq
    | some r => rw [hs] at hq; rw [runD_le h hs]; exact hq
  | seq a b iha ihb => intro e H q hq; simp only [exec] at hq ⊢; exact nxt_le (iha e H) ihb hq
  | cond c a b iha ihb =>
    intro e H q hq
    simp only [exec] at hq ⊢
    split at hq
    · exact iha _ _ _ hq
    · exact ihb _ _ _ hq
    · cases hq
  | block id a iha =>
    intro e H q hq
    simp only [exec] at hq ⊢
    cases hs : exec P C n a e H with
    | none => rw [hs] at hq; cases hq
    | some r => rw [hs] at hq; rw [iha _ _ _ hs]; exact hq
  | loop a iha => intro e H q hq; simp only [exec] at hq ⊢; exact iter_le iha n m e H q hnm hq
theorem callN_le (K : Cfg) : ∀ (n m : Nat), n ≤ m → LeC (callN K n) (callN K m)
  | 0, _, _, _, _, _, _, h => by cases h
  | n + 1, 0, hl, _, _, _, _, _ => by omega
  | n + 1, m + 1, hl, f, args, H, r, h => by
    have hc := callN_le K n m (by omega)
    have key : ∀ (c : IC) (e : Env) (H : Heap) (q : IEx × Env × Heap), exec K.P (callN K n) n c e H = some q → exec K.P (callN K m) m c e H = some q := exec_le hc (by omega)
    simp only [callN] at h ⊢
    split at h
    · exact h
    · split at h
      · cases h
      · rename_i F _
        split at h
        · rename_i hlen
          rw [if_pos hlen]
          split at h
          · rename_i hp
            rw [if_pos hp]
            cases hs : exec K.P (callN K n) n F.code (env0 args) H.roAll with
            | none => rw [hs] at h; cases h
            | some q => rw [hs] at h; rw [key _ _ _ _ hs]; exact h
          · rename_i hp
            rw [if_neg hp]
            cases hs : exec K.P (callN K n) n F.code (env0 args) H with
            | none => rw [hs] at h; cases h
            | some q => rw [hs] at h; rw [key _ _ _ _ hs]; exact h
        · cases h

/-! ### the limit -/
noncomputable def call (K : Cfg) : CallF := fun f args H => lim fun n => callN K n f args H
noncomputable def run (K : Cfg) (c : IC) (e : Env) (H : Heap) : Option (IEx × Env × Heap) := lim fun n => exec K.P (callN K n) n c e H
theorem mono_call (K : Cfg) (f : FuncId) (args : List Value) (H : Heap) : Mono fun n => callN K n f args H := fun n m _ hl h => callN_le K n m hl _ _ _ _ h
theorem mono_exec (K : Cfg) (c : IC) (e : Env) (H : Heap) : Mono fun n => exec K.P (callN K n) n c e H := fun n m _ hl h => exec_le (callN_le K n m hl) hl _ _ _ _ h
theorem mono_step (K : Cfg) (i : Ins) (e : Env) (H : Heap) : Mono fun n => step K.P (callN K n) i e H := fun n m _ hl h => step_le (callN_le K n m hl) h
theorem mono_stepIr (K : Cfg) (i : Ir) (e : Env) (H : Heap) : Mono fun n => stepIr K.P (callN K n) i e H := fun n m _ hl h => stepIr_le (callN_le K n m hl) h
theorem mono_runIr (K : Cfg) (is : List Ir) (e : Env) (H : Heap) : Mono fun n => runIr K.P (callN K n) is e H := fun n m _ hl h => runIr_le (callN_le K n m hl) _ _ _ _ h
theorem mono_runTr (K : Cfg) (is : List Ir) (e : Env) (H : Heap) : Mono fun n => runTr K.P (callN K n) is e H := fun n m _ hl h => runTr_le (callN_le K n m hl) _ _ _ _ h
theorem lim_step (K : Cfg) (i : Ins) (e : Env) (H : Heap) : lim (fun n => step K.P (callN K n) i e H) = step K.P (call K) i e H := by
  cases i
  case call f xs => rfl
  case callV x xs =>
    simp only [step]
    generalize ev e x = v
    cases v
    case func fn first cap =>
      cases fn
      case func f =>
        by_cases hz : first.size = 0
        · simp only [if_pos hz]; rfl
        · simp only [if_neg hz]; exact lim_const _
      all_goals exact lim_const _
    all_goals exact lim_const _
  all_goals exact lim_const _
theorem lim_stepIr (K : Cfg) (i : Ir) (e : Env) (H : Heap) : lim (fun n => stepIr K.P (callN K n) i e H) = stepIr K.P (call K) i e H := by
  unfold stepIr
  by_cases hw : wanted i e = true
  · simp only [if_pos hw]
    have h1 : ∀ n, (match step K.P (callN K n) i.ins e H with | some (v, H') => some (put i.dst v e, H') | none => none) = (step K.P (callN K n) i.ins e H).bind fun q => some (put i.dst q.1 e, q.2) := fun n => by
      cases step K.P (callN K n) i.ins e H <;> rfl
    refine (lim_ext h1).trans ?_
    rw [lim_bindc _ (mono_step K _ _ _), lim_step]
    cases step K.P (call K) i.ins e H <;> rfl
  · simp only [if_neg hw]; exact lim_const _
theorem lim_runIr (K : Cfg) : ∀ (is : List Ir) (e : Env) (H : Heap), lim (fun n => runIr K.P (callN K n) is e H) = runIr K.P (call K) is e H
  | [], e, H => lim_const _
  | i :: is, e, H => by
    have h1 : ∀ n, runIr K.P (callN K n) (i :: is) e H = (stepIr K.P (callN K n) i e H).bind fun q => runIr K.P (callN K n) is q.1 q.2 := fun n => by
      simp only [runIr]; cases stepIr K.P (callN K n) i e H <;> rfl
    rw [lim_ext h1, lim_bind (mono_stepIr K _ _ _) (fun _ => mono_runIr K _ _ _), lim_stepIr]
    simp only [runIr]
    cases stepIr K.P (call K) i e H <;> first | rfl | exact lim_runIr K is _ _
theorem lim_runTr (K : Cfg) : ∀ (is : List Ir) (e : Env) (H : Heap), lim (fun n => runTr K.P (callN K n) is e H) = runTr K.P (call K) is e H
  | [], e, H => lim_const _
  | i :: is, e, H => by
    have h1 : ∀ n, runTr K.P (callN K n) (i :: is) e H = (stepIr K.P (callN K n) i e H).bind fun q => (runTr K.P (callN K n) is q.1 q.2).bind fun l => some ((e, H) :: l) := fun n => by
      simp only [runTr]; cases stepIr K.P (callN K n) i e H with
      | none => rfl
      | some q => simp only [Option.bind_some]; cases runTr K.P (callN K n) is q.1 q.2 <;> rfl
    rw [lim_ext h1, lim_bind (mono_stepIr K _ _ _) (fun q => fun n m a hl h => by
      obtain ⟨l, h1, h2⟩ := Option.bind_eq_some_iff.1 h
      exact Option.bind_eq_some_iff.2 ⟨l, mono_runTr K _ _ _ n m l hl h1, h2⟩), lim_stepIr]
    simp only [runTr]
    cases stepIr K.P (call K) i e H with
    | none => rfl
    | some q =>
      simp only [Option.bind_some]
      rw [lim_bindc _ (mono_runTr K _ _ _), lim_runTr K is]
      cases runTr K.P (call K) is q.1 q.2 <;> rfl

theorem run_skip (K : Cfg) (e : Env) (H : Heap) : run K .skip e H = some (.norm, e, H) := lim_const _
theorem run_exit (K : Cfg) (id : Nat) (e : Env) (H : Heap) : run K (.exit id) e H = some (.exit id, e, H) := lim_const _
theorem run_ret (K : Cfg) (e : Env) (H : Heap) : run K .ret e H = some (.ret, e, H) := lim_const _
theorem run_reg (K : Cfg) (is : List Ir) (e : Env) (H : Heap) : run K (.reg is) e H = ok2 (runIr K.P (call K) is e H) := by
  unfold run
  have h1 : ∀ n, exec K.P (callN K n) n (.reg is) e H = (runIr K.P (callN K n) is e H).bind fun q => some (.norm, q.1, q.2) := fun n => by
    simp only [exec]; cases runIr K.P (callN K n) is e H <;> rfl
  rw [lim_ext h1, lim_bindc _ (mono_runIr K _ _ _), lim_runIr]
  cases runIr K.P (call K) is e H <;> rfl
theorem run_regd (K : Cfg) (is : List Ir) (ch : List (Nat × Nat)) (e : Env) (H : Heap) : run K (.regd is ch) e H = ok2 (runD K.P (call K) is ch e H) := by
  unfold run
  have h1 : ∀ n, exec K.P (callN K n) n (.regd is ch) e H = (runTr K.P (callN K n) is e H).bind fun tr => ok2 (if ∀ p ∈ ch, Chk K.P is tr p then tr.getLast? else none) := fun n => by
    simp only [exec, runD]; cases runTr K.P (callN K n) is e H <;> rfl
  rw [lim_ext h1, lim_bindc _ (mono_runTr K _ _ _), lim_runTr]
  unfold runD
  cases runTr K.P (call K) is e H <;> rfl
theorem nxt_bind (r : Option (IEx × Env × Heap)) (f : Env → Heap → Option (IEx × Env × Heap)) :
    nxt r f = r.bind fun q => match q with | (.norm, e, H) => f e H | q => some q := by
  cases r with
  | none => rfl
  | some q => obtain ⟨x, e, H⟩ := q; cases x <;> rfl
theorem run_seq (K : Cfg) (a b : IC) (e : Env) (H : Heap) : run K (.seq a b) e H = nxt (run K a e H) (run K b) := by
  unfold run
  have h1 : ∀ n, exec K.P (callN K n) n (.seq a b) e H = (exec K.P (callN K n) n a e H).bind fun q => match q with | (.norm, e, H) => exec K.P (callN K n) n b e H | q => some q := fun n => by
    simp only [exec]; exact nxt_bind _ _
  rw [lim_ext h1, lim_bind (mono_exec K _ _ _) (fun q => by obtain ⟨x, e, H⟩ := q; cases x <;> first | exact mono_exec K _ _ _ | exact Mono.const _), nxt_bind]
  congr 1
  funext q
  obtain ⟨x, e, H⟩ := q
  cases x <;> first | rfl | exact lim_const _
theorem run_cond (K : Cfg) (c : Arg) (a b : IC) (e : Env) (H : Heap) : run K (.cond c a b) e H = match ev e c with | .bool true => run K a e H | .bool false => run K b e H | _ => none := by
  unfold run
  simp only [exec]
  generalize ev e c = v
  cases v
  case bool b => cases b <;> rfl
  all_goals exact lim_const _
theorem run_block (K : Cfg) (id : Nat) (a : IC) (e : Env) (H : Heap) : run K (.block id a) e H = unblock id (run K a e H) := by
  unfold run
  have h0 : ∀ r, unblock id r = r.bind fun q => unblock id (some q) := fun r => by cases r <;> rfl
  have h1 : ∀ n, exec K.P (callN K n) n (.block id a) e H = (exec K.P (callN K n) n a e H).bind fun q => unblock id (some q) := fun n => by
    simp only [exec]; exact h0 _
  rw [lim_ext h1, lim_bindc _ (mono_exec K _ _ _), h0]
theorem run_loop (K : Cfg) (a : IC) (e : Env) (H : Heap) : run K (.loop a) e H = nxt (run K a e H) (run K (.loop a)) := by
  cases hl : run K (.loop a) e H with
  | some q =>
    obtain ⟨n, hn⟩ := of_lim hl
    cases n with
    | zero => cases hn
    | succ n =>
      have hn' : nxt (exec K.P (callN K (n + 1)) (n + 1) a e H) (iter (exec K.P (callN K (n + 1)) (n + 1) a) n) = some q := hn
      refine (nxt_le (r' := run K a e H) (f' := run K (.loop a)) (fun q hq => lim_of (mono_exec K _ _ _) hq) (fun e H q hq => ?_) hn').symm
      refine lim_of (mono_exec K _ _ _) (n := n + 1) ?_
      exact iter_le (fun _ _ _ h => h) n (n + 1) e H q (by omega) hq
  | none =>
    cases hr : nxt (run K a e H) (run K (.loop a)) with
    | none => rfl
    | some q =>
      exfalso
      rw [nxt_bind] at hr
      obtain ⟨p, h1, h2⟩ := Option.bind_eq_some_iff.1 hr
      obtain ⟨n, hn⟩ := of_lim h1
      obtain ⟨x, e', H'⟩ := p
      have go : ∀ m, (nxt (some (x, e', H')) (iter (exec K.P (callN K (max n m)) (max n m) a) (max n m))) = some q → False := by
        intro m hq
        have : exec K.P (callN K (max n m + 1)) (max n m + 1) (.loop a) e H = some q := by
          simp only [exec, iter]
          have ha : exec K.P (callN K (max n m + 1)) (max n m + 1) a e H = some (x, e', H') := mono_exec K a e H n _ _ (by omega) hn
          rw [ha]
          refine nxt_le (fun _ h => h) (fun e H q hq => ?_) hq
          exact iter_le (fun e H q hq => exec_le (callN_le K _ _ (by omega)) (by omega) _ _ _ _ hq) _ _ e H q (Nat.le_refl _) hq
        have h3 := lim_none hl (max n m + 1)
        rw [this] at h3; cases h3
      cases x with
      | norm =>
        have h2' : run K (.loop a) e' H' = some q := h2
        obtain ⟨m, hm⟩ := of_lim h2'
        refine go m ?_
        show iter _ _ e' H' = some q
        have hm' : exec K.P (callN K m) m (.loop a) e' H' = some q := hm
        simp only [exec] at hm'
        exact iter_le (fun e H q hq => exec_le (callN_le K m _ (by omega)) (by omega) _ _ _ _ hq) m _ e' H' q (by omega) hm'
      | exit id => exact go 0 h2
      | ret => exact go 0 h2
theorem call_eq (K : Cfg) (f : FuncId) (args : List Value) (H : Heap) : call K f args H =
    match K.X f with
    | some g => g args H
    | none => match K.F f with
      | none => none
      | some F =>
        if args.length ≤ F.ntmps then
          (if K.pur f then quiet H (finish F (run K F.code (env0 args) H.roAll)) else finish F (run K F.code (env0 args) H))
        else none := by
  have hs : call K f args H = lim fun n => callN K (n + 1) f args H := by
    cases hl : call K f args H with
    | some q =>
      obtain ⟨n, hn⟩ := of_lim hl
      exact (lim_of (g := fun n => callN K (n + 1) f args H) (fun n m a hl h => callN_le K _ _ (by omega) _ _ _ _ h) (n := n) (callN_le K n (n + 1) (by omega) _ _ _ _ hn)).symm
    | none =>
      have : (fun n => callN K (n + 1) f args H) = fun _ => none := funext fun n => lim_none hl (n + 1)
      rw [this, lim_const]
  rw [hs]
  simp only [callN]
  cases hX : K.X f with
  | some g => exact lim_const _
  | none =>
    cases hF : K.F f with
    | none => exact lim_const _
    | some F =>
      by_cases hl : args.length ≤ F.ntmps
      · by_cases hp : K.pur f = true
        · simp only [if_pos hl, if_pos hp]
          have h0 : ∀ r, quiet H (finish F r) = r.bind fun q => quiet H (finish F (some q)) := fun r => by cases r <;> rfl
          rw [lim_ext (fun n => h0 _), lim_bindc _ (mono_exec K _ _ _), h0]; rfl
        · simp only [if_pos hl, if_neg hp]
          have h0 : ∀ r, finish F r = r.bind fun q => finish F (some q) := fun r => by cases r <;> rfl
          rw [lim_ext (fun n => h0 _), lim_bindc _ (mono_exec K _ _ _), h0]; rfl
      · simp only [if_neg hl]; exact lim_const _
end Go.AM
end TextAhLim
section TextAhGlob
/- AH: what is known of the first blocks of the memory (package-level variables), which nothing of the code writes. -/
namespace Go.AM
set_option linter.unusedVariables false
def gN : Nat := 6
/-- The table of powers of ten, and the two errors of strconv. -/
structure gJ (w : World) : Prop where
  size : gN ≤ w.heap.size
  tab : ∃ t fr, w.heap[1]? = some (.cells ((List.range 20).map fun i => Value.int .u64 ((10 ^ i : Nat) : Int)).toArray t fr)
  syn : ∃ te pe, w.cell? ⟨2, 0, none⟩ = some (.iface te pe)
  rng : ∃ te pe, w.cell? ⟨3, 0, none⟩ = some (.iface te pe)
theorem gLt {w : World} (h : gJ w) : gN ≤ w.heap.size := h.size
theorem gStable {w w' : World} (h : ∀ cb, cb < gN → w'.heap[cb]? = w.heap[cb]?) (hj : gJ w) : gJ w' := by
  have hc : ∀ b, b < gN → w'.cell? ⟨b, 0, none⟩ = w.cell? ⟨b, 0, none⟩ := fun b hb => by simp [World.cell?, h b hb]
  refine ⟨?_, ?_, ?_, ?_⟩
  · have h5 := h 5 (by decide)
    have hs := hj.size
    unfold gN at hs ⊢
    have hlt : 5 < w.heap.size := by omega
    rw [Array.getElem?_eq_getElem hlt] at h5
    have := (Array.getElem?_eq_some_iff.1 h5).1
    omega
  · rw [h 1 (by decide)]; exact hj.tab
  · rw [hc 2 (by decide)]; exact hj.syn
  · rw [hc 3 (by decide)]; exact hj.rng
end Go.AM
end TextAhGlob
section TextAhComp
/- AM: from the given code to the machine's code. -/
namespace Go.AM
set_option linter.unusedVariables false

def cArg : Operand → Option Arg
  | .tmp n => some (.t n)
  | .const v => if flat v then some (.c v) else none
  | .func f => some (.c (.func (.func f) #[] #[]))
  | .global _ => none
def cArgs : List Operand → Option (List Arg)
  | [] => some []
  | x :: xs => (match cArg x, cArgs xs with | some a, some l => some (a :: l) | _, _ => none)
def cOpt : Option Operand → Option (Option Arg)
  | none => some none
  | some x => (match cArg x with | some a => some (some a) | none => none)
/-- Size in cells, aggregate or not. -/
def szOf (P : Program) (t : TypeId) : Option Nat := (P.info? t).map (·.size)
def aggOf (P : Program) (t : TypeId) : Option Bool :=
  match P.underlying t with
  | some (.struct _) => some true
  | some (.array _ _) => some true
  | some _ => some false
  | none => none
def zeroOf (P : Program) (t : TypeId) : Option (List Value) :=
  match (P.info? t).bind (·.zero), szOf P t with
  | some z, some n => if z.cells.toList.length = n ∧ z.cells.toList.all flat1 = true ∧ z.cells.toList.all Value.oneCell' = true then some z.cells.toList else none
  | _, _ => none
/-- Parts of a literal: where each lies, how many cells it has. -/
def cParts (pl : Nat → Option (Nat × Nat)) : List (Nat × Operand) → Option (List (Nat × Nat × Arg))
  | [] => some []
  | (i, x) :: ps => (match pl i, cArg x, cParts pl ps with | some (o, n), some a, some l => some ((o, n, a) :: l) | _, _, _ => none)
def places (P : Program) : List Field → Option (List (Nat × Nat))
  | [] => some []
  | f :: fs => (match szOf P f.type, places P fs with | some n, some l => some ((f.offset, n) :: l) | _, _ => none)
def cLen (P : Program) : List TypeId → List Arg → Option Ins
  | [t], [x] => (match P.underlying t with
      | some .string => some (.lenS x) | some (.slice _) => some (.lenV x) | some (.array n _) => some (.lenA n) | _ => none)
  | _, _ => none
def cApp (P : Program) : List TypeId → List Arg → Option Ins
  | [t, u], [x, y] => (match P.underlying t, P.underlying u with
      | some (.slice e), some (.slice e') => (match zeroOf P e, szOf P e', P.info? e with
          | some z, some n', some inf => if n' = z.length ∧ z.length ≤ 64 then some (.app z.length inf.bytes x y) else none
          | _, _, _ => none)
      | some (.slice e), some .string => (match zeroOf P e, P.info? e with | some [z], some inf => some (.app 1 inf.bytes x y) | _, _ => none)
      | some (.slice e), some (.int _) => (match zeroOf P e, P.info? e with | some z, some inf => some (.appZ z.length inf.bytes z x y) | _, _ => none)
      | _, _ => none)
  | _, _ => none
def cCopy (P : Program) : List TypeId → List Arg → Option Ins
  | [t, u], [x, y] => (match P.underlying t, P.underlying u with
      | some (.slice e), some (.slice e') => (match szOf P e, szOf P e' with | some n, some n' => if n' = n then some (.copy n x y) else none | _, _ => none)
      | some (.slice e), some .string => (match szOf P e with | some 1 => some (.copy 1 x y) | _ => none)
      | _, _ => none)
  | _, _ => none
def cClear (P : Program) : List TypeId → List Arg → Option Ins
  | [t], [x] => (match P.underlying t with | some (.slice e) => (zeroOf P e).map fun z => .clr z x | _ => none)
  | _, _ => none
def cCap (P : Program) : List TypeId → List Arg → Option Ins
  | [t], [x] => (match P.underlying t with | some (.slice e) => some (.capV x) | _ => none)
  | _, _ => none
def cMM (b : Bool) : List Arg → Option Ins
  | [x, y] => some (.mm b x y)
  | _ => none
def cBuiltin (P : Program) (b : Builtin) (ts : List TypeId) (xs : List Arg) : Option Ins :=
  match b with
  | .len => cLen P ts xs
  | .append => cApp P ts xs
  | .copy => cCopy P ts xs
  | .clear => cClear P ts xs
  | .cap => cCap P ts xs
  | .min => cMM false xs
  | .max => cMM true xs
  | _ => none
/-- The cells' kinds, if '==' is cell by cell. -/
def eqFs (P : Program) (g : TypeId → Option (List Srt)) : List Field → Nat → Option (List Srt)
  | [], _ => some []
  | f :: fs, off => if f.name = "_" then none else (match g f.type, szOf P f.type with
    | some l, some m => if f.offset = off ∧ m = l.length then (match eqFs P g fs (off + m) with | some r => some (l ++ r) | none => none) else none
    | _, _ => none)
def eqT (P : Program) : Nat → TypeId → Option (List Srt)
  | 0, _ => none
  | d + 1, t => (match P.underlying t with
    | some (.int k) => some [.num k]
    | some .string => some [.txt]
    | some .bool => some [.flag]
    | some (.struct fs) => if P.stoodInHeld t then none else eqFs P (eqT P d) fs.toList 0
    | _ => none)
def isStruct (P : Program) (t : TypeId) : Bool := match P.underlying t with | some (.struct _) => true | _ => false
def cBin (P : Program) (op : BinOp) (t : TypeId) (x y : Arg) : Option Ins :=
  if isStruct P t then
    (match op with
     | .eql => if P.eqGuardType P.depth t then none else (match eqT P 8 t with | some ss => some (.eqa false ss x y) | none => none)
     | .neq => if P.eqGuardType P.depth t then none else (match eqT P 8 t with | some ss => some (.eqa true ss x y) | none => none)
     | _ => none)
  else some (.bin op t x y)
/-- A struct that holds a pointer to itself, and bytes: a strings.Builder. -/
def isBld (P : Program) (t : TypeId) : Bool :=
  match P.underlying t with
  | some (.struct fs) => (match fs.toList with | [a, b] => a.name == "addr" && b.name == "buf" | _ => false)
  | _ => false
def cOp (P : Program) : Op → Option Ins
  | .move x => (cArg x).map .mov
  | .assign x => (cArg x).map .mov
  | .pick c a b => (match cArg c, cArg a, cArg b with | some c, some a, some b => some (.pick c a b) | _, _, _ => none)
  | .alloc e => if isBld P e then (zeroOf P e).map (.newT e) else (zeroOf P e).map .new
  | .box e x => (match cArg x, szOf P e with | some x, some n => some (.box n x) | _, _ => none)
  | .build t parts => (match zeroOf P t, P.underlying t with
      | some z, some (.struct fs) => (match places P fs.toList with | some pl => (cParts (fun i => pl[i]?) parts.toList).map (.build z) | none => none)
      | some z, some (.array _ e) => (match szOf P e with | some n => (cParts (fun i => some (i * n, n)) parts.toList).map (.build z) | none => none)
      | _, _ => none)
  | .buildSlice t len parts => (match P.underlying t with
      | some (.slice e) => (match zeroOf P e with
        | some z => if len * z.length ≤ 2 ^ 24 then (cParts (fun i => some (i * z.length, z.length)) parts.toList).map (.mkrow z.length len (rep z len)) else none
        | none => none)
      | _ => none)
  | .load t a => (match cArg a, aggOf P t, szOf P t with | some a, some true, some n => some (.ldn n a) | some a, some false, some _ => some (.ld a) | _, _, _ => none)
  | .store t a x => (match cArg a, cArg x, szOf P t with | some a, some x, some n => some (.st n a x) | _, _, _ => none)
  | .nilCheck x => (cArg x).map .nilck
  | .binOp op t x y _ => (match cArg x, cArg y with | some x, some y => cBin P op t x y | _, _ => none)
  | .unOp op _ x => (cArg x).map (.un op)
  | .convert s d x => (match P.underlying s, P.underlying d, cArg x with
      | some (.int _), some (.int k), some x => some (.ii k x)
      | some .string, some (.slice e), some x => (match P.underlying e with | some (.int .u8) => some (.s2b x) | _ => none)
      | some (.slice e), some .string, some x => (match P.underlying e with | some (.int .u8) => some (.b2s x) | _ => none)
      | _, _, _ => none)
  | .makeFunc (.func f) first cap => if first.size = 0 then (cArgs cap.toList).map (.clos f) else none
  | .makeSlice t l c => (match P.underlying t, cArg l, cArg c with
      | some (.slice e), some l, some c => (match zeroOf P e, P.info? e with | some z, some inf => some (.mks z.length inf.bytes z l c) | _, _ => none)
      | _, _, _ => none)
  | .slice t x lo hi mx => (match P.underlying t, cArg x, cOpt lo, cOpt hi, cOpt mx with
      | some .string, some x, some lo, some hi, some none => some (.sls x lo hi)
      | some (.slice e), some x, some lo, some hi, some mx => (match szOf P e with | some n => some (.slv n x lo hi mx) | none => none)
      | _, _, _, _, _ => none)
  | .fieldAddr t x f => (match P.underlying t, cArg x with
      | some (.struct fs), some x => (match fs[f]? with | some f => (match szOf P f.type with | some n => if n = 0 then none else some (.fadr f.offset x) | none => none) | none => none)
      | _, _ => none)
  | .indexAddr t x i => (match P.underlying t, cArg x, cArg i with
      | some (.slice e), some x, some i => (match szOf P e with | some n => some (.iadrS n x i) | none => none)
      | some (.array len e), some x, some i => (match szOf P e with | some n => some (.iadrA len n x i) | none => none)
      | _, _, _ => none)
  | .field t x f => (match P.underlying t, cArg x with
      | some (.struct fs), some x => (match fs[f]? with
        | some f => (match szOf P f.type, aggOf P f.type with | some n, some a => some (.fld f.offset n a x) | _, _ => none) | none => none)
      | _, _ => none)
  | .index t x i => (match P.underlying t, cArg x, cArg i with
      | some (.array len e), some x, some i => (match szOf P e, aggOf P e with | some n, some a => some (.idxA len n a x i) | _, _ => none)
      | some .string, some x, some i => some (.idxS x i)
      | _, _, _ => none)
  | .extract x i => (cArg x).map (.ext i)
  | .call c => (match c.callee with
      | .value (.func f) => (cArgs c.args.toList).map (.call f)
      | .value (.tmp n) => (cArgs c.args.toList).map (.callV (.t n))
      | .builtin b => (match cArgs c.args.toList with | some xs => cBuiltin P b c.argTypes.toList xs | none => none)
      | _ => none)
  | _ => none
def cOper (P : Program) (ops : Array Oper) (o : Oper) : Option Ir :=
  match (cOp P o.op).getD .bad with
  | i => match o.guard with
    | none => some ⟨o.dst, none, i⟩
    | some (j, w) => (match (ops[j]?).bind (·.dst) with | some d => some ⟨o.dst, some (d, w), i⟩ | none => none)
def cOpers (P : Program) (ops : Array Oper) : List Oper → Option (List Ir)
  | [] => some []
  | o :: os => (match cOper P ops o, cOpers P ops os with | some i, some l => some (i :: l) | _, _ => none)
def isEff : Ins → Bool
  | .st .. | .call .. | .callV .. | .app .. | .appZ .. | .copy .. | .clr .. | .bad => true
  | _ => false
def isAl : Ins → Bool
  | .box .. | .new .. | .newT .. | .mkrow .. | .s2b .. | .mks .. => true
  | _ => false
def isRd : Ins → Bool
  | .ld .. | .ldn .. | .b2s .. | .slv .. => true
  | _ => false
/-! ### regions whose order is drawn: one order of our own, effects as late as may be -/
def Arg.tmps : Arg → List Nat
  | .t n => [n]
  | .c _ => []
def optT (x : Option Arg) : List Nat := match x with | some a => a.tmps | none => []
def Ins.tmps : Ins → List Nat
  | .mov x | .box _ x | .ld x | .ldn _ x | .nilck x | .un _ x | .ii _ x | .s2b x | .b2s x | .fadr _ x | .fld _ _ _ x | .ext _ x | .lenV x | .lenS x | .clr _ x | .capV x => x.tmps
  | .pick a b c => a.tmps ++ b.tmps ++ c.tmps
  | .new _ | .newT _ _ | .lenA _ | .bad => []
  | .build _ ps | .mkrow _ _ _ ps => ps.flatMap fun p => p.2.2.tmps
  | .st _ a x | .bin _ _ a x | .mks _ _ _ a x | .iadrS _ a x | .iadrA _ _ a x | .idxA _ _ _ a x | .idxS a x | .app _ _ a x | .appZ _ _ _ a x | .copy _ a x | .mm _ a x | .eqa _ _ a x => a.tmps ++ x.tmps
  | .clos _ xs | .call _ xs => xs.flatMap Arg.tmps
  | .callV x xs => x.tmps ++ xs.flatMap Arg.tmps
  | .sls x lo hi => x.tmps ++ optT lo ++ optT hi
  | .slv _ x lo hi mx => x.tmps ++ optT lo ++ optT hi ++ optT mx
def Ir.looks (i : Ir) : List Nat := i.ins.tmps ++ (match i.guard with | some (d, _) => [d] | none => [])
/-- No slot of the one is written by the other. -/
def Ir.apart (x y : Ir) : Bool :=
  (match x.dst with | some d => !y.looks.contains d && y.dst != some d | none => true) && (match y.dst with | some d => !x.looks.contains d | none => true)
def edgesOf (o : Oper) : List Nat := (o.after.toList.filter fun e => Region.binds .any e).map (·.on)
def edgesAt (ops : Array Oper) (k : Nat) : List Nat := match ops[k]? with | some o => edgesOf o | none => []
def firstReady (ops : Array Oper) (done : List Nat) (f : Nat → Bool) : List Nat → Option Nat
  | [] => none
  | k :: ks => if !done.contains k && f k && (edgesAt ops k).all done.contains then some k else firstReady ops done f ks
def eager (ops : Array Oper) (eff : Nat → Bool) : Nat → List Nat → List Nat
  | 0, done => done
  | n + 1, done =>
    match firstReady ops done (fun k => !eff k) (List.range ops.size) with
    | some k => eager ops eff n (done ++ [k])
    | none => match firstReady ops done (fun _ => true) (List.range ops.size) with
      | some k => eager ops eff n (done ++ [k])
      | none => done
def setM (M : Nat → Nat) (k m : Nat) : Nat → Nat := fun j => if j = k then m else M j
def orM (M : Nat → Nat) : List Nat → Nat
  | [] => 0
  | e :: es => 2 ^ e ||| M e ||| orM M es
def maskM (ops : Array Oper) : List Nat → (Nat → Nat) → (Nat → Nat)
  | [], M => M
  | k :: ks, M => maskM ops ks (setM M k (orM M (edgesAt ops k)))
def ordOk (ops : Array Oper) : List Nat → List Nat → Bool
  | _, [] => true
  | done, k :: ks => decide (k < ops.size) && !done.contains k && (edgesAt ops k).all done.contains && ordOk ops (done ++ [k]) ks
def chkPairs (ops : Array Oper) (M : Nat → Nat) (order : List Nat) (is : List Ir) : List (Nat × Nat) :=
  (List.range is.length).flatMap fun q => (List.range q).flatMap fun p =>
    match order[p]?, order[q]?, is[p]?, is[q]? with
    | some op, some oq, some i, some j => if !(M oq).testBit op && isRd i.ins && isEff j.ins then [(p, q)] else []
    | _, _, _, _ => []
def pairOk (M : Nat → Nat) (order : List Nat) (is : List Ir) (ch : List (Nat × Nat)) (p q : Nat) : Bool :=
  match order[p]?, order[q]?, is[p]?, is[q]? with
  | some op, some oq, some i, some j => (M oq).testBit op || (i.apart j && !isEff i.ins && (!(isRd i.ins && isEff j.ins) || ch.contains (p, q)))
  | _, _, _, _ => false
def drawOk (ops : Array Oper) (order : List Nat) (is : List Ir) (ch : List (Nat × Nat)) : Bool :=
  decide (order.length = ops.size) && decide (is.length = ops.size) && (List.range ops.size).all order.contains && ordOk ops [] order &&
  (List.range is.length).all fun q => (List.range q).all fun p => pairOk (maskM ops order fun _ => 0) order is ch p q
def pickL (is : List Ir) : List Nat → Option (List Ir)
  | [] => some []
  | k :: ks => (match is[k]?, pickL is ks with | some i, some l => some (i :: l) | _, _ => none)
def cDraw (ops : Array Oper) (is0 : List Ir) : Option IC :=
  let order := eager ops (fun k => match is0[k]? with | some i => isEff i.ins | none => false) ops.size []
  match pickL is0 order with
  | some is =>
    let ch := chkPairs ops (maskM ops order fun _ => 0) order is
    if drawOk ops order is ch then some (.regd is ch) else none
  | none => none
def cCode (P : Program) : Code → Option IC
  | .skip => some .skip
  | .region _ ops d => (match cOpers P ops ops.toList with
      | some is => if d then cDraw ops is else some (.reg is)
      | none => none)
  | .seq a b => (match cCode P a, cCode P b with | some a, some b => some (.seq a b) | _, _ => none)
  | .cond c a b => (match cArg c, cCode P a, cCode P b with | some c, some a, some b => some (.cond c a b) | _, _, _ => none)
  | .block id a => (cCode P a).map (.block id)
  | .loop a => (cCode P a).map .loop
  | .exit id => some (.exit id)
  | .ret => some .ret
  | _ => none
def cRes (P : Program) : ResultVar → Option IRes
  | .tmp t => some (.tmp t)
  | .cell a t => (match aggOf P t, szOf P t with | some true, some n => some (.ldn a n) | some false, some _ => some (.ld a) | _, _ => none)
def cRess (P : Program) : List ResultVar → Option (List IRes)
  | [] => some []
  | r :: rs => (match cRes P r, cRess P rs with | some i, some l => some (i :: l) | _, _ => none)
/-- Each slot that is written lies in the frame. -/
def slotsOk (n : Nat) : IC → Bool
  | .reg is | .regd is _ => is.all fun i => match i.dst with | some d => decide (d < n) | none => true
  | .seq a b | .cond _ a b => slotsOk n a && slotsOk n b
  | .block _ a | .loop a => slotsOk n a
  | _ => true
def cFn (P : Program) (f : Func) : Option IFn :=
  match f.body with
  | none => none
  | some c => if f.name == "runtime.NumGoroutine" then none else
    match cCode P c, cRess P f.results.toList with
    | some c, some rs => if slotsOk f.ntmps c then some ⟨c, f.ntmps, rs⟩ else none
    | _, _ => none
def fnAt (P : Program) (f : FuncId) : Option IFn := (P.funcs[f]?).bind (cFn P)
end Go.AM
end TextAhComp
section TextAhRel
/- AM: how the abstract memory stands to the model's. -/
namespace Go.AM
set_option linter.unusedVariables false
set_option linter.unusedSimpArgs false

/-! ### lists in pairs -/
def All2 {α β : Type} (R : α → β → Prop) : List α → List β → Prop
  | [], [] => True
  | a :: as, b :: bs => R a b ∧ All2 R as bs
  | _, _ => False
section
variable {α β : Type} {R : α → β → Prop}
theorem All2.length : ∀ {as : List α} {bs : List β}, All2 R as bs → as.length = bs.length
  | [], [], _ => rfl
  | _ :: _, _ :: _, h => by simp [h.2.length]
theorem All2.mono {S : α → β → Prop} (hRS : ∀ a b, R a b → S a b) : ∀ {as : List α} {bs : List β}, All2 R as bs → All2 S as bs
  | [], [], _ => trivial
  | _ :: _, _ :: _, h => ⟨hRS _ _ h.1, h.2.mono hRS⟩
theorem All2.get : ∀ {as : List α} {bs : List β}, All2 R as bs → ∀ {i : Nat} {a : α}, as[i]? = some a → ∃ b, bs[i]? = some b ∧ R a b
  | [], [], _, i, a, h => by simp at h
  | x :: as, y :: bs, h, 0, a, ha => by simp at ha; subst ha; exact ⟨y, rfl, h.1⟩
  | x :: as, y :: bs, h, i + 1, a, ha => by simpa using h.2.get (i := i) (by simpa using ha)
theorem All2.of_get : ∀ {as : List α} {bs : List β}, as.length = bs.length → (∀ (i : Nat) (a : α) (b : β), as[i]? = some a → bs[i]? = some b → R a b) → All2 R as bs
  | [], [], _, _ => trivial
  | [], _ :: _, h, _ => by simp at h
  | _ :: _, [], h, _ => by simp at h
  | a :: as, b :: bs, h, hg => ⟨hg 0 a b rfl rfl, All2.of_get (by simpa using h) fun i x y hx hy => hg (i + 1) x y (by simpa using hx) (by simpa using hy)⟩
theorem All2.append : ∀ {as as' : List α} {bs bs' : List β}, All2 R as bs → All2 R as' bs' → All2 R (as ++ as') (bs ++ bs')
  | [], _, [], _, _, h => h
  | _ :: _, _, _ :: _, _, h, h' => ⟨h.1, h.2.append h'⟩
theorem All2.take : ∀ {as : List α} {bs : List β} (n : Nat), All2 R as bs → All2 R (as.take n) (bs.take n)
  | [], [], _, _ => by simp [All2]
  | _ :: _, _ :: _, 0, _ => by simp [All2]
  | _ :: _, _ :: _, n + 1, h => ⟨h.1, h.2.take n⟩
theorem All2.drop : ∀ {as : List α} {bs : List β} (n : Nat), All2 R as bs → All2 R (as.drop n) (bs.drop n)
  | [], [], _, _ => by simp [All2]
  | _ :: _, _ :: _, 0, h => h
  | _ :: _, _ :: _, n + 1, h => by simpa using h.2.drop n
theorem All2.nil_left {bs : List β} (h : All2 R [] bs) : bs = [] := by cases bs <;> first | rfl | exact h.elim
theorem All2.cons_left {a : α} {as : List α} {bs : List β} (h : All2 R (a :: as) bs) : ∃ b bs', bs = b :: bs' ∧ R a b ∧ All2 R as bs' := by
  cases bs with
  | nil => exact h.elim
  | cons b bs => exact ⟨b, bs, rfl, h.1, h.2⟩
theorem All2.refl {R : α → α → Prop} : ∀ {as : List α}, (∀ a ∈ as, R a a) → All2 R as as
  | [], _ => trivial
  | a :: as, h => ⟨h a (by simp), All2.refl fun x hx => h x (by simp [hx])⟩
theorem All2.eq_of : ∀ {as bs : List α} {R : α → α → Prop}, All2 R as bs → (∀ a b, a ∈ as → R a b → b = a) → bs = as
  | [], [], _, _, _ => rfl
  | a :: as, b :: bs, R, h, he => by rw [he a b (by simp) h.1, h.2.eq_of fun x y hx => he x y (by simp [hx])]
theorem All2.map_left {γ : Type} {f : γ → α} : ∀ {cs : List γ} {bs : List β}, All2 (fun c b => R (f c) b) cs bs → All2 R (cs.map f) bs
  | [], [], _ => trivial
  | _ :: _, _ :: _, h => ⟨h.1, h.2.map_left⟩
theorem All2.map_both {γ δ : Type} {f : γ → α} {g : δ → β} : ∀ {cs : List γ} {ds : List δ}, All2 (fun c d => R (f c) (g d)) cs ds → All2 R (cs.map f) (ds.map g)
  | [], [], _ => trivial
  | _ :: _, _ :: _, h => ⟨h.1, h.2.map_both⟩
end

/-! ### values -/
structure Loc where
  blk : Nat
  size : Nat
  esz : Nat
  shift : Nat
abbrev Rho := Nat → Option Loc
def V0 (ρ : Rho) : Value → Value → Prop
  | .pointer (some a), v' => ∃ L, ρ a.block = some L ∧ a.spot = none ∧ v' = .pointer (some ⟨L.blk, a.off + L.shift, none⟩)
  | .slice (some a) n c, v' => ∃ L o' c', ρ a.block = some L ∧ a.spot = none ∧ (∃ s', v' = .slice (some ⟨L.blk, o', s'⟩) n c' ∧ (0 < c' → s' = none)) ∧
      n ≤ c / 2 ∧ c / 2 ≤ c' ∧ (c % 2 = 1 → c' = c / 2) ∧ (0 < c / 2 → o' = a.off + L.shift) ∧ o' + c' * L.esz ≤ L.size
  | .iface t (.pointer (some a)), v' => ∃ L, ρ a.block = some L ∧ a.spot = none ∧ v' = .iface t (.pointer (some ⟨L.blk, a.off + L.shift, none⟩))
  | v, v' => flat1 v = true ∧ v' = v
def V1 (ρ : Rho) : Value → Value → Prop
  | .func fn first cap, v' => (∃ f, fn = .func f) ∧ first = #[] ∧ ∃ cap', v' = .func fn #[] cap' ∧ All2 (V0 ρ) cap.toList cap'.toList
  | v, v' => V0 ρ v v'
def V2 (ρ : Rho) : Value → Value → Prop
  | .agg cs, v' => ∃ cs', v' = .agg cs' ∧ All2 (V1 ρ) cs.toList cs'.toList
  | v, v' => V1 ρ v v'
def V3 (ρ : Rho) : Value → Value → Prop
  | .tuple vs, v' => ∃ vs', v' = .tuple vs' ∧ All2 (V2 ρ) vs.toList vs'.toList
  | v, v' => V2 ρ v v'
def RhoLe (ρ ρ' : Rho) : Prop := ∀ b L, ρ b = some L → ρ' b = some L
theorem RhoLe.refl (ρ : Rho) : RhoLe ρ ρ := fun _ _ h => h
theorem RhoLe.trans {a b c : Rho} (h : RhoLe a b) (h' : RhoLe b c) : RhoLe a c := fun x L hx => h' x L (h x L hx)
theorem V0.iface_inv {ρ : Rho} {t : TypeId} {p v' : Value} (hv : V0 ρ (.iface t p) v') : ∃ a L, p = .pointer (some a) ∧ ρ a.block = some L ∧ a.spot = none ∧ v' = .iface t (.pointer (some ⟨L.blk, a.off + L.shift, none⟩)) := by
  cases p
  case pointer a =>
    cases a with
    | none => exact absurd hv.1 (by simp [flat1])
    | some a => obtain ⟨L, h1, h2, h3⟩ := hv; exact ⟨a, L, rfl, h1, h2, h3⟩
  all_goals exact absurd hv.1 (by simp [flat1])
theorem V0.mono {ρ ρ' : Rho} (h : RhoLe ρ ρ') {v v' : Value} (hv : V0 ρ v v') : V0 ρ' v v' := by
  cases v
  case pointer a =>
    cases a with
    | none => exact hv
    | some a => obtain ⟨L, h1, h2⟩ := hv; exact ⟨L, h _ _ h1, h2⟩
  case slice a n c =>
    cases a with
    | none => exact hv
    | some a => obtain ⟨L, o', c', h1, h2⟩ := hv; exact ⟨L, o', c', h _ _ h1, h2⟩
  case iface t p =>
    rcases V0.iface_inv hv with ⟨a, L, rfl, h1, h2, h3⟩
    exact ⟨L, h _ _ h1, h2, h3⟩
  all_goals exact hv
theorem V1.mono {ρ ρ' : Rho} (h : RhoLe ρ ρ') {v v' : Value} (hv : V1 ρ v v') : V1 ρ' v v' := by
  cases v
  case func fn first cap => obtain ⟨h1, h2, cap', h3, h4⟩ := hv; exact ⟨h1, h2, cap', h3, h4.mono fun _ _ => V0.mono h⟩
  case pointer a => exact V0.mono (v := .pointer a) h hv
  case slice a n c => exact V0.mono (v := .slice a n c) h hv
  case iface t p => exact V0.mono (v := .iface t p) h hv
  all_goals exact hv
theorem V2.mono {ρ ρ' : Rho} (h : RhoLe ρ ρ') {v v' : Value} (hv : V2 ρ v v') : V2 ρ' v v' := by
  cases v
  case agg cs => obtain ⟨cs', h1, h2⟩ := hv; exact ⟨cs', h1, h2.mono fun _ _ => V1.mono h⟩
  case pointer a => exact V1.mono (v := .pointer a) h hv
  case slice a n c => exact V1.mono (v := .slice a n c) h hv
  case iface t p => exact V1.mono (v := .iface t p) h hv
  case func fn first cap => exact V1.mono (v := .func fn first cap) h hv
  all_goals exact hv
theorem V3.mono {ρ ρ' : Rho} (h : RhoLe ρ ρ') {v v' : Value} (hv : V3 ρ v v') : V3 ρ' v v' := by
  cases v
  case tuple cs => obtain ⟨cs', h1, h2⟩ := hv; exact ⟨cs', h1, h2.mono fun _ _ => V2.mono h⟩
  case pointer a => exact V2.mono (v := .pointer a) h hv
  case slice a n c => exact V2.mono (v := .slice a n c) h hv
  case iface t p => exact V2.mono (v := .iface t p) h hv
  case func fn first cap => exact V2.mono (v := .func fn first cap) h hv
  case agg cs => exact V2.mono (v := .agg cs) h hv
  all_goals exact hv

theorem arr_nil {α : Type} {a : Array α} (h : a.size = 0) : a = #[] := Array.eq_empty_of_size_eq_zero h
theorem V0.of_flat {ρ : Rho} {v : Value} (h : flat1 v = true) : V0 ρ v v := by
  cases v
  case pointer a => cases a <;> first | exact ⟨h, rfl⟩ | cases h
  case slice a n c => cases a <;> first | exact ⟨h, rfl⟩ | cases h
  case iface t p => cases h
  all_goals exact ⟨h, rfl⟩
theorem V1.of_flat {ρ : Rho} {v : Value} (h : flat1 v = true) : V1 ρ v v := by
  cases v
  case func fn first cap =>
    cases fn <;> simp [flat1] at h
    obtain ⟨rfl, rfl⟩ := h
    exact ⟨⟨_, rfl⟩, rfl, #[], rfl, trivial⟩
  case pointer a => exact V0.of_flat (v := .pointer a) h
  case slice a n c => exact V0.of_flat (v := .slice a n c) h
  case iface t p => cases h
  all_goals exact ⟨h, rfl⟩
theorem V2.of_flat {ρ : Rho} {v : Value} (h : flat2 v = true) : V2 ρ v v := by
  cases v
  case agg cs => exact ⟨cs, rfl, All2.refl fun a ha => V1.of_flat (List.all_eq_true.1 (show cs.toList.all flat1 = true from h) a ha)⟩
  case pointer a => exact V1.of_flat (v := .pointer a) h
  case slice a n c => exact V1.of_flat (v := .slice a n c) h
  case iface t p => cases h
  case func fn first cap => exact V1.of_flat (v := .func fn first cap) h
  all_goals exact ⟨h, rfl⟩
theorem V3.of_flat {ρ : Rho} {v : Value} (h : flat v = true) : V3 ρ v v := by
  cases v
  case tuple cs => exact ⟨cs, rfl, All2.refl fun a ha => V2.of_flat (List.all_eq_true.1 (show cs.toList.all flat2 = true from h) a ha)⟩
  case pointer a => exact V2.of_flat (v := .pointer a) h
  case slice a n c => exact V2.of_flat (v := .slice a n c) h
  case iface t p => cases h
  case func fn first cap => exact V2.of_flat (v := .func fn first cap) h
  case agg cs => exact V2.of_flat (v := .agg cs) h
  all_goals exact ⟨h, rfl⟩
theorem V1.flat {ρ : Rho} {v v' : Value} (h : flat1 v = true) (hv : V1 ρ v v') : v' = v := by
  cases v
  case func fn first cap =>
    obtain ⟨_, rfl, cap', rfl, h4⟩ := hv
    cases fn <;> simp [flat1] at h
    subst h
    have := h4.nil_left
    rw [show cap' = #[] from by cases cap'; simp_all]
  case pointer a => cases a <;> first | exact hv.2 | cases h
  case slice a n c => cases a <;> first | exact hv.2 | cases h
  case iface t p => cases h
  all_goals exact hv.2
theorem V2.flat {ρ : Rho} {v v' : Value} (h : flat2 v = true) (hv : V2 ρ v v') : v' = v := by
  cases v
  case agg cs =>
    obtain ⟨cs', rfl, h2⟩ := hv
    have := h2.eq_of fun a b ha hr => V1.flat (List.all_eq_true.1 (show cs.toList.all flat1 = true from h) a ha) hr
    rw [show cs' = cs from by cases cs; cases cs'; simp_all]
  case pointer a => exact V1.flat (v := .pointer a) h hv
  case slice a n c => exact V1.flat (v := .slice a n c) h hv
  case iface t p => cases h
  case func fn first cap => exact V1.flat (v := .func fn first cap) h hv
  all_goals exact hv.2
theorem V3.flat {ρ : Rho} {v v' : Value} (h : AM.flat v = true) (hv : V3 ρ v v') : v' = v := by
  cases v
  case tuple cs =>
    obtain ⟨cs', rfl, h2⟩ := hv
    have := h2.eq_of fun a b ha hr => V2.flat (List.all_eq_true.1 (show cs.toList.all flat2 = true from h) a ha) hr
    rw [show cs' = cs from by cases cs; cases cs'; simp_all]
  case pointer a => exact V2.flat (v := .pointer a) h hv
  case slice a n c => exact V2.flat (v := .slice a n c) h hv
  case iface t p => cases h
  case func fn first cap => exact V2.flat (v := .func fn first cap) h hv
  case agg cs => exact V2.flat (v := .agg cs) h hv
  all_goals exact hv.2
theorem V3.undef {ρ : Rho} : V3 ρ undef undef := ⟨#[], rfl, trivial⟩
/-- The cells of a value stand in pairs. -/
theorem V2.cells {ρ : Rho} {v v' : Value} (hv : V2 ρ v v') : All2 (V1 ρ) v.cells.toList v'.cells.toList := by
  cases v
  case agg cs => obtain ⟨cs', rfl, h2⟩ := hv; exact h2
  case func fn first cap => have h := hv; obtain ⟨_, _, cap', rfl, _⟩ := h; exact ⟨hv, trivial⟩
  case pointer a =>
    cases a with
    | none => have h := hv; obtain ⟨_, rfl⟩ := h; exact ⟨hv, trivial⟩
    | some a => have h := hv; obtain ⟨L, _, _, rfl⟩ := h; exact ⟨hv, trivial⟩
  case slice a n c =>
    cases a with
    | none => have h := hv; obtain ⟨_, rfl⟩ := h; exact ⟨hv, trivial⟩
    | some a => have h := hv; obtain ⟨L, _, _, _, _, ⟨_, rfl, _⟩, _⟩ := h; exact ⟨hv, trivial⟩
  case iface t p =>
    have h := hv
    obtain ⟨a, L, rfl, _, _, rfl⟩ := V0.iface_inv h
    exact ⟨hv, trivial⟩
  all_goals (have h := hv; obtain ⟨_, rfl⟩ := h; exact ⟨hv, trivial⟩)
theorem V3.two {ρ : Rho} {v v' : Value} (hv : V3 ρ v v') (h : ∀ vs, v ≠ .tuple vs) : V2 ρ v v' := by
  cases v
  case tuple vs => exact absurd rfl (h vs)
  all_goals exact hv
theorem V2.three {ρ : Rho} {v v' : Value} (hv : V2 ρ v v') : V3 ρ v v' := by
  cases v
  case tuple vs => exact absurd hv.1 (by simp [flat1])
  all_goals exact hv
theorem V1.two {ρ : Rho} {v v' : Value} (hv : V1 ρ v v') : V2 ρ v v' := by
  cases v
  case agg vs => exact absurd hv.1 (by simp [flat1])
  all_goals exact hv
theorem V0.one {ρ : Rho} {v v' : Value} (hv : V0 ρ v v') : V1 ρ v v' := by
  cases v
  case func fn first cap =>
    obtain ⟨h, rfl⟩ := hv
    exact V1.of_flat h
  all_goals exact hv
theorem V1.oneCell {ρ : Rho} {v v' : Value} (hv : V1 ρ v v') : v.oneCell' = true ∧ v'.oneCell' = true := by
  cases v
  case func fn first cap => obtain ⟨_, _, cap', rfl, _⟩ := hv; exact ⟨rfl, rfl⟩
  case pointer a =>
    cases a with
    | none => obtain ⟨_, rfl⟩ := hv; exact ⟨rfl, rfl⟩
    | some a => obtain ⟨L, _, _, rfl⟩ := hv; exact ⟨rfl, rfl⟩
  case slice a n c =>
    cases a with
    | none => obtain ⟨_, rfl⟩ := hv; exact ⟨rfl, rfl⟩
    | some a => obtain ⟨L, _, _, _, _, ⟨_, rfl, _⟩, _⟩ := hv; exact ⟨rfl, rfl⟩
  case iface t p => obtain ⟨a, L, rfl, _, _, rfl⟩ := V0.iface_inv hv; exact ⟨rfl, rfl⟩
  case agg cs => exact absurd hv.1 (by simp [flat1])
  case tuple cs => exact absurd hv.1 (by simp [flat1])
  all_goals (obtain ⟨_, rfl⟩ := hv; exact ⟨rfl, rfl⟩)

/-! ### memory -/
/-- Nothing stands past the next block. -/
def Hw (H : Heap) : Prop := ∀ b, H.next ≤ b → H.blk b = none
/-- What is known of a block's type. -/
def TyAt (w : World) (L : Loc) (B : Blk) : Prop := (∀ T e, B.ty = some (T, e) → L.shift = 0 ∧ ∃ c, w.heap[L.blk]? = some (.cells c T (0, 0)) ∧ (e = true → c.size = B.esz)) ∧ (∀ r, B.room = some r → r + L.shift ≤ L.size) ∧
  (B.ro = false → B.esz ≠ 1 → ∃ c t, w.heap[L.blk]? = some (.cells c t (0, 0)))
theorem TyAt.none {w : World} {L : Loc} {B : Blk} (h : B.ty = none) (h2 : B.room = none) (h3 : B.ro = false → B.esz ≠ 1 → ∃ c t, w.heap[L.blk]? = some (.cells c t (0, 0))) : TyAt w L B := ⟨fun T e he => by rw [h] at he; (cases he), fun r he => by rw [h2] at he; (cases he), h3⟩
theorem TyAt.keep {w w' : World} {L : Loc} {B : Blk} (h : TyAt w L B) (hw : w'.heap[L.blk]? = w.heap[L.blk]?) : TyAt w' L B := ⟨fun T e he => by
  obtain ⟨h1, c, h2, h3⟩ := h.1 T e he
  exact ⟨h1, c, hw.trans h2, h3⟩, h.2.1, fun h1 h2 => by rw [hw]; exact h.2.2 h1 h2⟩
structure RelH (ρ : Rho) (H : Heap) (w : World) : Prop where
  dom : ∀ b L, ρ b = some L → b < H.next
  blk : ∀ b L B, ρ b = some L → H.blk b = some B → ∃ c t fr, w.heap[L.blk]? = some (.cells c t fr) ∧ c.size = L.size ∧ L.esz = B.esz ∧
    (B.ro = false → fr.2 ≤ fr.1 ∨ c.size ≤ fr.1) ∧ ∀ o v, B.at_ o = some v → ∃ v', c[o + L.shift]? = some v' ∧ V1 ρ v v'
  inj : ∀ b1 b2 L1 L2 B1 B2, ρ b1 = some L1 → ρ b2 = some L2 → H.blk b1 = some B1 → H.blk b2 = some B2 → B1.ro = false → L1.blk = L2.blk → b1 = b2
  j : gJ w
  low : ∀ b L B, ρ b = some L → H.blk b = some B → B.ro = false → gN ≤ L.blk
  typ : ∀ b L B, ρ b = some L → H.blk b = some B → TyAt w L B
theorem RelH.lt {ρ : Rho} {H : Heap} {w : World} (h : RelH ρ H w) {b : Nat} {L : Loc} {B : Blk} (hb : ρ b = some L) (hB : H.blk b = some B) : L.blk < w.heap.size := by
  obtain ⟨c, t, fr, hh, _⟩ := h.blk b L B hb hB
  exact (Array.getElem?_eq_some_iff.1 hh).1
/-- From one state to another. Blocks below 'base' that stand for nothing stay so. -/
structure Adv (base : Nat) (ρ : Rho) (H : Heap) (w : World) (ρ' : Rho) (H' : Heap) (w' : World) : Prop where
  ext : RhoLe ρ ρ'
  rel : RelH ρ' H' w'
  os : w'.os = w.os
  tape : w'.tape = w.tape
  output : w'.output = w.output
  size : w.heap.size ≤ w'.heap.size
  keep : ∀ cb, cb < w.heap.size → (∀ b L B, ρ b = some L → H.blk b = some B → B.ro = false → L.blk ≠ cb) → w'.heap[cb]? = w.heap[cb]?
  ghost : ∀ b, b < base → ρ b = none → ρ' b = none ∧ H'.blk b = H.blk b
  fresh : ∀ b L, ρ b = none → ρ' b = some L → base ≤ b ∧ (w.heap.size ≤ L.blk ∨ ∃ b0 L0 B0, ρ b0 = some L0 ∧ H.blk b0 = some B0 ∧ B0.ro = false ∧ L0.blk = L.blk)
  next : H.next ≤ H'.next
  back : ∀ b L B', ρ b = some L → H'.blk b = some B' → ∃ B, H.blk b = some B ∧ B.ro = B'.ro ∧ B.esz = B'.esz
theorem Adv.refl {base : Nat} {ρ : Rho} {H : Heap} {w : World} (h : RelH ρ H w) : Adv base ρ H w ρ H w where
  ext := RhoLe.refl _
  rel := h
  os := rfl
  tape := rfl
  output := rfl
  size := Nat.le_refl _
  keep := fun _ _ _ => rfl
  ghost := fun _ _ h => ⟨h, rfl⟩
  fresh := fun b L h h' => by rw [h] at h'; cases h'
  next := Nat.le_refl _
  back := fun b L B' _ h => ⟨B', h, rfl, rfl⟩
theorem Adv.trans {base : Nat} {ρ ρ1 ρ2 : Rho} {H H1 H2 : Heap} {w w1 w2 : World} (a : Adv base ρ H w ρ1 H1 w1) (b : Adv base ρ1 H1 w1 ρ2 H2 w2) : Adv base ρ H w ρ2 H2 w2 where
  ext := a.ext.trans b.ext
  rel := b.rel
  os := b.os.trans a.os
  tape := b.tape.trans a.tape
  output := b.output.trans a.output
  size := Nat.le_trans a.size b.size
  keep := fun cb hcb hno => by
    rw [b.keep cb (Nat.lt_of_lt_of_le hcb a.size) ?_, a.keep cb hcb hno]
    intro k L B hk hB hro heq
    cases h0 : ρ k with
    | some L0 =>
      have := a.ext k L0 h0
      rw [hk] at this; cases this
      obtain ⟨B0, hB0, hr, _⟩ := a.back k L B h0 hB
      exact hno k L B0 h0 hB0 (hr.trans hro) heq
    | none =>
      obtain ⟨_, h | ⟨b0, L0, B0, h1, h2, h3, h4⟩⟩ := a.fresh k L h0 hk
      · omega
      · exact hno b0 L0 B0 h1 h2 h3 (h4.trans heq)
  ghost := fun k hk h0 => by
    obtain ⟨h1, h2⟩ := a.ghost k hk h0
    obtain ⟨h3, h4⟩ := b.ghost k hk h1
    exact ⟨h3, h4.trans h2⟩
  fresh := fun k L h0 h2 => by
    cases h1 : ρ1 k with
    | some L1 =>
      have := b.ext k L1 h1
      rw [h2] at this; cases this
      exact a.fresh k L h0 h1
    | none =>
      obtain ⟨hb, h | ⟨b0, L0, B0, g1, g2, g3, g4⟩⟩ := b.fresh k L h1 h2
      · exact ⟨hb, .inl (Nat.le_trans a.size h)⟩
      · refine ⟨hb, ?_⟩
        cases h00 : ρ b0 with
        | some L00 =>
          have := a.ext b0 L00 h00
          rw [g1] at this; cases this
          obtain ⟨B00, hB0, hr, _⟩ := a.back b0 L0 B0 h00 g2
          exact .inr ⟨b0, L0, B00, h00, hB0, hr.trans g3, g4⟩
        | none =>
          obtain ⟨_, h | ⟨b1, L1, B1, f1, f2, f3, f4⟩⟩ := a.fresh b0 L0 h00 g1
          · exact .inl (by omega)
          · exact .inr ⟨b1, L1, B1, f1, f2, f3, f4.trans g4⟩
  next := Nat.le_trans a.next b.next
  back := fun k L B2 hk hB => by
    obtain ⟨B1, h1, hr, he⟩ := b.back k L B2 (a.ext k L hk) hB
    obtain ⟨B0, h0, hr', he'⟩ := a.back k L B1 hk h1
    exact ⟨B0, h0, hr'.trans hr, he'.trans he⟩
theorem Adv.base {base base' : Nat} {ρ ρ' : Rho} {H H' : Heap} {w w' : World} (a : Adv base' ρ H w ρ' H' w') (h : base ≤ base') : Adv base ρ H w ρ' H' w' :=
  { a with ghost := fun b hb => a.ghost b (by omega), fresh := fun b L h0 h1 => let ⟨p, q⟩ := a.fresh b L h0 h1; ⟨by omega, q⟩ }
/-- A world with the same heap. -/
theorem RelH.same {ρ : Rho} {H : Heap} {w w' : World} (h : RelH ρ H w) (e : w'.heap = w.heap) : RelH ρ H w' :=
  ⟨h.dom, fun b L B hb hB => by rw [e]; exact h.blk b L B hb hB, h.inj, gStable (fun cb _ => by rw [e]) h.j, h.low, fun b L B hb hB => (h.typ b L B hb hB).keep (by rw [e])⟩
theorem Adv.same {base : Nat} {ρ : Rho} {H : Heap} {w w' : World} (h : RelH ρ H w) (e : w'.heap = w.heap) (h1 : w'.os = w.os) (h2 : w'.tape = w.tape) (h3 : w'.output = w.output) : Adv base ρ H w ρ H w' where
  ext := RhoLe.refl _
  rel := h.same e
  os := h1
  tape := h2
  output := h3
  size := by rw [e]; exact Nat.le_refl _
  keep := fun _ _ _ => by rw [e]
  ghost := fun _ _ h => ⟨h, rfl⟩
  fresh := fun b L h h' => by rw [h] at h'; cases h'
  next := Nat.le_refl _
  back := fun b L B' _ h => ⟨B', h, rfl, rfl⟩
def rset (ρ : Rho) (b : Nat) (L : Loc) : Rho := fun k => if k = b then some L else ρ k
theorem RelH.none_ge {ρ : Rho} {H : Heap} {w : World} (h : RelH ρ H w) {b : Nat} (hb : H.next ≤ b) : ρ b = none := by
  cases hr : ρ b with
  | none => rfl
  | some L => have := h.dom b L hr; omega
theorem rset_le {ρ : Rho} {b : Nat} {L : Loc} (h : ρ b = none) : RhoLe ρ (rset ρ b L) := fun k M hk => by
  unfold rset; by_cases e : k = b
  · subst e; rw [h] at hk; cases hk
  · rw [if_neg e]; exact hk
/-- One more block on both sides. -/
theorem Adv.alloc {base : Nat} {ρ : Rho} {H H' : Heap} {w w' : World} (h : RelH ρ H w) (b : Nat) (hb : ρ b = none) (hbase : base ≤ b) (hbn : b < H'.next) (hn : H.next ≤ H'.next)
    (B : Blk) (hBl : H'.blk b = some B) (hoth : ∀ k, k ≠ b → H'.blk k = H.blk k) (L : Loc) (c : Array Value) (t : TypeId) (fr : Nat × Nat)
    (hw : w'.heap = w.heap.push (.cells c t fr)) (hL : L.blk = w.heap.size) (hsz : c.size = L.size) (he : L.esz = B.esz) (hfr : fr.2 ≤ fr.1 ∨ c.size ≤ fr.1)
    (hc : ∀ o v, B.at_ o = some v → ∃ v', c[o + L.shift]? = some v' ∧ V1 ρ v v')
    (h1 : w'.os = w.os) (h2 : w'.tape = w.tape) (h3 : w'.output = w.output) (hty : TyAt w' L B) : Adv base ρ H w (rset ρ b L) H' w' := by
  have hle : RhoLe ρ (rset ρ b L) := rset_le hb
  have hold : ∀ k, k < w.heap.size → w'.heap[k]? = w.heap[k]? := fun k hk => by rw [hw, Array.getElem?_push, if_neg (by omega)]
  have hlt : ∀ k M C, ρ k = some M → H.blk k = some C → M.blk < w.heap.size := fun k M C hk hC => by
    obtain ⟨c, t, fr, hh, _⟩ := h.blk k M C hk hC
    exact (Array.getElem?_eq_some_iff.1 hh).1
  have hlow : ∀ k M C, rset ρ b L k = some M → H'.blk k = some C → C.ro = false → gN ≤ M.blk := fun k M C hk hC hro => by
    unfold rset at hk
    by_cases e : k = b
    · rw [if_pos e] at hk; cases hk
      have := gLt h.j; omega
    · rw [if_neg e] at hk
      rw [hoth k e] at hC
      exact h.low k M C hk hC hro
  have htyp : ∀ k M C, rset ρ b L k = some M → H'.blk k = some C → TyAt w' M C := fun k M C hk hC => by
    unfold rset at hk
    by_cases e : k = b
    · rw [if_pos e] at hk; cases hk
      subst e; rw [hBl] at hC; cases hC; exact hty
    · rw [if_neg e] at hk
      rw [hoth k e] at hC
      exact (h.typ k M C hk hC).keep (hold _ (hlt k M C hk hC))
  refine ⟨hle, ⟨?_, ?_, ?_, gStable (fun cb hcb => hold cb (Nat.lt_of_lt_of_le hcb (gLt h.j))) h.j, hlow, htyp⟩, h1, h2, h3, by rw [hw]; simp, fun cb hcb _ => hold cb hcb, ?_, ?_, hn, ?_⟩
  · intro k M hk
    unfold rset at hk
    by_cases e : k = b
    · subst e; exact hbn
    · rw [if_neg e] at hk; have := h.dom k M hk; omega
  · intro k M C hk hC
    unfold rset at hk
    by_cases e : k = b
    · subst e
      rw [if_pos rfl] at hk; cases hk
      rw [hBl] at hC; cases hC
      refine ⟨c, t, fr, by rw [hw, hL]; simp, hsz, he, fun _ => hfr, fun o v hv => ?_⟩
      obtain ⟨v', q1, q2⟩ := hc o v hv
      exact ⟨v', q1, q2.mono hle⟩
    · rw [if_neg e] at hk
      rw [hoth k e] at hC
      obtain ⟨c, t, fr, q0, q1, q2, q3, q4⟩ := h.blk k M C hk hC
      refine ⟨c, t, fr, by rw [hold _ (hlt k M C hk hC)]; exact q0, q1, q2, q3, fun o v hv => ?_⟩
      obtain ⟨v', r1, r2⟩ := q4 o v hv
      exact ⟨v', r1, r2.mono hle⟩
  · intro k1 k2 M1 M2 C1 C2 g1 g2 g3 g4 g5 g6
    unfold rset at g1 g2
    by_cases e1 : k1 = b
    · by_cases e2 : k2 = b
      · rw [e1, e2]
      · rw [if_pos e1] at g1; cases g1
        rw [if_neg e2] at g2
        rw [hoth k2 e2] at g4
        have := hlt k2 M2 C2 g2 g4
        omega
    · rw [if_neg e1] at g1
      rw [hoth k1 e1] at g3
      have := hlt k1 M1 C1 g1 g3
      by_cases e2 : k2 = b
      · rw [if_pos e2] at g2; cases g2; omega
      · rw [if_neg e2] at g2
        rw [hoth k2 e2] at g4
        exact h.inj k1 k2 M1 M2 C1 C2 g1 g2 g3 g4 g5 g6
  · intro k hk h0
    have e : k ≠ b := by omega
    exact ⟨by unfold rset; rw [if_neg e]; exact h0, hoth k e⟩
  · intro k M h0 hk
    unfold rset at hk
    by_cases e : k = b
    · rw [if_pos e] at hk; cases hk; exact ⟨by omega, .inl (by omega)⟩
    · rw [if_neg e] at hk; rw [h0] at hk; cases hk
  · intro k M B' hk hB'
    have e : k ≠ b := fun e => by subst e; rw [hb] at hk; cases hk
    rw [hoth k e] at hB'
    exact ⟨B', hB', rfl, rfl⟩
end Go.AM
end TextAhRel
section TextAhMem
/- AM: reading and writing rows of cells, on both sides. -/
namespace Go.AM
set_option linter.unusedVariables false
set_option linter.unusedSimpArgs false

theorem add_at (g o n : Nat) : (⟨g, o, none⟩ : Addr).add n = ⟨g, o + n, none⟩ := by unfold Addr.add; split <;> simp_all
theorem V3.ptr_inv {ρ : Rho} {b o : Nat} {v' : Value} (h : V3 ρ (.pointer (some ⟨b, o, none⟩)) v') : ∃ L, ρ b = some L ∧ v' = .pointer (some ⟨L.blk, o + L.shift, none⟩) := by
  obtain ⟨L, h1, _, h2⟩ := h; exact ⟨L, h1, h2⟩
theorem V3.slice_inv {ρ : Rho} {b o n c : Nat} {v' : Value} (h : V3 ρ (.slice (some ⟨b, o, none⟩) n c) v') : ∃ L o' c' s', ρ b = some L ∧ v' = .slice (some ⟨L.blk, o', s'⟩) n c' ∧
    n ≤ c / 2 ∧ c / 2 ≤ c' ∧ (c % 2 = 1 → c' = c / 2) ∧ (0 < c / 2 → o' = o + L.shift) ∧ o' + c' * L.esz ≤ L.size ∧ (0 < c' → s' = none) := by
  obtain ⟨L, o', c', h1, _, ⟨s', h2, h8⟩, h3, h4, h5, h6, h7⟩ := h; exact ⟨L, o', c', s', h1, h2, h3, h4, h5, h6, h7, h8⟩
theorem V3.nil_inv {ρ : Rho} {n c : Nat} {v' : Value} (h : V3 ρ (.slice none n c) v') : n = 0 ∧ c = 0 ∧ v' = .slice none 0 0 := by
  obtain ⟨h1, h2⟩ := h
  have h1' : (n == 0 && c == 0) = true := h1
  simp only [Bool.and_eq_true, beq_iff_eq] at h1'
  obtain ⟨rfl, rfl⟩ := h1'
  exact ⟨rfl, rfl, h2⟩
theorem V3.int_inv {ρ : Rho} {k : IntKind} {n : Int} {v' : Value} (h : V3 ρ (.int k n) v') : v' = .int k n := h.2
theorem V3.bool_inv {ρ : Rho} {b : Bool} {v' : Value} (h : V3 ρ (.bool b) v') : v' = .bool b := h.2
theorem V3.string_inv {ρ : Rho} {s : ByteArray} {v' : Value} (h : V3 ρ (.string s) v') : v' = .string s := h.2
theorem V3.agg_inv {ρ : Rho} {cs : Array Value} {v' : Value} (h : V3 ρ (.agg cs) v') : ∃ cs', v' = .agg cs' ∧ All2 (V1 ρ) cs.toList cs'.toList := h
theorem V3.tuple_inv {ρ : Rho} {cs : Array Value} {v' : Value} (h : V3 ρ (.tuple cs) v') : ∃ cs', v' = .tuple cs' ∧ All2 (V2 ρ) cs.toList cs'.toList := h
theorem V3.func_inv {ρ : Rho} {f : FuncId} {first cap : Array Value} {v' : Value} (h : V3 ρ (.func (.func f) first cap) v') : first = #[] ∧ ∃ cap', v' = .func (.func f) #[] cap' ∧ All2 (V0 ρ) cap.toList cap'.toList := by
  obtain ⟨_, h1, h2⟩ := h; exact ⟨h1, h2⟩
theorem V3.ptr {ρ : Rho} {b o : Nat} {L : Loc} (h : ρ b = some L) : V3 ρ (ptr b o) (.pointer (some ⟨L.blk, o + L.shift, none⟩)) := ⟨L, h, rfl, rfl⟩
theorem V1.three {ρ : Rho} {v v' : Value} (h : V1 ρ v v') : V3 ρ v v' := h.two.three
theorem V3.cells {ρ : Rho} {v v' : Value} (h : V3 ρ v v') (h1 : v.cells.toList.all Value.oneCell' = true) : All2 (V1 ρ) v.cells.toList v'.cells.toList := by
  cases v
  case tuple vs => simp [Value.cells, Value.oneCell'] at h1
  case pointer a => exact V2.cells (v := .pointer a) h
  case slice a n c => exact V2.cells (v := .slice a n c) h
  case func fn first cap => exact V2.cells (v := .func fn first cap) h
  case agg cs => exact V2.cells (v := .agg cs) h
  case bool b => exact V2.cells (v := .bool b) h
  case int k n => exact V2.cells (v := .int k n) h
  case float k n => exact V2.cells (v := .float k n) h
  case complex k a b => exact V2.cells (v := .complex k a b) h
  case string s => exact V2.cells (v := .string s) h
  case map r => exact V2.cells (v := .map r) h
  case chan r => exact V2.cells (v := .chan r) h
  case nilFunc => exact V2.cells (v := .nilFunc) h
  case iface t v => exact V2.cells (v := .iface t v) h
  case nilIface => exact V2.cells (v := .nilIface) h

/-! ### reading -/
theorem cell_sound {ρ : Rho} {H : Heap} {w : World} (hr : RelH ρ H w) {b o : Nat} {v : Value} (h : H.cell b o = some v) {L : Loc} (hb : ρ b = some L) :
    ∃ v', w.cell? ⟨L.blk, o + L.shift, none⟩ = some v' ∧ V1 ρ v v' := by
  unfold Heap.cell at h
  cases hB : H.blk b with
  | none => rw [hB] at h; cases h
  | some B =>
    rw [hB] at h
    obtain ⟨c, t, fr, h1, _, _, _, h2⟩ := hr.blk b L B hb hB
    obtain ⟨v', h3, h4⟩ := h2 o v h
    exact ⟨v', by simp [World.cell?, h1, h3], h4⟩
theorem row_length {H : Heap} {b : Nat} : ∀ (n o : Nat) {vs : List Value}, H.row b o n = some vs → vs.length = n
  | 0, o, vs, h => by simp [Heap.row] at h; subst h; rfl
  | n + 1, o, vs, h => by
    simp only [Heap.row] at h
    split at h
    · split at h
      · rename_i hr; cases h; simp [row_length n _ hr]
      · cases h
    · cases h
theorem row_get {H : Heap} {b : Nat} : ∀ (n o : Nat) {vs : List Value}, H.row b o n = some vs → ∀ j, j < n → H.cell b (o + j) = vs[j]?
  | 0, o, vs, h, j, hj => by omega
  | n + 1, o, vs, h, j, hj => by
    simp only [Heap.row] at h
    split at h
    · rename_i v hc
      split at h
      · rename_i hr; cases h
        cases j with
        | zero => simpa using hc
        | succ j => have := row_get n _ hr j (by omega); rw [show o + (j + 1) = o + 1 + j by omega, this]; simp
      · cases h
    · cases h
theorem row_of {H : Heap} {b : Nat} : ∀ (n o : Nat) {vs : List Value}, vs.length = n → (∀ j, j < n → H.cell b (o + j) = vs[j]?) → H.row b o n = some vs
  | 0, o, vs, hl, h => by cases vs <;> simp_all [Heap.row]
  | n + 1, o, [], hl, h => by simp at hl
  | n + 1, o, v :: vs, hl, h => by
    have h0 := h 0 (by omega)
    simp only [Heap.row]
    rw [show H.cell b o = some v by simpa using h0, row_of n (o + 1) (vs := vs) (by simpa using hl) (fun j hj => by have := h (j + 1) (by omega); rw [show o + 1 + j = o + (j + 1) by omega, this]; simp)]
theorem row_sound {ρ : Rho} {H : Heap} {w : World} (hr : RelH ρ H w) {b : Nat} {L : Loc} (hb : ρ b = some L) : ∀ (n o : Nat) {vs : List Value}, H.row b o n = some vs →
    ∃ vs', All2 (V1 ρ) vs vs' ∧ vs'.length = n ∧ ∀ j v, vs'[j]? = some v → w.cell? ((⟨L.blk, o + L.shift, none⟩ : Addr).add j) = some v
  | 0, o, vs, h => by simp [Heap.row] at h; subst h; exact ⟨[], trivial, rfl, fun j v h => by simp at h⟩
  | n + 1, o, vs, h => by
    simp only [Heap.row] at h
    split at h
    · rename_i v hc
      split at h
      · rename_i ws hrow; cases h
        obtain ⟨v', h1, h2⟩ := cell_sound hr hc hb
        obtain ⟨vs', h3, h4, h5⟩ := row_sound hr hb n (o + 1) hrow
        refine ⟨v' :: vs', ⟨h2, h3⟩, by simp [h4], fun j u hu => ?_⟩
        cases j with
        | zero => simp at hu; subst hu; rw [add_at]; exact h1
        | succ j =>
          have := h5 j u (by simpa using hu)
          rw [add_at] at this ⊢
          rw [show o + L.shift + (j + 1) = o + 1 + L.shift + j by omega]; exact this
      · cases h
    · cases h
theorem run_row {P : Program} {w : World} {a : Addr} {vs : List Value} {n : Nat} (hl : vs.length = n) (h : ∀ j v, vs[j]? = some v → w.cell? (a.add j) = some v) : (loadCells a n).run P w = .ok vs.toArray w := by
  subst hl; exact run_loadCells_list (P := P) w a vs h

/-! ### writing -/
def putsA (c : Array Value) : Nat → List Value → Array Value
  | _, [] => c
  | o, v :: vs => putsA (c.setIfInBounds o v) (o + 1) vs
theorem putsA_size : ∀ (vs : List Value) (o : Nat) (c : Array Value), (putsA c o vs).size = c.size
  | [], _, _ => rfl
  | v :: vs, o, c => by simp [putsA, putsA_size vs]
theorem putsA_out : ∀ (vs : List Value) (o : Nat) (c : Array Value) (i : Nat), i < o ∨ o + vs.length ≤ i → (putsA c o vs)[i]? = c[i]?
  | [], _, _, _, _ => rfl
  | v :: vs, o, c, i, h => by
    simp only [putsA]
    rw [putsA_out vs (o + 1) _ i (by simp at h; omega), Array.getElem?_setIfInBounds_ne (by simp at h; omega)]
theorem putsA_in : ∀ (vs : List Value) (o : Nat) (c : Array Value) (i : Nat), o + vs.length ≤ c.size → i < vs.length → (putsA c o vs)[o + i]? = vs[i]?
  | [], _, _, _, _, h => by simp at h
  | v :: vs, o, c, 0, hl, h => by
    simp only [putsA]
    rw [putsA_out vs (o + 1) _ (o + 0) (by omega)]
    simp at hl
    simp [Array.getElem?_setIfInBounds_self_of_lt (show o < c.size by omega)]
  | v :: vs, o, c, i + 1, hl, h => by
    simp only [putsA]
    simp at hl h
    have := putsA_in vs (o + 1) (c.setIfInBounds o v) i (by simp; omega) h
    rw [show o + (i + 1) = o + 1 + i by omega, this]; simp
def wput (w : World) (g : Nat) (c : Array Value) (t : TypeId) (fr : Nat × Nat) : World := { w with heap := w.heap.setIfInBounds g (.cells c t fr) }
theorem wput_self {w : World} {g : Nat} {c : Array Value} {t : TypeId} {fr : Nat × Nat} (h : w.heap[g]? = some (.cells c t fr)) : wput w g c t fr = w := by
  unfold wput
  have : w.heap.setIfInBounds g (.cells c t fr) = w.heap := by
    apply Array.ext_getElem?
    intro i
    by_cases e : i = g
    · subst e; rw [Array.getElem?_setIfInBounds_self_of_lt (Array.getElem?_eq_some_iff.1 h).1, h]
    · rw [Array.getElem?_setIfInBounds_ne (by omega)]
  rw [this]
theorem wput_heap {w : World} {g : Nat} {c0 c : Array Value} {t0 t : TypeId} {fr0 fr : Nat × Nat} (h : w.heap[g]? = some (.cells c0 t0 fr0)) : (wput w g c t fr).heap[g]? = some (.cells c t fr) :=
  Array.getElem?_setIfInBounds_self_of_lt (Array.getElem?_eq_some_iff.1 h).1
theorem wput_other {w : World} {g k : Nat} {c : Array Value} {t : TypeId} {fr : Nat × Nat} (h : k ≠ g) : (wput w g c t fr).heap[k]? = w.heap[k]? := Array.getElem?_setIfInBounds_ne (by omega)
theorem wput_wput {w : World} {g : Nat} {c d : Array Value} {t : TypeId} {fr : Nat × Nat} : wput (wput w g c t fr) g d t fr = wput w g d t fr := by
  unfold wput
  congr 1
  apply Array.ext_getElem?
  intro i
  by_cases e : i = g
  · subst e
    by_cases hl : i < w.heap.size
    · rw [Array.getElem?_setIfInBounds_self_of_lt (by simpa using hl), Array.getElem?_setIfInBounds_self_of_lt hl]
    · simp [Array.getElem?_eq_none (Nat.le_of_not_lt hl), Array.getElem?_setIfInBounds, hl]
  · rw [Array.getElem?_setIfInBounds_ne (by omega), Array.getElem?_setIfInBounds_ne (by omega), Array.getElem?_setIfInBounds_ne (by omega)]
theorem setCell_wput {w : World} {g o : Nat} {c : Array Value} {t : TypeId} {fr : Nat × Nat} {v : Value} (h : w.heap[g]? = some (.cells c t fr)) : w.setCell ⟨g, o, none⟩ v = wput w g (c.setIfInBounds o v) t fr := by
  unfold World.setCell wput
  congr 1
  apply Array.ext_getElem?
  intro i
  rw [Array.getElem?_modify]
  by_cases e : g = i
  · subst e
    rw [if_pos rfl, Array.getElem?_setIfInBounds_self_of_lt (Array.getElem?_eq_some_iff.1 h).1, h]; rfl
  · rw [if_neg e, Array.getElem?_setIfInBounds_ne e]
theorem run_store_at {P : Program} {w : World} {g o : Nat} {c : Array Value} {t : TypeId} {fr : Nat × Nat} {v : Value} (h : w.heap[g]? = some (.cells c t fr)) (hf : fr.2 ≤ fr.1 ∨ c.size ≤ fr.1) (hl : o < c.size) (h1 : v.oneCell' = true) :
    (store ⟨g, o, none⟩ v).run P w = .ok () (wput w g (c.setIfInBounds o v) t fr) := by
  have hc : w.cell? ⟨g, o, none⟩ = some c[o] := by simp [World.cell?, h, hl]
  have hz : w.frozen? ⟨g, o, none⟩ = false := by
    obtain ⟨lo, hi⟩ := fr
    simp only at hf
    simp only [World.frozen?, h, Bool.and_eq_false_iff, decide_eq_false_iff_not]
    omega
  rw [run_store P w _ v _ h1, hc]
  simp [hz, setCell_wput h]
theorem run_storeCells_w {P : Program} (g o : Nat) (t : TypeId) (fr : Nat × Nat) : ∀ (vs : List Value) (i : Nat) (c : Array Value) (w : World), w.heap[g]? = some (.cells c t fr) → (fr.2 ≤ fr.1 ∨ c.size ≤ fr.1) → o + i + vs.length ≤ c.size →
    (∀ v ∈ vs, v.oneCell' = true) → (storeCells ⟨g, o, none⟩ vs i).run P w = .ok () (wput w g (putsA c (o + i) vs) t fr)
  | [], i, c, w, h, _, _, _ => by simp only [storeCells, putsA, wput_self h]; rfl
  | v :: vs, i, c, w, h, hf, hl, h1 => by
    simp at hl
    have hs := run_store_at (P := P) (o := o + i) h hf (by omega) (h1 v (by simp))
    have ih := run_storeCells_w (P := P) g o t fr vs (i + 1) (c.setIfInBounds (o + i) v) (wput w g (c.setIfInBounds (o + i) v) t fr) (wput_heap h) (by simpa using hf) (by simp; omega) (fun x hx => h1 x (by simp [hx]))
    simp only [storeCells, add_at, Sem.run_bind, hs, Result.andThen_ok, ih, wput_wput, putsA]
    rfl
theorem puts_out {B : Blk} : ∀ (vs : List Value) (o : Nat) (B : Blk) (i : Nat), i < o ∨ o + vs.length ≤ i → (B.puts o vs).at_ i = B.at_ i
  | [], _, _, _, _ => rfl
  | v :: vs, o, B, i, h => by
    simp only [Blk.puts]
    rw [puts_out (B := B) vs (o + 1) _ i (by simp at h; omega)]
    have : i ≠ o := by simp at h; omega
    simp [Blk.put, this]
theorem puts_in {B : Blk} : ∀ (vs : List Value) (o : Nat) (B : Blk) (i : Nat), i < vs.length → (B.puts o vs).at_ (o + i) = vs[i]?
  | [], _, _, _, h => by simp at h
  | v :: vs, o, B, 0, h => by
    simp only [Blk.puts]
    rw [puts_out (B := B) vs (o + 1) _ (o + 0) (by omega)]
    simp [Blk.put]
  | v :: vs, o, B, i + 1, h => by
    simp only [Blk.puts]
    simp at h
    have := puts_in (B := B) vs (o + 1) (B.put o v) i h
    rw [show o + (i + 1) = o + 1 + i by omega, this]; simp
theorem puts_esz : ∀ (vs : List Value) (o : Nat) (B : Blk), (B.puts o vs).esz = B.esz ∧ (B.puts o vs).ro = B.ro
  | [], _, _ => ⟨rfl, rfl⟩
  | v :: vs, o, B => by simp only [Blk.puts]; have := puts_esz vs (o + 1) (B.put o v); exact this
theorem puts_ty : ∀ (vs : List Value) (o : Nat) (B : Blk), (B.puts o vs).ty = B.ty
  | [], _, _ => rfl
  | v :: vs, o, B => by simp only [Blk.puts]; exact (puts_ty vs (o + 1) (B.put o v)).trans rfl
theorem puts_room : ∀ (vs : List Value) (o : Nat) (B : Blk), (B.puts o vs).room = B.room
  | [], _, _ => rfl
  | v :: vs, o, B => by simp only [Blk.puts]; exact (puts_room vs (o + 1) (B.put o v)).trans rfl
/-- A store where there is room. -/
theorem store_fit {ρ : Rho} {H : Heap} {w : World} (hr : RelH ρ H w) {b o base : Nat} {vs vs' : List Value} {B : Blk} (hB : H.blk b = some B) (hro : B.ro = false) {L : Loc} (hb : ρ b = some L) (hbase : base ≤ H.next) (hv : All2 (V1 ρ) vs vs') (P : Program)
    (hfit0 : o + L.shift + vs.length ≤ L.size) : ∃ w', (storeCells ⟨L.blk, o + L.shift, none⟩ vs').run P w = .ok () w' ∧ Adv base ρ H w ρ (H.set b (some (B.puts o vs))) w' := by
  obtain ⟨c, t, fr, h1, h2, h3, h4, h5⟩ := hr.blk b L B hb hB
  have hlen : vs.length = vs'.length := hv.length
  have hfit : o + L.shift + vs'.length ≤ c.size := by omega
  have hone' : ∀ v ∈ vs', v.oneCell' = true := by
    intro v hv'
    obtain ⟨i, hi, hiv⟩ := List.mem_iff_getElem.1 hv'
    have hi2 : i < vs.length := by omega
    obtain ⟨y, hy, hV⟩ := hv.get (List.getElem?_eq_getElem hi2)
    rw [List.getElem?_eq_getElem hi] at hy
    cases hy
    rw [← hiv]; exact hV.oneCell.2
  have hrun := run_storeCells_w (P := P) L.blk (o + L.shift) t fr vs' 0 c w h1 (h4 hro) (by simpa using hfit) hone'
  refine ⟨_, hrun, ?_⟩
  have hother : ∀ k, k ≠ b → (H.set b (some (B.puts o vs))).blk k = H.blk k := fun k hk => by simp [Heap.set, hk]
  have hself : (H.set b (some (B.puts o vs))).blk b = some (B.puts o vs) := by simp [Heap.set]
  have hpz := puts_esz vs o B
  have hlow : ∀ k M C, ρ k = some M → (H.set b (some (B.puts o vs))).blk k = some C → C.ro = false → gN ≤ M.blk := fun k M C hk hC hro' => by
    by_cases e : k = b
    · subst e; rw [hb] at hk; cases hk; exact hr.low k L B hb hB hro
    · rw [hother k e] at hC; exact hr.low k M C hk hC hro'
  have htyp : ∀ k M C, ρ k = some M → (H.set b (some (B.puts o vs))).blk k = some C → TyAt (wput w L.blk (putsA c (o + L.shift + 0) vs') t fr) M C := fun k M C hk hC => by
    by_cases e : k = b
    · subst e; rw [hb] at hk; cases hk
      rw [hself] at hC; cases hC
      refine ⟨fun T e' he => ?_, fun r he => by rw [puts_room] at he; exact (hr.typ k L B hb hB).2.1 r he, fun g1 g2 => ?_⟩
      rotate_left
      · rw [hpz.2] at g1; rw [hpz.1] at g2
        obtain ⟨c', t', u2⟩ := (hr.typ k L B hb hB).2.2 g1 g2
        rw [h1] at u2; cases u2
        exact ⟨_, _, wput_heap h1⟩
      rw [puts_ty] at he
      obtain ⟨u1, c', u2, u3⟩ := (hr.typ k L B hb hB).1 T e' he
      rw [h1] at u2; cases u2
      exact ⟨u1, _, wput_heap h1, fun q => by rw [putsA_size, hpz.1]; exact u3 q⟩
    · rw [hother k e] at hC
      have hne : M.blk ≠ L.blk := fun he => e (hr.inj b k L M B C hb hk hB hC hro he.symm).symm
      exact (hr.typ k M C hk hC).keep (wput_other hne)
  refine ⟨RhoLe.refl _, ⟨fun k M hk => hr.dom k M hk, ?_, ?_, gStable (fun cb hcb => wput_other (by have := hr.low b L B hb hB hro; omega)) hr.j, hlow, htyp⟩, rfl, rfl, rfl, by simp [wput], ?_, ?_, (fun k M h h' => by rw [h] at h'; cases h'), Nat.le_refl _, ?_⟩
  · intro k M C hk hC
    by_cases e : k = b
    · subst e
      rw [hb] at hk; cases hk
      rw [hself] at hC; cases hC
      refine ⟨putsA c (o + L.shift + 0) vs', t, fr, wput_heap h1, by rw [putsA_size]; exact h2, by rw [hpz.1]; exact h3, fun _ => by rw [putsA_size]; exact h4 hro, fun i v hiv => ?_⟩
      by_cases hin : o ≤ i ∧ i < o + vs.length
      · obtain ⟨j, rfl⟩ : ∃ j, i = o + j := ⟨i - o, by omega⟩
        rw [puts_in (B := B) vs o B j (by omega)] at hiv
        obtain ⟨y, hy, hV⟩ := hv.get hiv
        refine ⟨y, ?_, hV⟩
        rw [show o + j + L.shift = o + L.shift + 0 + j by omega, putsA_in vs' _ c j (by simpa using hfit) (by omega), hy]
      · rw [puts_out (B := B) vs o B i (by omega)] at hiv
        obtain ⟨y, hy, hV⟩ := h5 i v hiv
        exact ⟨y, by rw [putsA_out vs' _ c _ (by omega)]; exact hy, hV⟩
    · rw [hother k e] at hC
      have hne : M.blk ≠ L.blk := fun he => e (hr.inj b k L M B C hb hk hB hC hro he.symm).symm
      obtain ⟨c', t', fr', g1, g2⟩ := hr.blk k M C hk hC
      exact ⟨c', t', fr', by rw [wput_other hne]; exact g1, g2⟩
  · intro k1 k2 M1 M2 C1 C2 g1 g2 g3 g4 g5 g6
    have f : ∀ k C, (H.set b (some (B.puts o vs))).blk k = some C → ∃ C', H.blk k = some C' ∧ C'.ro = C.ro := fun k C hC => by
      by_cases e : k = b
      · subst e; rw [hself] at hC; cases hC; exact ⟨B, hB, hpz.2.symm⟩
      · rw [hother k e] at hC; exact ⟨C, hC, rfl⟩
    obtain ⟨D1, hD1, hr1⟩ := f k1 C1 g3
    obtain ⟨D2, hD2, _⟩ := f k2 C2 g4
    exact hr.inj k1 k2 M1 M2 D1 D2 g1 g2 hD1 hD2 (hr1.trans g5) g6
  · intro cb hcb hno
    exact wput_other (fun e => hno b L B hb hB hro e.symm)
  · intro k hk h0
    refine ⟨h0, hother k fun e => ?_⟩
    subst e; rw [hb] at h0; cases h0
  · intro k M B' hk hB'
    by_cases e : k = b
    · subst e; rw [hself] at hB'; cases hB'; exact ⟨B, hB, hpz.2.symm, hpz.1.symm⟩
    · rw [hother k e] at hB'; exact ⟨B', hB', rfl, rfl⟩
/-- A store, on both sides. -/
theorem store_sound {ρ : Rho} {H H' : Heap} {w : World} (hr : RelH ρ H w) {b o base : Nat} {vs vs' : List Value} (hs : H.store b o vs = some H') {L : Loc} (hb : ρ b = some L) (hbase : base ≤ H.next) (hv : All2 (V1 ρ) vs vs') (P : Program) :
    ∃ w', (storeCells ⟨L.blk, o + L.shift, none⟩ vs').run P w = .ok () w' ∧ Adv base ρ H w ρ H' w' := by
  cases hvs : vs with
  | nil =>
    subst hvs
    obtain rfl := hv.nil_left
    simp only [Heap.store] at hs
    cases hs
    exact ⟨w, rfl, Adv.refl hr⟩
  | cons v0 vt =>

    have hs' : (match H.blk b with
      | some B => if B.ro = false ∧ (H.row b o vs.length).isSome = true ∧ vs.all Value.oneCell' = true then some (H.set b (some (B.puts o vs))) else none
      | none => none) = some H' := by rw [← hs, hvs]; rfl
    cases hB : H.blk b with
    | none => rw [hB] at hs'; cases hs'
    | some B =>
      rw [hB] at hs'
      simp only at hs'
      split at hs'
      · rename_i hcond
        obtain ⟨hro, hrow, hone⟩ := hcond
        cases hs'
        obtain ⟨rs, hrs⟩ := Option.isSome_iff_exists.1 hrow
        obtain ⟨c, t, fr, h1, h2, h3, h4, h5⟩ := hr.blk b L B hb hB
        have hlen : vs.length = vs'.length := hv.length
        have hpos : 0 < vs.length := by rw [hvs]; simp
        have hfit : o + L.shift + vs'.length ≤ c.size := by
          have hlast := row_get _ _ hrs (vs.length - 1) (by omega)
          have hl2 := row_length _ _ hrs
          have : ∃ x, rs[vs.length - 1]? = some x := ⟨_, List.getElem?_eq_getElem (by omega)⟩
          obtain ⟨x, hx⟩ := this
          rw [hx] at hlast
          simp only [Heap.cell, hB] at hlast
          obtain ⟨y, hy, _⟩ := h5 _ _ hlast
          have := (Array.getElem?_eq_some_iff.1 hy).1
          omega
        exact store_fit hr hB hro hb hbase hv P (by omega)
      · cases hs'
theorem storeR_sound {ρ : Rho} {H H' : Heap} {w : World} (hr : RelH ρ H w) {b o base : Nat} {vs vs' : List Value} (hs : H.storeR b o vs = some H') {L : Loc} (hb : ρ b = some L) (hbase : base ≤ H.next) (hv : All2 (V1 ρ) vs vs') (P : Program) :
    ∃ w', (storeCells ⟨L.blk, o + L.shift, none⟩ vs').run P w = .ok () w' ∧ Adv base ρ H w ρ H' w' := by
  unfold Heap.storeR at hs
  split at hs
  · rename_i H1 h1; cases hs; exact store_sound hr h1 hb hbase hv P
  · split at hs
    case h_2 => cases hs
    rename_i B hB
    split at hs
    case h_2 => cases hs
    rename_i r hrm
    split at hs
    case isFalse => cases hs
    rename_i hc
    cases hs
    exact store_fit hr hB hc.1 hb hbase hv P (by have := (hr.typ b L B hb hB).2.1 r hrm; omega)
end Go.AM
end TextAhMem
section TextAhOp1
/- AM: operations that write nothing: what they answer in the model. -/
namespace Go.AM
set_option linter.unusedVariables false
set_option linter.unusedSimpArgs false

structure EnvR (ρ : Rho) (e : Env) (a : Act) (N : Nat) : Prop where
  defers : a.defers = []
  size : a.tmps.size = N
  slot : ∀ t, V3 ρ (e t) (a.tmps.getD t undef)
theorem EnvR.mono {ρ ρ' : Rho} {e : Env} {a : Act} {N : Nat} (h : EnvR ρ e a N) (hl : RhoLe ρ ρ') : EnvR ρ' e a N := ⟨h.defers, h.size, fun t => (h.slot t).mono hl⟩
/-- The operands' values in pairs. -/
def ArgR (ρ : Rho) (e : Env) (f : Operand → Value) : Prop := ∀ x y, cArg x = some y → V3 ρ (ev e y) (f x)
theorem EnvR.arg {ρ : Rho} {e : Env} {a : Act} {N : Nat} (h : EnvR ρ e a N) : ArgR ρ e a.eval := by
  intro x y hc
  cases x with
  | tmp n => simp only [cArg, Option.some.injEq] at hc; subst hc; exact h.slot n
  | const v =>
    simp only [cArg] at hc
    split at hc
    · rename_i hf; cases hc; exact V3.of_flat hf
    · cases hc
  | func f => simp only [cArg, Option.some.injEq] at hc; subst hc; exact V3.of_flat (v := .func (.func f) #[] #[]) rfl
  | global g => cases hc
theorem args_sound {ρ : Rho} {e : Env} {f : Operand → Value} (h : ArgR ρ e f) : ∀ {xs : List Operand} {ys : List Arg}, cArgs xs = some ys → All2 (V3 ρ) (ys.map (ev e)) (xs.map f)
  | [], ys, hc => by cases hc; exact trivial
  | x :: xs, ys, hc => by
    simp only [cArgs] at hc
    split at hc
    · rename_i a l h1 h2; cases hc; exact ⟨h x a h1, args_sound h h2⟩
    · cases hc
section
variable {P : Program} {w : World}
theorem pv_run {α : Type} : ∀ (s : Sem α) {a : α}, pv P s = some a → s.run P w = .ok a w
  | .pure a, _, h => by cases h; rfl
  | .program k, _, h => pv_run (k P) h
  | .mark m k, _, h => pv_run k h
  | .load .., _, h | .store .., _, h | .new .., _, h | .shape .., _, h | .freeze .., _, h | .frozen .., _, h | .getObj .., _, h | .setObj .., _, h | .choose .., _, h | .sys .., _, h | .halt _, _, h => by cases h
theorem run_und {t : TypeId} {d : TypeDesc} (h : P.underlying t = some d) : (underlying t).run P w = .ok d w := by simp [underlying, h]
theorem run_sz {t : TypeId} {n : Nat} (h : szOf P t = some n) : (sizeOf t).run P w = .ok n w := by
  unfold szOf at h
  cases hi : P.info? t with
  | none => rw [hi] at h; cases h
  | some i => rw [hi] at h; cases h; simp [sizeOf, typeInfo, hi]
theorem run_info {t : TypeId} {i : TypeInfo} (h : P.info? t = some i) : (typeInfo t).run P w = .ok i w := by simp [typeInfo, h]
theorem run_agg {t : TypeId} {b : Bool} (h : aggOf P t = some b) : (isAgg t).run P w = .ok b w := by
  unfold aggOf at h
  cases hu : P.underlying t with
  | none => rw [hu] at h; cases h
  | some d =>
    rw [hu] at h
    simp only [isAgg, Sem.run_bind, run_und hu, Result.andThen_ok]
    cases d <;> simp at h <;> subst h <;> rfl
theorem zero_inv {t : TypeId} {z : List Value} (h : zeroOf P t = some z) : ∃ i v, P.info? t = some i ∧ i.zero = some v ∧ v.cells.toList = z ∧ i.size = z.length ∧ z.all flat1 = true ∧ z.all Value.oneCell' = true := by
  unfold zeroOf szOf at h
  cases hi : P.info? t with
  | none => rw [hi] at h; cases h
  | some i =>
    rw [hi] at h
    simp only [Option.bind_some, Option.map_some] at h
    cases hz : i.zero with
    | none => rw [hz] at h; cases h
    | some v =>
      rw [hz] at h
      simp only at h
      split at h
      · rename_i hc; cases h; exact ⟨i, v, rfl, hz, rfl, hc.1.symm, hc.2.1, hc.2.2⟩
      · cases h
theorem run_zero {t : TypeId} {i : TypeInfo} {v : Value} (h : P.info? t = some i) (hz : i.zero = some v) : (zeroValue t).run P w = .ok v w := by simp [zeroValue, run_info h, hz]
theorem szOf_zero {t : TypeId} {z : List Value} (h : zeroOf P t = some z) : szOf P t = some z.length := by
  obtain ⟨i, v, h1, _, _, h2, _⟩ := zero_inv h
  unfold szOf; rw [h1]; simp [h2]

theorem natOf_inv {ρ : Rho} {v v' : Value} {n : Nat} (h : natOf v = some n) (hv : V3 ρ v v') : ∃ k, v' = .int k (n : Int) := by
  cases v <;> simp [natOf] at h
  rename_i k m
  obtain ⟨h0, rfl⟩ := h
  refine ⟨k, ?_⟩
  rw [hv.int_inv, Int.toNat_of_nonneg h0]

theorem part_sound {ρ : Rho} {t : TypeId} {off n : Nat} {b : Bool} {cs cs' : Array Value} {v : Value} (hz : szOf P t = some n) (hb : aggOf P t = some b) (hc : All2 (V1 ρ) cs.toList cs'.toList) (h : partL off n b cs.toList = some v) :
    ∃ v', (part t cs' off).run P w = .ok v' w ∧ V3 ρ v v' := by
  unfold partL at h
  cases b with
  | true =>
    simp only [if_true] at h; cases h
    refine ⟨.agg (cs'.extract off (off + n)), by simp [part, run_agg hb, run_sz hz], ?_⟩
    refine ⟨_, rfl, ?_⟩
    have : (cs'.extract off (off + n)).toList = (cs'.toList.drop off).take n := by simp [Array.toList_extract, List.extract_eq_take_drop]
    rw [this]
    exact (hc.drop off).take n
  | false =>
    simp only [Bool.false_eq_true, if_false] at h
    obtain ⟨v', h1, h2⟩ := hc.get h
    refine ⟨v', ?_, h2.three⟩
    have : cs'[off]? = some v' := by simpa using h1
    simp [part, run_agg hb, this]

theorem eqGuard_any {op : BinOp} {t : TypeId} {x y : Operand} {a b : Value} (h : bothNilIface a b = false) : eqGuard op t x y a b = eqGuard op t (.tmp 0) (.tmp 0) a b := by
  unfold eqGuard
  cases a <;> cases b <;> first | rfl | (simp [bothNilIface] at h)
theorem flat_of2 {a : Value} (f1 : flat2 a = true) : AM.flat a = true := by cases a <;> first | exact f1 | (simp [flat2, flat1] at f1)
theorem flat2_of1 {a : Value} (f1 : flat1 a = true) : flat2 a = true := by cases a <;> first | exact f1 | (simp [flat1] at f1)
theorem flatRes_inv {r : Option Value} {v : Value} (h : flatRes r = some v) : r = some v ∧ flat1 v = true := by
  cases r with
  | none => cases h
  | some u =>
    simp only [flatRes] at h
    split at h
    · rename_i hf; cases h; exact ⟨rfl, hf⟩
    · cases h
theorem run_equal_ptr {t e : TypeId} (hu : P.underlying t = some (.pointer e)) (p : Option Addr) : (Op.equal t (.pointer p) (.pointer none)).run P w = .ok (isNilV (.pointer p)) w := by
  unfold Op.equal Op.maxDepth
  rw [show (10000 : Nat) = 9999 + 1 from rfl, Op.equalIn.eq_2]
  generalize Op.equalIn 9999 = F
  cases p <;> (rw [Sem.run_bind, run_und hu]; rfl)
theorem run_equal_slice {t e : TypeId} (hu : P.underlying t = some (.slice e)) (p : Option Addr) (n c n' c' : Nat) : (Op.equal t (.slice p n c) (.slice none n' c')).run P w = .ok (isNilV (.slice p n c)) w := by
  unfold Op.equal Op.maxDepth
  rw [show (10000 : Nat) = 9999 + 1 from rfl, Op.equalIn.eq_2]
  generalize Op.equalIn 9999 = F
  cases p <;> (rw [Sem.run_bind, run_und hu]; rfl)
theorem run_equal_iface {t tx : TypeId} {ms : Array (String × TypeId)} (hu : P.underlying t = some (.interface ms)) (p : Value) : (Op.equal t (.iface tx p) .nilIface).run P w = .ok false w := by
  unfold Op.equal Op.maxDepth
  rw [show (10000 : Nat) = 9999 + 1 from rfl, Op.equalIn.eq_2]
  generalize Op.equalIn 9999 = F
  rw [Sem.run_bind, run_und hu]; rfl
theorem run_nilcmp {t : TypeId} {op : BinOp} {a y v : Value} {o1 o2 : Operand} (hn : nilSort (P.underlying t) a y = true) (h : nilCmp op (isNilV a) = some v) :
    (do eqGuard op t o1 o2 a y; binOp op t a y : Sem Value).run P w = .ok v w := by
  cases a <;> cases y <;> simp [nilSort] at hn
  case pointer.pointer p q =>
    cases q with
    | some q => simp [nilSort] at hn
    | none =>
      cases hu : P.underlying t with
      | none => rw [hu] at hn; simp at hn
      | some d =>
        rw [hu] at hn
        cases d <;> simp at hn
        cases op <;> simp [nilCmp] at h <;> subst h <;> simp [eqGuard, binOp, run_equal_ptr hu]
  case slice.slice p n c q n' c' =>
    cases q with
    | some q => simp [nilSort] at hn
    | none =>
      cases hu : P.underlying t with
      | none => rw [hu] at hn; simp at hn
      | some d =>
        rw [hu] at hn
        cases d <;> simp at hn
        cases op <;> simp [nilCmp] at h <;> subst h <;> simp [eqGuard, binOp, run_equal_slice hu]
  case iface.nilIface tx p =>
    cases hu : P.underlying t with
    | none => cases p <;> first | (rename_i q; cases q <;> simp [nilSort, hu] at hn) | simp [nilSort, hu] at hn
    | some d =>
      cases d
      case interface ms => cases op <;> simp [nilCmp, isNilV] at h <;> subst h <;> simp [eqGuard, binOp, run_equal_iface hu]
      all_goals (cases p <;> first | (rename_i q; cases q <;> simp [nilSort, hu] at hn) | simp [nilSort, hu] at hn)
theorem nilCmp_flat {op : BinOp} {b : Bool} {v : Value} (h : nilCmp op b = some v) : flat1 v = true := by
  cases op <;> simp [nilCmp] at h <;> subst h <;> rfl
theorem bin_sound {ρ : Rho} {op : BinOp} {t : TypeId} {x y : Operand} {a b a' b' v : Value} (h : binV P op t a b = some v) (ha : V3 ρ a a') (hb : V3 ρ b b') :
    ∃ v', (do eqGuard op t x y a' b'; binOp op t a' b' : Sem Value).run P w = .ok v' w ∧ V3 ρ v v' := by
  unfold binV at h
  by_cases hf : (flat2 a && flat2 b && !bothNilIface a b) = true
  · rw [if_pos hf] at h
    simp only [Bool.and_eq_true, Bool.not_eq_true'] at hf
    obtain ⟨⟨f1, f2⟩, f3⟩ := hf
    obtain rfl := ha.flat (flat_of2 f1)
    obtain rfl := hb.flat (flat_of2 f2)
    obtain ⟨h1, h2⟩ := flatRes_inv h
    rw [eqGuard_any f3]
    exact ⟨v, pv_run _ h1, (V1.of_flat h2).three⟩
  · rw [if_neg hf] at h
    by_cases hn : nilSort (P.underlying t) a b = true
    · rw [if_pos hn] at h
      refine ⟨v, run_nilcmp (a := a') (y := b') ?_ ?_, (V1.of_flat (nilCmp_flat h)).three⟩
      · cases a <;> cases b <;> simp [nilSort] at hn
        case pointer.pointer p q =>
          cases q with
          | some q => simp [nilSort] at hn
          | none =>
            obtain rfl : b' = .pointer none := hb.2
            cases p with
            | none => obtain rfl : a' = .pointer none := ha.2; exact hn
            | some p => obtain ⟨L, _, _, rfl⟩ := ha; exact hn
        case slice.slice p n c q n' c' =>
          cases q with
          | some q => simp [nilSort] at hn
          | none =>
            obtain ⟨rfl, rfl, rfl⟩ := hb.nil_inv
            cases p with
            | none => obtain ⟨rfl, rfl, rfl⟩ := ha.nil_inv; exact hn
            | some p => obtain ⟨L, _, _, _, _, ⟨_, rfl, _⟩, _⟩ := ha; exact hn
        case iface.nilIface tx p =>
          obtain rfl : b' = .nilIface := hb.2
          obtain ⟨q, L, rfl, _, _, rfl⟩ := V0.iface_inv ha
          exact hn
      · have : isNilV a' = isNilV a := by
          cases a <;> cases b <;> simp [nilSort] at hn
          case pointer.pointer p q =>
            cases p with
            | none => obtain rfl : a' = .pointer none := ha.2; rfl
            | some p => obtain ⟨L, _, _, rfl⟩ := ha; rfl
          case slice.slice p n c q n' c' =>
            cases p with
            | none => obtain ⟨rfl, rfl, rfl⟩ := ha.nil_inv; rfl
            | some p => obtain ⟨L, _, _, _, _, ⟨_, rfl, _⟩, _⟩ := ha; rfl
          case iface.nilIface tx p =>
            obtain ⟨q, L, rfl, _, _, rfl⟩ := V0.iface_inv ha
            rfl
        rw [this]; exact h
    · rw [if_neg hn] at h; cases h
theorem run_equal_nils {t : TypeId} {ms : Array (String × TypeId)} (hu : P.underlying t = some (.interface ms)) : (Op.equal t .nilIface .nilIface).run P w = .ok true w := by
  unfold Op.equal Op.maxDepth
  rw [show (10000 : Nat) = 9999 + 1 from rfl, Op.equalIn.eq_2]
  generalize Op.equalIn 9999 = F
  rw [Sem.run_bind, run_und hu]; rfl
theorem litNil_inv {y : Operand} {y' : Arg} (h : cArg y = some y') (hl : litNil y' = true) : ∃ k, y = .const k := by
  cases y <;> simp [cArg] at h
  case const k => exact ⟨k, rfl⟩
  all_goals (subst h; simp [litNil] at hl)
theorem binA_sound {ρ : Rho} {op : BinOp} {t : TypeId} {x y : Operand} {y0 : Arg} {a b a' b' v : Value} (hy : cArg y = some y0) (h : binA P op t a b (litNil y0) = some v) (ha : V3 ρ a a') (hb : V3 ρ b b') :
    ∃ v', (do eqGuard op t x y a' b'; binOp op t a' b' : Sem Value).run P w = .ok v' w ∧ V3 ρ v v' := by
  unfold binA at h
  split at h
  · rename_i hc
    simp only [Bool.and_eq_true] at hc
    obtain ⟨k, rfl⟩ := litNil_inv hy hc.1
    have hn := hc.2
    cases a <;> cases b <;> simp [bothNilIface] at hn
    obtain rfl : a' = .nilIface := ha.2
    obtain rfl : b' = .nilIface := hb.2
    split at h
    · rename_i ms hu
      refine ⟨v, ?_, (V1.of_flat (nilCmp_flat h)).three⟩
      cases op <;> simp [nilCmp] at h <;> subst h <;> simp [eqGuard, binOp, run_equal_nils hu]
    · cases h
  · exact bin_sound h ha hb
/-! ### '==' of structs -/
theorem cellsEq_len : ∀ {ss : List Srt} {xs ys : List Value} {b : Bool}, cellsEq ss xs ys = some b → xs.length = ss.length ∧ ys.length = ss.length
  | [], [], [], _, _ => ⟨rfl, rfl⟩
  | s :: ss, x :: xs, y :: ys, b, h => by
    simp only [cellsEq] at h
    split at h
    · rename_i p q h1 h2; have := cellsEq_len h2; simp [this]
    · cases h
theorem cellsEq_append : ∀ {ss ss' : List Srt} {xs ys : List Value} {b : Bool}, cellsEq (ss ++ ss') xs ys = some b → ∃ b1 b2, cellsEq ss (xs.take ss.length) (ys.take ss.length) = some b1 ∧ cellsEq ss' (xs.drop ss.length) (ys.drop ss.length) = some b2 ∧ b = (b1 && b2)
  | [], ss', xs, ys, b, h => ⟨true, b, rfl, by simpa using h, by simp⟩
  | s :: ss, ss', [], ys, b, h => by cases h
  | s :: ss, ss', x :: xs, [], b, h => by cases h
  | s :: ss, ss', x :: xs, y :: ys, b, h => by
    simp only [List.cons_append, cellsEq] at h
    split at h
    · rename_i p q h1 h2; cases h
      obtain ⟨b1, b2, h3, h4, rfl⟩ := cellsEq_append h2
      refine ⟨p && b1, b2, ?_, by simpa using h4, by rw [Bool.and_assoc]⟩
      simp [cellsEq, h1, h3]
    · cases h
theorem dec_beq_bytes (a b : ByteArray) : (a.toList == b.toList) = decide (a = b) := by
  by_cases h : a = b
  · subst h; simp
  · have : a.toList ≠ b.toList := by
      intro e
      rw [ByteArray.toList_eq, ByteArray.toList_eq] at e
      apply h
      obtain ⟨⟨x⟩⟩ := a
      obtain ⟨⟨y⟩⟩ := b
      have e' : x = y := e
      rw [e']
    simp [h, this]
/-- What stands in a struct's part. -/
def partV (P : Program) (t : TypeId) (cs : List Value) : Option Value := if isStruct P t then some (.agg cs.toArray) else cs[0]?
theorem part_v {t : TypeId} {n off : Nat} {xs : Array Value} {v : Value} (hz : szOf P t = some n) (hg : isStruct P t = true ∨ aggOf P t = some false) (hn : 0 < n ∨ isStruct P t = true) (h : partV P t ((xs.toList.drop off).take n) = some v) : (part t xs off).run P w = .ok v w := by
  unfold partV at h
  by_cases hs : isStruct P t = true
  · rw [if_pos hs] at h
    cases h
    have hag : aggOf P t = some true := by
      unfold isStruct at hs; unfold aggOf
      cases hu : P.underlying t with
      | none => rw [hu] at hs; cases hs
      | some d => rw [hu] at hs; cases d <;> simp at hs; rfl
    have : xs.extract off (off + n) = ((xs.toList.drop off).take n).toArray := by apply Array.ext'; simp [Array.toList_extract, List.extract_eq_take_drop]
    simp [part, run_agg hag, run_sz hz, this]
  · rw [if_neg hs] at h
    have hg' : aggOf P t = some false := hg.resolve_left hs
    have hn' := hn.resolve_right hs
    rw [List.getElem?_take_of_lt hn', List.getElem?_drop] at h
    have : xs[off]? = some v := by simpa using h
    simp [part, run_agg hg', this]
theorem eqT_one {d : Nat} {t : TypeId} {ss : List Srt} (h : eqT P d t = some ss) : isStruct P t = true ∨ (aggOf P t = some false ∧ ∃ s, ss = [s]) := by
  cases d with
  | zero => cases h
  | succ d =>
    simp only [eqT] at h
    unfold isStruct aggOf
    cases hu : P.underlying t with
    | none => rw [hu] at h; cases h
    | some ds =>
      rw [hu] at h
      cases ds <;> simp only at h <;> try (cases h; done)
      case bool => cases h; exact .inr ⟨rfl, _, rfl⟩
      case int k => cases h; exact .inr ⟨rfl, _, rfl⟩
      case string => cases h; exact .inr ⟨rfl, _, rfl⟩
      case struct => exact .inl rfl
theorem eq_sound : ∀ (d D : Nat) (t : TypeId) {ss : List Srt} {cx cy : List Value} {x y : Value} {b : Bool}, d ≤ D → eqT P d t = some ss → partV P t cx = some x → partV P t cy = some y → cellsEq ss cx cy = some b → (Op.equalIn D t x y).run P w = .ok b w
  | 0, _, _, _, _, _, _, _, _, _, h, _, _, _ => by cases h
  | d + 1, 0, _, _, _, _, _, _, _, hD, _, _, _, _ => by omega
  | d + 1, D + 1, t, ss, cx, cy, x, y, b, hD, h, hx, hy, hb => by
    simp only [eqT] at h
    cases hu : P.underlying t with
    | none => rw [hu] at h; cases h
    | some ds =>
      rw [hu] at h
      have basic : ∀ s, isStruct P t = false → ss = [s] → ∃ r, cellEq s x y = some r ∧ b = r := by
        intro s hs e
        subst e
        cases cx with
        | nil => cases hb
        | cons u cx =>
          cases cy with
          | nil => cases hb
          | cons v cy =>
            simp [partV, hs] at hx hy
            subst hx hy
            simp only [cellsEq] at hb
            split at hb
            · rename_i p q h1 h2
              cases hb
              have := cellsEq_len h2
              simp at this
              obtain ⟨rfl, rfl⟩ := this
              cases h2
              exact ⟨p, h1, by simp⟩
            · cases hb
      cases ds <;> simp only at h <;> try (cases h; done)
      case bool =>
        obtain ⟨r, h1, rfl⟩ := basic .flag (by simp [isStruct, hu]) (by simpa using h.symm)
        cases x <;> cases y <;> simp [cellEq] at h1
        rw [run_equalIn_bool' w D t _ _ hu, ← h1]; rfl
      case int k =>
        obtain ⟨r, h1, rfl⟩ := basic (.num k) (by simp [isStruct, hu]) (by simpa using h.symm)
        cases x <;> cases y <;> simp [cellEq] at h1
        obtain ⟨⟨rfl, rfl⟩, h2⟩ := h1
        rw [run_equalIn_int w D t _ _ _ _ hu, ← h2]; rfl
      case string =>
        obtain ⟨r, h1, rfl⟩ := basic .txt (by simp [isStruct, hu]) (by simpa using h.symm)
        cases x <;> cases y <;> simp [cellEq] at h1
        rw [run_equalIn_string w D t _ _ hu, ← h1, dec_beq_bytes]
      case struct fs =>
        split at h
        case isTrue => cases h
        rename_i hst
        have hst' : P.stoodInHeld t = false := by simpa using hst
        have hs : isStruct P t = true := by simp [isStruct, hu]
        simp only [partV, hs, if_true, Option.some.injEq] at hx hy
        subst hx hy
        have hf : P.fieldsOf t = fs := by simp [Program.fieldsOf, hu]
        rw [run_equalIn_struct w D t _ _ (by rw [hf]; exact hu) hst', hf]
        have key : ∀ (l : List Field) (off : Nat) {ss : List Srt} {b : Bool}, eqFs P (eqT P d) l off = some ss → cellsEq ss (cx.drop off) (cy.drop off) = some b → (Op.eqFields D cx.toArray cy.toArray l).run P w = .ok b w := by
          intro l
          induction l with
          | nil => intro off ss b h1 h2; cases h1
                   cases hcx : cx.drop off <;> cases hcy : cy.drop off <;> rw [hcx, hcy] at h2 <;> cases h2
                   simp [Op.eqFields]
          | cons f l ih =>
            intro off ss b h1 h2
            simp only [eqFs] at h1
            split at h1
            case isTrue => cases h1
            rename_i hname
            split at h1
            case h_2 => cases h1
            rename_i sl m g1 g2
            split at h1
            case isFalse => cases h1
            rename_i hcond
            obtain ⟨rfl, rfl⟩ := hcond
            split at h1
            case h_2 => cases h1
            rename_i rs g3
            cases h1
            obtain ⟨b1, b2, q1, q2, rfl⟩ := cellsEq_append h2
            rw [List.drop_drop] at q2
            rw [List.drop_drop] at q2
            have ihr := ih _ g3 q2
            have hlen := cellsEq_len q1
            have one := eqT_one g1
            have hpos : 0 < sl.length ∨ isStruct P f.type = true := by
              rcases one with h | ⟨_, s, rfl⟩
              · exact .inr h
              · exact .inl (by simp)
            have hpart : ∀ c : List Value, (c.drop f.offset |>.take sl.length).length = sl.length → ∃ v, partV P f.type ((c.drop f.offset).take sl.length) = some v := by
              intro c hc
              unfold partV
              by_cases hsf : isStruct P f.type = true
              · rw [if_pos hsf]; exact ⟨_, rfl⟩
              · rw [if_neg hsf]
                have := hpos.resolve_right hsf
                exact ⟨_, List.getElem?_eq_getElem (by omega)⟩
            obtain ⟨vx, hvx⟩ := hpart cx hlen.1
            obtain ⟨vy, hvy⟩ := hpart cy hlen.2
            have px := part_v (P := P) (w := w) (xs := cx.toArray) g2 (one.imp id (·.1)) hpos hvx
            have py := part_v (P := P) (w := w) (xs := cy.toArray) g2 (one.imp id (·.1)) hpos hvy
            have he := eq_sound d D f.type (by omega) g1 hvx hvy q1
            simp only [Op.eqFields, if_pos hname, Sem.run_bind, px, py, he, Result.andThen_ok]
            cases b1
            · simp
            · simpa using ihr
        exact key fs.toList 0 h (by simpa using hb)
theorem eqa_sound {ρ : Rho} {neg : Bool} {ss : List Srt} {t : TypeId} {x y : Operand} {xs ys : Array Value} {a' b' : Value} {b : Bool} (hs : isStruct P t = true) (hg : P.eqGuardType P.depth t = false) (ht : eqT P 8 t = some ss) (ha : V3 ρ (.agg xs) a') (hb : V3 ρ (.agg ys) b')
    (h : cellsEq ss xs.toList ys.toList = some b) : (do eqGuard (if neg then .neq else .eql) t x y a' b'; binOp (if neg then .neq else .eql) t a' b' : Sem Value).run P w = .ok (.bool (b != neg)) w := by
  have flat : ∀ (ss : List Srt) (xs ys : List Value) (b : Bool), cellsEq ss xs ys = some b → xs.all flat1 = true ∧ ys.all flat1 = true := by
    intro ss
    induction ss with
    | nil => intro xs ys b h; cases xs <;> cases ys <;> first | (cases h; done) | exact ⟨rfl, rfl⟩
    | cons s ss ih =>
      intro xs ys b h
      cases xs with
      | nil => cases h
      | cons x xs =>
        cases ys with
        | nil => cases h
        | cons y ys =>
          simp only [cellsEq] at h
          split at h
          · rename_i p q h1 h2
            obtain ⟨i1, i2⟩ := ih _ _ _ h2
            have : flat1 x = true ∧ flat1 y = true := by
              cases s <;> cases x <;> cases y <;> simp [cellEq] at h1 <;> exact ⟨rfl, rfl⟩
            simp [this.1, this.2, i1, i2]
          · cases h
  obtain ⟨f1, f2⟩ := flat _ _ _ _ h
  obtain rfl := ha.flat (show AM.flat (.agg xs) = true from f1)
  obtain rfl := hb.flat (show AM.flat (.agg ys) = true from f2)
  have he : (Op.equal t (.agg xs) (.agg ys)).run P w = .ok b w := by
    unfold Op.equal
    have hp : ∀ zs : Array Value, partV P t zs.toList = some (.agg zs) := fun zs => by simp [partV, hs]
    exact eq_sound 8 Op.maxDepth t (by unfold Op.maxDepth; omega) ht (hp xs) (hp ys) h
  cases neg <;> simp [eqGuard, binOp, hg, he]
end
end Go.AM
end TextAhOp1
section TextAhOp2
/- AM: operations that write nothing and make nothing: one by one. -/
namespace Go.AM
set_option linter.unusedVariables false
set_option linter.unusedSimpArgs false
section
variable {P : Program} {w : World}
theorem capt_sound {ρ : Rho} : ∀ {vs vs' : List Value}, All2 (V3 ρ) vs vs' → vs.all capt = true → All2 (V0 ρ) vs vs'
  | [], [], _, _ => trivial
  | v :: vs, v' :: vs', h, hc => by
    simp only [List.all_cons, Bool.and_eq_true] at hc
    refine ⟨?_, capt_sound h.2 hc.2⟩
    have h1 := h.1
    have hv := hc.1
    cases v
    case pointer a =>
      cases a with
      | none => exact h1
      | some a => exact h1
    case slice a n c =>
      cases a with
      | none => exact h1
      | some a => exact h1
    case func fn first cap =>
      have := V1.flat (ρ := ρ) (v := .func fn first cap) (v' := v') hv h1
      rw [this]; exact V0.of_flat hv
    case agg cs => simp [capt, flat1] at hv
    case tuple cs => simp [capt, flat1] at hv
    all_goals exact h1
theorem cArgs_get : ∀ {xs : List Operand} {ys : List Arg}, cArgs xs = some ys → xs.length = ys.length
  | [], ys, h => by cases h; rfl
  | x :: xs, ys, h => by
    simp only [cArgs] at h
    split at h
    · rename_i a l h1 h2; cases h; simp [cArgs_get h2]
    · cases h
def bndS (d y : Nat) (code : BoundsCode) : Option Value → Sem Nat
  | some v => Instr.sliceBound v y code
  | none => pure d
theorem bounds_two (isS : Bool) (len cap : Nat) (lo hi : Option Value) : Instr.sliceBounds isS len cap lo hi none =
    (do let h ← bndS len cap (if isS then .sliceAcap else .sliceAlen) hi; let l ← bndS 0 h .sliceB lo; pure (l, h, cap)) := by
  unfold Instr.sliceBounds
  cases hi <;> cases lo <;> rfl
theorem bounds_three (isS : Bool) (len cap : Nat) (lo : Option Value) (hi mx : Value) : Instr.sliceBounds isS len cap lo (some hi) (some mx) =
    (do let m ← Instr.sliceBound mx cap (if isS then .slice3Acap else .slice3Alen); let h ← Instr.sliceBound hi m .slice3B; let l ← bndS 0 h .slice3C lo; pure (l, h, m)) := by
  unfold Instr.sliceBounds
  cases lo <;> rfl
theorem ptr_of {ρ : Rho} {v v' : Value} {b o : Nat} (hv : V3 ρ v v') (h : v = .pointer (some ⟨b, o, none⟩)) : ∃ L, ρ b = some L ∧ v' = .pointer (some ⟨L.blk, o + L.shift, none⟩) := by
  subst h; exact hv.ptr_inv

theorem ld_sound {ρ : Rho} {H : Heap} (hr : RelH ρ H w) {t : TypeId} {b o n : Nat} {g : Bool} {v : Value} {L : Loc} (hb : ρ b = some L) (hz : szOf P t = some n) (hg : aggOf P t = some g)
    (h : (if g then (H.row b o n).map (fun vs => Value.agg vs.toArray) else H.cell b o) = some v) : ∃ v', (Instr.loadAt t (.pointer (some ⟨L.blk, o + L.shift, none⟩))).run P w = .ok v' w ∧ V3 ρ v v' := by
  cases g with
  | true =>
    simp only [if_true] at h
    cases hrow : H.row b o n with
    | none => rw [hrow] at h; cases h
    | some vs =>
      rw [hrow] at h; cases h
      obtain ⟨vs', h1, h2, h3⟩ := row_sound hr hb n o hrow
      refine ⟨.agg vs'.toArray, ?_, ⟨_, rfl, by simpa using h1⟩⟩
      simp [Instr.loadAt, Instr.sureAddr, loadVar, run_agg hg, run_sz hz, run_row h2 h3]
  | false =>
    simp only [Bool.false_eq_true, if_false] at h
    obtain ⟨v', h1, h2⟩ := cell_sound hr h hb
    exact ⟨v', by simp [Instr.loadAt, Instr.sureAddr, loadVar, run_agg hg, h1], h2.three⟩

theorem bytesRow_inv : ∀ {vs : List Value} {l : List UInt8}, bytesOfRow vs = some l → ∃ ns : List Int, vs = ns.map (Value.int .u8) ∧ l = ns.map fun n => UInt8.ofNat n.toNat
  | [], l, h => by cases h; exact ⟨[], rfl, rfl⟩
  | v :: vs, l, h => by
    cases v
    case int k n =>
      cases k
      case u8 =>
        simp only [bytesOfRow] at h
        split at h
        · rename_i l' h'; cases h
          obtain ⟨ns, rfl, rfl⟩ := bytesRow_inv h'
          exact ⟨n :: ns, rfl, rfl⟩
        · cases h
      all_goals cases h
    all_goals cases h
theorem foldl_push : ∀ (ns : List Int) (s : ByteArray), ns.foldl (fun r n => r.push (UInt8.ofNat n.toNat)) s = ⟨s.data ++ (ns.map fun n => UInt8.ofNat n.toNat).toArray⟩
  | [], s => by cases s; simp
  | n :: ns, s => by
    simp only [List.foldl_cons, foldl_push ns]
    congr 1
    simp [ByteArray.push]
theorem b2s_sound {ρ : Rho} {H : Heap} (hr : RelH ρ H w) {b o n : Nat} {c' : Nat} {vs : List Value} {l : List UInt8} {L : Loc} {o' : Nat} {s' : Option Nat} (hb : ρ b = some L) (hrow : H.row b o n = some vs) (hl : bytesOfRow vs = some l) (ho : 0 < n → o' = o + L.shift) (hs : 0 < n → s' = none) :
    (Conv.bytesToString (.slice (some ⟨L.blk, o', s'⟩) n c')).run P w = .ok (.string ⟨l.toArray⟩) w := by
  obtain ⟨ns, rfl, rfl⟩ := bytesRow_inv hl
  clear hl
  obtain ⟨vs', h1, h2, h3⟩ := row_sound hr hb n o hrow
  have hvs : vs' = ns.map (Value.int .u8) := h1.eq_of fun a b ha hab => by
    obtain ⟨m, _, rfl⟩ := List.mem_map.1 ha
    exact V1.flat rfl hab
  subst hvs
  have hrun : (loadCells ⟨L.blk, o', s'⟩ n).run P w = .ok (ns.map (Value.int .u8)).toArray w := by
    by_cases h0 : 0 < n
    · rw [ho h0, hs h0]; exact run_row h2 h3
    · obtain rfl : n = 0 := by omega
      have : ns = [] := by simpa using h2
      subst this; rfl
  rw [run_bytesToString w _ n c' ns hrun, foldl_push]
  simp

theorem bound_sound {ρ : Rho} {d y n : Nat} {lo lo' : Option Value} {code : BoundsCode} (h : bound d lo = some n) (hl : ∀ v, lo = some v → ∃ v', lo' = some v' ∧ V3 ρ v v') (hn : lo = none → lo' = none) (hy : n ≤ y) :
    (bndS d y code lo').run P w = .ok n w := by
  cases lo with
  | none => rw [hn rfl]; cases h; rfl
  | some v =>
    obtain ⟨v', rfl, hv⟩ := hl v rfl
    obtain ⟨k, rfl⟩ := natOf_inv h hv
    simp only [bndS, Instr.sliceBound, asIntOf, Sem.run_bind, Sem.run_pure, Result.andThen_ok]
    rw [if_pos ⟨by omega, by omega⟩]
    simp
theorem opt_sound {ρ : Rho} {e : Env} {f : Operand → Value} (ha : ArgR ρ e f) {x : Option Operand} {y : Option Arg} (h : cOpt x = some y) :
    (∀ v, y.map (ev e) = some v → ∃ v', x.map f = some v' ∧ V3 ρ v v') ∧ (y.map (ev e) = none → x.map f = none) ∧ (y.isSome = x.isSome) := by
  cases x with
  | none => cases h; exact ⟨(fun v h => by cases h), (fun _ => rfl), rfl⟩
  | some x =>
    simp only [cOpt] at h
    split at h
    · rename_i a h1; cases h
      exact ⟨(fun v hv => by cases hv; exact ⟨_, rfl, ha _ _ h1⟩), (fun h => by cases h), rfl⟩
    · cases h
theorem sls_sound {ρ : Rho} {s : ByteArray} {lo hi lo' hi' : Option Value} {v : Value} {t : TypeId} (hu : P.underlying t = some .string) (h : slsV s lo hi = some v)
    (hl : ∀ v, lo = some v → ∃ v', lo' = some v' ∧ V3 ρ v v') (hln : lo = none → lo' = none) (hh : ∀ v, hi = some v → ∃ v', hi' = some v' ∧ V3 ρ v v') (hhn : hi = none → hi' = none) :
    (Instr.sliceAt t (.string s) lo' hi' none).run P w = .ok v w := by
  unfold slsV at h
  split at h
  · rename_i hn e1
    split at h
    · rename_i ln e2
      split at h
      · rename_i hc; cases h
        have r1 := bound_sound (P := P) (w := w) (d := s.size) (y := s.size) (code := .sliceAlen) e1 hh hhn hc.2
        have r2 := bound_sound (P := P) (w := w) (d := 0) (y := hn) (code := .sliceB) e2 hl hln hc.1
        unfold Instr.sliceAt
        rw [Sem.run_bind, run_und hu]
        simp only [Result.andThen_ok]
        unfold Instr.slice
        rw [Sem.run_bind, run_und hu]
        simp only [Result.andThen_ok, Option.isSome_none, Bool.false_eq_true, if_false, bounds_two, Sem.run_bind, r1, r2, Sem.run_pure]
      · cases h
    · cases h
  · cases h
theorem eszIs_inv {ρ : Rho} {H : Heap} (hr : RelH ρ H w) {b n : Nat} {L : Loc} (hb : ρ b = some L) (h : H.eszIs b n = true) : L.esz = n := by
  unfold Heap.eszIs at h
  cases hB : H.blk b with
  | none => rw [hB] at h; cases h
  | some B =>
    rw [hB] at h
    obtain ⟨_, _, _, _, _, h3, _⟩ := hr.blk b L B hb hB
    rw [h3]; simpa using h
theorem slv_sound {ρ : Rho} {H : Heap} (hr : RelH ρ H w) {esz : Nat} {x x' v : Value} {lo hi mx lo' hi' mx' : Option Value} {t el : TypeId} (hu : P.underlying t = some (.slice el)) (hz : szOf P el = some esz) (h : slvV H esz x lo hi mx = some v) (hx : V3 ρ x x')
    (hl : ∀ v, lo = some v → ∃ v', lo' = some v' ∧ V3 ρ v v') (hln : lo = none → lo' = none) (hh : ∀ v, hi = some v → ∃ v', hi' = some v' ∧ V3 ρ v v') (hhn : hi = none → hi' = none)
    (hm : ∀ v, mx = some v → ∃ v', mx' = some v' ∧ V3 ρ v v') (hmn : mx = none → mx' = none) :
    ∃ v', (Instr.sliceAt t x' lo' hi' mx').run P w = .ok v' w ∧ V3 ρ v v' := by
  unfold slvV at h
  split at h
  case h_2 => cases h
  rename_i a n c
  split at h
  case h_2 => cases h
  rename_i m0 e0
  split at h
  case h_2 => cases h
  rename_i hv e1
  split at h
  case h_2 => cases h
  rename_i lv e2
  split at h
  case isFalse => cases h
  rename_i hc
  obtain ⟨c1, c2, c3, c4⟩ := hc
  have key : ∃ a' c', x' = .slice a' n c' ∧ c / 2 ≤ c' ∧ (c % 2 = 1 → c' = c / 2) ∧ ∀ m, (mx = none → m = c') → (mx.isSome = true → m = m0) → V3 ρ v (.slice (if m = lv then a' else a'.map (·.add (lv * esz))) (hv - lv) (m - lv)) := by
    cases a with
    | none =>
      obtain ⟨rfl, rfl, rfl⟩ := hx.nil_inv
      simp only [Option.some.injEq] at h
      subst h
      refine ⟨none, 0, rfl, Nat.le_refl _, fun _ => rfl, fun m h1 h2 => ?_⟩
      have hm0 : m = 0 := by
        cases mx with
        | none => exact h1 rfl
        | some _ => have := h2 rfl; omega
      subst hm0
      obtain rfl : lv = 0 := by omega
      obtain rfl : hv = 0 := by omega
      exact ⟨rfl, rfl⟩
    | some ad =>
      obtain ⟨b, o, sp⟩ := ad
      cases sp with
      | some sp => cases h
      | none =>
        simp only at h
        split at h
        case isFalse => cases h
        rename_i hes
        cases h
        obtain ⟨L, o', c', s', h1, rfl, h2, h3, h4, h5, h6, h8⟩ := hx.slice_inv
        refine ⟨_, c', rfl, h3, h4, fun m g1 g2 => ?_⟩
        have hmge : m0 ≤ m ∧ m ≤ c' ∧ ((if mx.isSome then 1 else c % 2) = 1 → m = m0) := by
          cases mx with
          | none =>
            obtain rfl := g1 rfl
            have e0' : m0 = c / 2 := by simpa [bound] using e0.symm
            refine ⟨by omega, by omega, fun q => ?_⟩
            have : c % 2 = 1 := by simpa using q
            rw [h4 this, e0']
          | some y => obtain rfl := g2 rfl; exact ⟨by omega, by omega, fun _ => rfl⟩
        have hx1 : (if mx.isSome then 1 else c % 2) ≤ 1 := by split <;> omega
        generalize hxe : (if mx.isSome then 1 else c % 2) = xx at hx1 hmge
        have hdiv : (2 * (m0 - lv) + xx) / 2 = m0 - lv := by omega
        have hmod : (2 * (m0 - lv) + xx) % 2 = xx := by omega
        have hbd : ∀ q, lv + q ≤ c' → o' + lv * esz + q * L.esz ≤ L.size := by
          intro q hq
          simp only [Bool.or_eq_true, beq_iff_eq] at hes
          rcases hes with hes | hes
          · subst hes
            have : q * L.esz ≤ c' * L.esz := Nat.mul_le_mul_right _ (by omega)
            omega
          · have := eszIs_inv hr h1 hes
            have h7 : (lv + q) * L.esz ≤ c' * L.esz := Nat.mul_le_mul_right _ hq
            rw [Nat.add_mul] at h7
            rw [← this]; omega
        by_cases hml : m = lv
        · rw [if_pos hml]
          refine ⟨L, o', m - lv, h1, rfl, ⟨s', rfl, fun h => by omega⟩, ?_, ?_, ?_, ?_, ?_⟩
          · rw [hdiv]; omega
          · rw [hdiv]; omega
          · rw [hmod, hdiv]; intro q; have := hmge.2.2 q; omega
          · rw [hdiv]; intro q; omega
          · have : m - lv = 0 := by omega
            rw [this]
            have : o' ≤ o' + c' * L.esz := by omega
            omega
        · rw [if_neg hml]
          obtain rfl : s' = none := h8 (by omega)
          refine ⟨L, o' + lv * esz, m - lv, h1, rfl, ⟨none, by simp [add_at], fun _ => rfl⟩, ?_, ?_, ?_, ?_, ?_⟩
          · rw [hdiv]; omega
          · rw [hdiv]; omega
          · rw [hmod, hdiv]; intro q; have := hmge.2.2 q; omega
          · rw [hdiv]; intro q
            have := h5 (by omega)
            simp only; omega
          · exact hbd _ (by omega)
  obtain ⟨a', c', rfl, hcc, hex, hfin⟩ := key
  have hrun : ∃ m, (mx = none → m = c') ∧ (mx.isSome = true → m = m0) ∧ (Instr.sliceBounds true n c' lo' hi' mx').run P w = .ok (lv, hv, m) w := by
    cases mx with
    | none =>
      have e0' : m0 = c / 2 := by simpa [bound] using e0.symm
      rw [hmn rfl]
      refine ⟨c', fun _ => rfl, fun h => by (cases h), ?_⟩
      have r1 := bound_sound (P := P) (w := w) (d := n) (y := c') (code := .sliceAcap) e1 hh hhn (by omega)
      have r2 := bound_sound (P := P) (w := w) (d := 0) (y := hv) (code := .sliceB) e2 hl hln c1
      simp only [bounds_two, Sem.run_bind, if_true, r1, r2, Result.andThen_ok, Sem.run_pure]
    | some y =>
      obtain ⟨y', rfl, hy⟩ := hm y rfl
      have hih := c4 rfl
      cases hi with
      | none => cases hih
      | some z =>
        obtain ⟨z', rfl, hz'⟩ := hh z rfl
        refine ⟨m0, fun h => by (cases h), fun _ => rfl, ?_⟩
        have r0 := bound_sound (P := P) (w := w) (d := 0) (y := c') (code := .slice3Acap) (lo := some y) (lo' := some y') e0 (fun v hv => by cases hv; exact ⟨y', rfl, hy⟩) (fun h => by cases h) (by omega)
        have r1 := bound_sound (P := P) (w := w) (d := 0) (y := m0) (code := .slice3B) (lo := some z) (lo' := some z') e1 (fun v hv => by cases hv; exact ⟨z', rfl, hz'⟩) (fun h => by cases h) c2
        have r2 := bound_sound (P := P) (w := w) (d := 0) (y := hv) (code := .slice3C) e2 hl hln c1
        simp only [bndS] at r0 r1
        simp only [bounds_three, Sem.run_bind, if_true, r0, r1, r2, Result.andThen_ok, Sem.run_pure]
  obtain ⟨m, g1, g2, hrun⟩ := hrun
  refine ⟨_, ?_, hfin m g1 g2⟩
  unfold Instr.sliceAt
  rw [Sem.run_bind, run_und hu]
  simp only [Result.andThen_ok]
  unfold Instr.slice
  rw [Sem.run_bind, run_und hu]
  simp only [Result.andThen_ok, Sem.run_bind, hrun, run_sz hz, Sem.run_pure]
end
end Go.AM
end TextAhOp2
section TextAhOp3
/- AM: literals; then all operations that write nothing and make nothing. -/
namespace Go.AM
set_option linter.unusedVariables false
set_option linter.unusedSimpArgs false
section
variable {P : Program} {w : World}
theorem foldl_puts (off : Nat) : ∀ (vs : List Value) (k : Nat) (cs : Array Value), (vs.zipIdx k).foldl (fun cs (p : Value × Nat) => cs.setIfInBounds (off + p.2) p.1) cs = putsA cs (off + k) vs
  | [], _, _ => rfl
  | v :: vs, k, cs => by
    simp only [List.zipIdx_cons, List.foldl_cons, putsA]
    exact foldl_puts off vs (k + 1) _
theorem putsA_list (vs : List Value) (o : Nat) (c : Array Value) (h : o + vs.length ≤ c.size) : (putsA c o vs).toList = c.toList.take o ++ vs ++ c.toList.drop (o + vs.length) := by
  apply List.ext_getElem?
  intro i
  have hs : (c.toList.take o).length = o := by simp; omega
  rw [Array.getElem?_toList]
  by_cases h1 : i < o
  · rw [putsA_out vs o c i (.inl h1), List.append_assoc, List.getElem?_append_left (by omega), List.getElem?_take_of_lt h1, Array.getElem?_toList]
  · by_cases h2 : i < o + vs.length
    · obtain ⟨j, rfl⟩ : ∃ j, i = o + j := ⟨i - o, by omega⟩
      rw [putsA_in vs o c j h (by omega), List.append_assoc, List.getElem?_append_right (by omega), hs, List.getElem?_append_left (by omega)]
      congr 1; omega
    · rw [putsA_out vs o c i (.inr (by omega)), List.getElem?_append_right (by simp; omega), List.getElem?_drop, Array.getElem?_toList]
      congr 1; simp; omega
theorem fill_sound {ρ : Rho} {e : Env} {f : Operand → Value} (ha : ArgR ρ e f) {pl : Nat → Option (Nat × Nat)} : ∀ (parts : List (Nat × Operand)) {ps : List (Nat × Nat × Arg)} {cs r : List Value} {cs' : Array Value}, cParts pl parts = some ps →
    fillL cs (ps.map fun p => (p.1, p.2.1, ev e p.2.2)) = some r → All2 (V1 ρ) cs cs'.toList →
    ∃ r', Instr.fill pl cs' (parts.map fun p => (p.1, f p.2)) = some r' ∧ All2 (V1 ρ) r r'.toList
  | [], ps, cs, r, cs', hp, hf, hc => by
    cases hp
    simp only [List.map_nil, fillL, Option.some.injEq] at hf
    subst hf
    exact ⟨cs', rfl, hc⟩
  | (i, x) :: parts, ps, cs, r, cs', hp, hf, hc => by
    simp only [cParts] at hp
    split at hp
    case h_2 => cases hp
    rename_i o n a l e1 e2 e3
    cases hp
    simp only [List.map_cons, fillL] at hf
    split at hf
    case isFalse => cases hf
    rename_i hcond
    obtain ⟨g1, g2, hone⟩ := hcond
    have hv : All2 (V1 ρ) (ev e a).cells.toList (f x).cells.toList := (ha x a e2).cells hone
    have hl := hv.length
    have hcl := hc.length
    have hsz : (f x).cells.size = n := by rw [← Array.length_toList]; omega
    have hcs : cs'.size = cs.length := by rw [← Array.length_toList]; omega
    simp only [List.map_cons, Instr.fill, e1]
    have hno : ¬ ((decide ((f x).cells.size ≠ n) || decide (o + (f x).cells.size > cs'.size)) = true) := by simp [hsz]; omega
    rw [if_neg hno]
    have hfold : ((f x).cells.zipIdx.foldl (fun cs (p : Value × Nat) => cs.setIfInBounds (o + p.2) p.1) cs') = putsA cs' o (f x).cells.toList := by
      rw [← Array.foldl_toList]
      have := foldl_puts o (f x).cells.toList 0 cs'
      simpa using this
    refine fill_sound ha parts (cs := cs.take o ++ (ev e a).cells.toList ++ cs.drop (o + n)) e3 hf ?_
    have h3 := putsA_list (f x).cells.toList o cs' (by simp; omega)
    have h4 : (Array.foldl (fun cs x_1 => match x_1 with | (c, j) => cs.setIfInBounds (o + j) c) cs' (f x).cells.zipIdx).toList = cs'.toList.take o ++ (f x).cells.toList ++ cs'.toList.drop (o + n) := by
      rw [← hsz]
      rw [Array.length_toList] at h3
      rw [← h3, ← hfold]
    rw [h4]
    exact (((hc.take o).append hv).append (hc.drop (o + n)))
theorem places_sound : ∀ (fs : List Field) {l : List (Nat × Nat)}, places P fs = some l → (fs.mapM fun f => (do pure (f.offset, ← sizeOf f.type) : Sem (Nat × Nat))).run P w = .ok l w
  | [], l, h => by cases h; simp
  | f :: fs, l, h => by
    simp only [places] at h
    split at h
    · rename_i n l' e1 e2; cases h
      have ih := places_sound fs e2
      simp only [List.mapM_cons, Sem.run_bind, run_sz e1, Result.andThen_ok, Sem.run_pure] at ih ⊢
      rw [ih]; simp
    · cases h
theorem build_sound {ρ : Rho} {e : Env} {f : Operand → Value} (ha : ArgR ρ e f) {t : TypeId} {parts : Array (Nat × Operand)} {z : List Value} {ps : List (Nat × Nat × Arg)} {r : List Value} {pl : Nat → Option (Nat × Nat)} (hz : zeroOf P t = some z)
    (hpl : (∃ fs l, P.underlying t = some (.struct fs) ∧ places P fs.toList = some l ∧ pl = fun (i : Nat) => l[i]?) ∨ (∃ m el n, P.underlying t = some (.array m el) ∧ szOf P el = some n ∧ pl = fun i => some (i * n, n)))
    (hp : cParts pl parts.toList = some ps) (hf : fillL z (ps.map fun p => (p.1, p.2.1, ev e p.2.2)) = some r) :
    ∃ r', (Instr.build t (parts.map fun (i, x) => (i, f x))).run P w = .ok (.agg r') w ∧ All2 (V1 ρ) r r'.toList := by
  obtain ⟨inf, v, h1, h2, h3, h4, h5, h6⟩ := zero_inv hz
  have hc : All2 (V1 ρ) z v.cells.toList := by rw [h3]; exact All2.refl fun a ha => V1.of_flat (List.all_eq_true.1 h5 a ha)
  obtain ⟨r', g1, g2⟩ := fill_sound ha parts.toList hp hf hc
  refine ⟨r', ?_, g2⟩
  have hm : (parts.map fun (i, x) => (i, f x)).toList = parts.toList.map fun p => (p.1, f p.2) := by simp
  unfold Instr.build
  simp only [Sem.run_bind, run_zero h1 h2, Result.andThen_ok]
  rcases hpl with ⟨fs, l, q1, q2, rfl⟩ | ⟨m, el, n, q1, q2, rfl⟩
  · have hpls := places_sound (P := P) (w := w) fs.toList q2
    simp only [run_und q1, Result.andThen_ok, Sem.run_bind, Array.mapM_eq_mapM_toList, Sem.run_map, hpls, hm]
    have e : (fun (x : Nat) => l.toArray[x]?) = fun (i : Nat) => l[i]? := by funext i; simp
    rw [e, g1]; simp
  · simp only [run_und q1, Result.andThen_ok, Sem.run_bind, run_sz q2, hm]
    rw [g1]; simp

theorem rd_sound {C : CallF} {ρ : Rho} {e : Env} {f : Operand → Value} {H H' : Heap} {o : Oper} {i : Ins} {v : Value} (hc : cOp P o.op = some i) (k1 : isAl i = false) (k2 : isEff i = false) (hs : step P C i e H = some (v, H')) (ha : ArgR ρ e f) (hr : RelH ρ H w) :
    H' = H ∧ ∃ v', (execOp f o).run P w = .ok (.value v') w ∧ V3 ρ v v' := by
  obtain ⟨dst, op, ty, pos, after, guard⟩ := o
  simp only at hc
  cases op
  case move x =>
    simp only [cOp, Option.map_eq_some_iff] at hc
    obtain ⟨a, h1, rfl⟩ := hc
    cases hs
    exact ⟨rfl, _, rfl, ha x a h1⟩
  case assign x =>
    simp only [cOp, Option.map_eq_some_iff] at hc
    obtain ⟨a, h1, rfl⟩ := hc
    cases hs
    exact ⟨rfl, _, rfl, ha x a h1⟩
  case pick c a b =>
    simp only [cOp] at hc
    split at hc <;> cases hc
    rename_i c' a' b' h1 h2 h3
    have hcv := ha c c' h1
    simp only [step] at hs
    split at hs
    · rename_i hb; cases hs
      rw [hb] at hcv
      refine ⟨rfl, f a, ?_, ha a a' h2⟩
      simp [execOp, hcv.bool_inv, asBool]
    · rename_i hb; cases hs
      rw [hb] at hcv
      refine ⟨rfl, f b, ?_, ha b b' h3⟩
      simp [execOp, hcv.bool_inv, asBool]
    · cases hs
  case load t a =>
    simp only [cOp] at hc
    split at hc <;> cases hc
    · rename_i a' n h1 h2 h3
      simp only [step] at hs
      have hav := ha a a' h1
      split at hs
      · rename_i b o hb
        split at hs
        · rename_i vs hrow; cases hs
          rw [hb] at hav
          obtain ⟨L, g1, g2⟩ := hav.ptr_inv
          obtain ⟨v', r1, r2⟩ := ld_sound (P := P) hr (t := t) (o := o) g1 h3 h2 (v := .agg vs.toArray) (by simp [hrow])
          exact ⟨rfl, v', by simp [execOp, g2, r1], r2⟩
        · cases hs
      · cases hs
    · rename_i a' n h1 h2 h3
      simp only [step] at hs
      have hav := ha a a' h1
      split at hs
      · rename_i b o hb
        split at hs
        · rename_i u hrow; cases hs
          rw [hb] at hav
          obtain ⟨L, g1, g2⟩ := hav.ptr_inv
          obtain ⟨v', r1, r2⟩ := ld_sound (P := P) hr (t := t) (o := o) g1 h3 h2 (v := v) (by simp [hrow])
          exact ⟨rfl, v', by simp [execOp, g2, r1], r2⟩
        · cases hs
      · cases hs
  case nilCheck x =>
    simp only [cOp, Option.map_eq_some_iff] at hc
    obtain ⟨a, h1, rfl⟩ := hc
    have hav := ha x a h1
    simp only [step] at hs
    split at hs
    · rename_i ad hb; cases hs
      rw [hb] at hav
      obtain ⟨L, q1, q2, q3⟩ := hav
      refine ⟨rfl, f x, by rw [show f x = _ from q3]; simp [execOp, q3], ?_⟩
      exact ⟨L, q1, q2, q3⟩
    · cases hs
  case binOp bo t x y ty2 =>
    simp only [cOp] at hc
    split at hc <;> try (cases hc; done)
    rename_i x' y' h1 h2
    have plain : i = .bin bo t x' y' → H' = H ∧ ∃ v', (execOp f ⟨dst, .binOp bo t x y ty2, ty, pos, after, guard⟩).run P w = .ok (.value v') w ∧ V3 ρ v v' := by
      intro e; subst e
      simp only [step] at hs
      split at hs
      · rename_i u hb; cases hs
        obtain ⟨v', r1, r2⟩ := binA_sound (P := P) (w := w) (x := x) (y := y) h2 hb (ha x x' h1) (ha y y' h2)
        exact ⟨rfl, v', by simp only [execOp, Sem.run_bind] at r1 ⊢; rw [r1]; rfl, r2⟩
      · cases hs
    have agg : ∀ neg ss, isStruct P t = true → P.eqGuardType P.depth t = false → eqT P 8 t = some ss → bo = (if neg then .neq else .eql) → i = .eqa neg ss x' y' → H' = H ∧ ∃ v', (execOp f ⟨dst, .binOp bo t x y ty2, ty, pos, after, guard⟩).run P w = .ok (.value v') w ∧ V3 ρ v v' := by
      intro neg ss e1 e2 e3 e4 e5
      subst e5 e4
      simp only [step] at hs
      split at hs
      · rename_i xs ys hbx hby
        split at hs
        · rename_i b hb; cases hs
          have hxv := ha x x' h1
          have hyv := ha y y' h2
          rw [hbx] at hxv
          rw [hby] at hyv
          have r1 := eqa_sound (P := P) (w := w) (x := x) (y := y) (neg := neg) e1 e2 e3 hxv hyv hb
          exact ⟨rfl, .bool (b != neg), by simp only [execOp, Sem.run_bind] at r1 ⊢; rw [r1]; rfl, (V1.of_flat (v := .bool _) rfl).three⟩
        · cases hs
      · cases hs
    unfold cBin at hc
    split at hc
    · rename_i hst
      split at hc
      · split at hc
        · cases hc
        · rename_i hg
          split at hc
          · rename_i ss hss; cases hc; exact agg false ss hst (by simpa using hg) hss rfl rfl
          · cases hc
      · split at hc
        · cases hc
        · rename_i hg
          split at hc
          · rename_i ss hss; cases hc; exact agg true ss hst (by simpa using hg) hss rfl rfl
          · cases hc
      · cases hc
    · cases hc; exact plain rfl
  case unOp uo t x =>
    simp only [cOp, Option.map_eq_some_iff] at hc
    obtain ⟨a, h1, rfl⟩ := hc
    have hav := ha x a h1
    simp only [step] at hs
    split at hs
    · rename_i hf
      split at hs
      · rename_i u hb
        cases hs
        obtain ⟨hb1, hb2⟩ := flatRes_inv hb
        have := hav.flat (flat_of2 (flat2_of1 hf))
        exact ⟨rfl, v, by simp [execOp, this, pv_run _ hb1], (V1.of_flat hb2).three⟩
      · cases hs
    · cases hs
  case convert s d x =>
    simp only [cOp] at hc
    split at hc
    · rename_i k0 k x' h1 h2 h3; cases hc
      have hav := ha x x' h3
      simp only [step] at hs
      split at hs
      · rename_i kk n hb; cases hs
        rw [hb] at hav
        refine ⟨rfl, .int k (k.wrap n), ?_, (V1.of_flat (v := .int k _) rfl).three⟩
        simp [execOp, hav.int_inv, convert, run_und h1, run_und h2, Conv.intToInt]
      · cases hs
    · split at hc
      · cases hc; simp [isAl] at k1
      · cases hc
    · rename_i el x' h1 h2 h3
      split at hc
      · rename_i h4; cases hc
        have hav := ha x x' h3
        simp only [step] at hs
        split at hs
        · rename_i n c hb; cases hs
          rw [hb] at hav
          obtain ⟨rfl, rfl, hx⟩ := hav.nil_inv
          refine ⟨rfl, .string .empty, ?_, (V1.of_flat (v := .string _) rfl).three⟩
          simp [execOp, hx, convert, run_und h1, run_und h2, run_und h4, Conv.bytesToString]
        · rename_i b o n c hb
          split at hs
          · rename_i vs hrow
            split at hs
            · rename_i l hl; cases hs
              rw [hb] at hav
              obtain ⟨L, o', c', s', q1, q2, q3, q4, q5, q6, q7, q9⟩ := hav.slice_inv
              have := b2s_sound (P := P) hr (c' := c') q1 hrow hl (o' := o') (fun hn => q6 (by omega)) (s' := s') (fun hn => q9 (by omega))
              refine ⟨rfl, _, ?_, (V1.of_flat (v := .string _) rfl).three⟩
              simp only [execOp, Sem.run_bind, q2, convert, run_und h1, run_und h2, Result.andThen_ok]
              simp only [run_und h4, Result.andThen_ok, Sem.run_bind, this, Sem.run_pure]
            · cases hs
          · cases hs
        · cases hs
      · cases hc
    · cases hc
  case makeFunc fn first cap =>
    cases fn <;> simp only [cOp] at hc <;> try (cases hc)
    rename_i fid
    split at hc
    · rename_i hz
      simp only [Option.map_eq_some_iff] at hc
      obtain ⟨ys, h1, rfl⟩ := hc
      simp only [step] at hs
      split at hs
      · rename_i hv0; cases hs
        have hz2 := args_sound ha h1
        refine ⟨rfl, .func (.func fid) #[] (cap.map f), ?_, ?_⟩
        · have : first.map f = #[] := by rw [arr_nil hz]; simp
          simp [execOp, Instr.makeFunc, this]
        · refine ⟨⟨fid, rfl⟩, rfl, _, rfl, ?_⟩
          simp only [Array.toList_map]
          exact capt_sound hz2 hv0
      · cases hs
    · cases hc
  case slice t x lo hi mx =>
    simp only [cOp] at hc
    split at hc <;> try (cases hc)
    · rename_i x' lo' hi' h0 h1 h2 h3 h4
      obtain ⟨l1, l2, _⟩ := opt_sound ha h2
      obtain ⟨g1, g2, _⟩ := opt_sound ha h3
      have hmn : mx = none := by
        cases mx with
        | none => rfl
        | some y => simp only [cOpt] at h4; split at h4 <;> cases h4
      subst hmn
      have hav := ha x x' h1
      simp only [step] at hs
      split at hs
      · rename_i s hb
        split at hs
        · rename_i u hv; cases hs
          rw [hb] at hav
          have := sls_sound (P := P) (w := w) h0 hv l1 l2 g1 g2
          refine ⟨rfl, v, by simp [execOp, hav.string_inv, this], ?_⟩
          unfold slsV at hv
          split at hv
          · split at hv
            · split at hv
              · cases hv; exact (V1.of_flat (v := .string _) rfl).three
              · cases hv
            · cases hv
          · cases hv
        · cases hs
      · cases hs
    · rename_i el x' lo' hi' mx' h0 h1 h2 h3 h4
      split at hc <;> cases hc
      rename_i n h5
      obtain ⟨l1, l2, _⟩ := opt_sound ha h2
      obtain ⟨g1, g2, _⟩ := opt_sound ha h3
      obtain ⟨m1, m2, _⟩ := opt_sound ha h4
      simp only [step] at hs
      split at hs
      · rename_i u hv; cases hs
        obtain ⟨v', r1, r2⟩ := slv_sound (P := P) hr h0 h5 hv (ha x x' h1) l1 l2 g1 g2 m1 m2
        exact ⟨rfl, v', by simp [execOp, r1], r2⟩
      · cases hs
  case build t parts =>
    simp only [cOp] at hc
    have fin : ∀ (pl : Nat → Option (Nat × Nat)) (z : List Value), zeroOf P t = some z → ((∃ fs l, P.underlying t = some (.struct fs) ∧ places P fs.toList = some l ∧ pl = fun (i : Nat) => l[i]?) ∨ (∃ m el n, P.underlying t = some (.array m el) ∧ szOf P el = some n ∧ pl = fun i => some (i * n, n))) →
        (cParts pl parts.toList).map (Ins.build z) = some i → H' = H ∧ ∃ v', (execOp f ⟨dst, .build t parts, ty, pos, after, guard⟩).run P w = .ok (.value v') w ∧ V3 ρ v v' := by
      intro pl z hz hpl hm
      simp only [Option.map_eq_some_iff] at hm
      obtain ⟨ps, h1, rfl⟩ := hm
      simp only [step] at hs
      split at hs
      · rename_i r hf; cases hs
        obtain ⟨r', g1, g2⟩ := build_sound (P := P) (w := w) ha hz hpl h1 hf
        exact ⟨rfl, .agg r', by simp only [execOp, Sem.run_bind, g1]; rfl, ⟨r', rfl, by simpa using g2⟩⟩
      · cases hs
    split at hc
    · rename_i z fs h1 h2
      split at hc
      · rename_i l h3; exact fin _ z h1 (.inl ⟨fs, l, h2, h3, rfl⟩) hc
      · cases hc
    · rename_i z m el h1 h2
      split at hc
      · rename_i n h3; exact fin _ z h1 (.inr ⟨m, el, n, h2, h3, rfl⟩) hc
      · cases hc
    · cases hc
  case fieldAddr t x fi =>
    simp only [cOp] at hc
    split at hc <;> try (cases hc)
    rename_i fs x' h1 h2
    split at hc <;> try (cases hc)
    rename_i fd h3
    split at hc <;> try (cases hc)
    rename_i n h4
    split at hc <;> try (cases hc)
    rename_i h5
    have hav := ha x x' h2
    simp only [step] at hs
    split at hs
    · rename_i b o hb; cases hs
      rw [hb] at hav
      obtain ⟨L, q1, q2⟩ := hav.ptr_inv
      refine ⟨rfl, .pointer (some ⟨L.blk, o + fd.offset + L.shift, none⟩), ?_, ⟨L, q1, rfl, rfl⟩⟩
      simp only [execOp, Sem.run_bind, q2, Instr.fieldAt, run_und h1, Result.andThen_ok, h3, Instr.sureAddr, Sem.run_pure, fieldPlace, run_sz h4]
      rw [if_neg h5]
      simp only [Sem.run_pure, Result.andThen_ok, add_at]
      rw [show o + L.shift + fd.offset = o + fd.offset + L.shift by omega]
    · cases hs
  case indexAddr t x ix =>
    simp only [cOp] at hc
    split at hc <;> try (cases hc)
    · rename_i el x' i' h1 h2 h3
      split at hc <;> cases hc
      rename_i n h4
      have hav := ha x x' h2
      have hiv := ha ix i' h3
      simp only [step] at hs
      split at hs
      · rename_i b o m c k hb hn
        split at hs
        · rename_i hlt; cases hs
          rw [hb] at hav
          obtain ⟨L, o', c', s', q1, q2, q3, q4, q5, q6, q7, q9⟩ := hav.slice_inv
          obtain ⟨kk, q8⟩ := natOf_inv hn hiv
          have ho := q6 (by omega)
          obtain rfl : s' = none := q9 (by omega)
          refine ⟨rfl, .pointer (some ⟨L.blk, o + k * n + L.shift, none⟩), ?_, ⟨L, q1, rfl, rfl⟩⟩
          simp only [execOp, Sem.run_bind, q2, q8, Instr.indexAt, asIntOf, Sem.run_pure, run_und h1, Result.andThen_ok]
          rw [if_pos ⟨by omega, by omega⟩]
          simp only [run_sz h4, Sem.run_bind, Result.andThen_ok, Sem.run_pure, add_at, Int.toNat_natCast]
          rw [show o' + k * n = o + k * n + L.shift by omega]
        · cases hs
      · cases hs
    · rename_i len el x' i' h1 h2 h3
      split at hc <;> cases hc
      rename_i n h4
      have hav := ha x x' h2
      have hiv := ha ix i' h3
      simp only [step] at hs
      split at hs
      · rename_i b o k hb hn
        split at hs
        · rename_i hlt; cases hs
          rw [hb] at hav
          obtain ⟨L, q1, q2⟩ := hav.ptr_inv
          obtain ⟨kk, q8⟩ := natOf_inv hn hiv
          refine ⟨rfl, .pointer (some ⟨L.blk, o + k * n + L.shift, none⟩), ?_, ⟨L, q1, rfl, rfl⟩⟩
          simp only [execOp, Sem.run_bind, q2, q8, Instr.indexAt, asIntOf, Sem.run_pure, run_und h1, Result.andThen_ok, Instr.sureAddr]
          rw [if_pos ⟨by omega, by omega⟩]
          simp only [run_sz h4, Sem.run_bind, Result.andThen_ok, Sem.run_pure, add_at, Int.toNat_natCast]
          rw [show o + L.shift + k * n = o + k * n + L.shift by omega]
        · cases hs
      · cases hs
  case field t x fi =>
    simp only [cOp] at hc
    split at hc <;> try (cases hc)
    rename_i fs x' h1 h2
    split at hc <;> try (cases hc)
    rename_i fd h3
    split at hc <;> cases hc
    rename_i n g h4 h5
    have hav := ha x x' h2
    simp only [step] at hs
    split at hs
    · rename_i cs hb
      split at hs
      · rename_i u hp; cases hs
        rw [hb] at hav
        obtain ⟨cs', q1, q2⟩ := hav.agg_inv
        obtain ⟨v', r1, r2⟩ := part_sound (P := P) (w := w) h4 h5 q2 hp
        exact ⟨rfl, v', by simp [execOp, q1, Instr.field, run_und h1, h3, asAgg, r1], r2⟩
      · cases hs
    · cases hs
  case index t x ix =>
    simp only [cOp] at hc
    split at hc <;> try (cases hc)
    · rename_i len el x' i' h1 h2 h3
      split at hc <;> cases hc
      rename_i n g h4 h5
      have hav := ha x x' h2
      have hiv := ha ix i' h3
      simp only [step] at hs
      split at hs
      · rename_i cs k hb hn
        split at hs
        · rename_i hlt
          split at hs
          · rename_i u hp; cases hs
            rw [hb] at hav
            obtain ⟨cs', q1, q2⟩ := hav.agg_inv
            obtain ⟨kk, q8⟩ := natOf_inv hn hiv
            obtain ⟨v', r1, r2⟩ := part_sound (P := P) (w := w) h4 h5 q2 hp
            refine ⟨rfl, v', ?_, r2⟩
            simp only [execOp, Sem.run_bind, q1, q8, Instr.index, asIntOf, Sem.run_pure, run_und h1, Result.andThen_ok]
            rw [if_pos ⟨by omega, by omega⟩]
            simp only [Sem.run_bind, run_sz h4, Result.andThen_ok, Int.toNat_natCast, r1, Sem.run_pure]
          · cases hs
        · cases hs
      · cases hs
    · rename_i x' i' h1 h2 h3
      have hav := ha x x' h2
      have hiv := ha ix i' h3
      simp only [step] at hs
      split at hs
      · rename_i s k hb hn
        split at hs
        · rename_i bt hget; cases hs
          rw [hb] at hav
          obtain ⟨kk, q8⟩ := natOf_inv hn hiv
          refine ⟨rfl, .int .u8 (bt.toNat : Int), ?_, (V1.of_flat (v := .int .u8 _) rfl).three⟩
          have hget' : s[k]? = some bt := by
            rw [Array.getElem?_toList] at hget
            obtain ⟨hk, he⟩ := Array.getElem?_eq_some_iff.1 hget
            rw [getElem?_pos s k hk]
            exact congrArg some he
          simp only [execOp, Sem.run_bind, hav.string_inv, q8, Instr.index, asIntOf, Sem.run_pure, run_und h1, Result.andThen_ok]
          rw [if_pos (by omega)]
          simp [hget']
        · cases hs
      · cases hs
  case extract x ix =>
    simp only [cOp, Option.map_eq_some_iff] at hc
    obtain ⟨a, h1, rfl⟩ := hc
    have hav := ha x a h1
    simp only [step] at hs
    split at hs
    · rename_i vs hb
      split at hs
      · rename_i u hg; cases hs
        rw [hb] at hav
        obtain ⟨vs', q1, q2⟩ := hav.tuple_inv
        obtain ⟨v', r1, r2⟩ := q2.get hg
        have r1' : vs'[ix]? = some v' := by simpa using r1
        exact ⟨rfl, v', by simp [execOp, q1, Instr.extract, r1'], r2.three⟩
      · cases hs
    · cases hs
  case call c =>
    obtain ⟨callee, args, argTypes⟩ := c
    simp only [cOp] at hc
    cases callee
    case value g =>
      cases g <;> simp at hc <;> obtain ⟨_, _, rfl⟩ := hc <;> simp [isEff] at k2
    case invoke => cases hc
    case builtin b =>
      simp only at hc
      split at hc <;> try (cases hc)
      rename_i xs h1
      have hxs := args_sound ha h1
      have hlen : args.size = xs.length := by have := cArgs_get h1; rw [← Array.length_toList]; exact this
      have sem : ∀ (v' : Value), (builtin b argTypes ty (args.map fun | .const _ => true | _ => false) (args.map f)).run P w = .ok (.value v') w →
          (execOp f ⟨dst, .call ⟨.builtin b, args, argTypes⟩, ty, pos, after, guard⟩).run P w = .ok (.value v') w := by
        intro v' h
        simp only [execOp, resolve, Sem.run_bind, Sem.run_pure, Result.andThen_ok, invoke]
        exact h
      have htl : ∀ tl, argTypes.toList = tl → argTypes = tl.toArray := fun tl h => by rw [← h]
      have two : ∀ x y, xs = [x, y] → ∃ x' y', args.map f = #[x', y'] ∧ V3 ρ (ev e x) x' ∧ V3 ρ (ev e y) y' := by
        intro x y hx
        subst hx
        obtain ⟨x', l, q1, q2, q3⟩ := hxs.cons_left
        obtain ⟨y', l', rfl, q5, q6⟩ := q3.cons_left
        obtain rfl := q6.nil_left
        exact ⟨x', y', by apply Array.ext'; simpa using q1, q2, q5⟩
      have one : ∀ x, xs = [x] → ∃ x', args.map f = #[x'] ∧ V3 ρ (ev e x) x' := by
        intro x hx
        subst hx
        obtain ⟨x', l, q1, q2, q3⟩ := hxs.cons_left
        obtain rfl := q3.nil_left
        exact ⟨x', by apply Array.ext'; simpa using q1, q2⟩
      cases b <;> simp only [cBuiltin] at hc <;> try (cases hc; done)
      case append => unfold cApp at hc; repeat' split at hc
                     all_goals first | (cases hc; done) | (cases hc; simp [isEff] at k2; done)
      case copy => unfold cCopy at hc; repeat' split at hc
                   all_goals first | (cases hc; done) | (cases hc; simp [isEff] at k2; done)
      case clear =>
        unfold cClear at hc; repeat' split at hc
        all_goals first | (cases hc; done) | (simp only [Option.map_eq_some_iff] at hc; obtain ⟨_, _, rfl⟩ := hc; simp [isEff] at k2; done)
      case len =>
        unfold cLen at hc
        split at hc
        · rename_i t x h2
          obtain ⟨x', h3, h4⟩ := one x rfl
          have hty := htl _ h2
          split at hc <;> cases hc
          · rename_i h5
            simp only [step] at hs
            split at hs
            · rename_i s hv; cases hs
              refine ⟨rfl, .int .i64 (s.size : Int), sem _ ?_, (V1.of_flat (v := .int .i64 _) rfl).three⟩
              rw [hv] at h4; rw [h3, hty, h4.string_inv]; simp [builtin, Builtin.len_, run_und h5, goInt]
            · cases hs
          · rename_i el h5
            simp only [step] at hs
            split at hs
            · rename_i a n c hv; cases hs
              refine ⟨rfl, .int .i64 (n : Int), sem _ ?_, (V1.of_flat (v := .int .i64 _) rfl).three⟩
              rw [hv] at h4; rw [h3, hty]
              cases a with
              | none => obtain ⟨rfl, rfl, q⟩ := h4.nil_inv; rw [q]; simp [builtin, Builtin.len_, run_und h5, goInt]
              | some ad => obtain ⟨L, o', c', _, _, ⟨s', q, _⟩, _⟩ := h4; rw [q]; simp [builtin, Builtin.len_, run_und h5, goInt]
            · cases hs
          · rename_i n el h5
            simp only [step] at hs
            cases hs
            refine ⟨rfl, .int .i64 (n : Int), sem _ ?_, (V1.of_flat (v := .int .i64 _) rfl).three⟩
            rw [h3, hty]; simp [builtin, Builtin.len_, run_und h5, goInt]
        · cases hc
      case cap =>
        unfold cCap at hc
        split at hc
        · rename_i t x h2
          obtain ⟨x', h3, h4⟩ := one x rfl
          have hty := htl _ h2
          split at hc <;> cases hc
          rename_i el h5
          simp only [step] at hs
          split at hs
          · rename_i a n c hv
            rw [hv] at h4
            cases a with
            | none =>
              obtain ⟨rfl, rfl, q⟩ := h4.nil_inv
              rw [if_pos rfl] at hs; cases hs
              refine ⟨rfl, .int .i64 0, sem _ ?_, (V1.of_flat (v := .int .i64 _) rfl).three⟩
              rw [h3, hty, q]; simp [builtin, Builtin.cap_, run_und h5, goInt]
            | some ad =>
              obtain ⟨L, o', c', _, _, ⟨s', q, _⟩, q1, q2, q3, q4⟩ := h4
              rw [if_neg (by simp)] at hs
              · split at hs
                · rename_i hodd; cases hs
                  refine ⟨rfl, .int .i64 ((c / 2 : Nat) : Int), sem _ ?_, (V1.of_flat (v := .int .i64 _) rfl).three⟩
                  rw [h3, hty, q, q3 hodd]; simp [builtin, Builtin.cap_, run_und h5, goInt]
                · cases hs
          · cases hs
        · cases hc
      case min =>
        unfold cMM at hc
        split at hc
        · rename_i x y; cases hc
          obtain ⟨x', y', h3, h4, h5⟩ := two x y rfl
          simp only [step] at hs
          split at hs
          · rename_i k a k' b h6 h7; cases hs
            rw [h6] at h4; rw [h7] at h5
            refine ⟨rfl, _, sem _ ?_, (V1.of_flat (v := .int k _) rfl).three⟩
            rw [h3, h4.int_inv, h5.int_inv]; simp [builtin, Builtin.min_, Builtin.min2]
          · cases hs
        · cases hc
      case max =>
        unfold cMM at hc
        split at hc
        · rename_i x y; cases hc
          obtain ⟨x', y', h3, h4, h5⟩ := two x y rfl
          simp only [step] at hs
          split at hs
          · rename_i k a k' b h6 h7; cases hs
            rw [h6] at h4; rw [h7] at h5
            refine ⟨rfl, _, sem _ ?_, (V1.of_flat (v := .int k _) rfl).three⟩
            rw [h3, h4.int_inv, h5.int_inv]; simp [builtin, Builtin.max_, Builtin.max2]
          · cases hs
        · cases hc
  all_goals first
    | (simp only [cOp] at hc; cases hc; done)
    | (simp only [cOp, Option.map_eq_some_iff] at hc; obtain ⟨_, _, rfl⟩ := hc; simp [isAl] at k1; done)
    | (simp only [cOp] at hc; repeat' split at hc
       all_goals first | (cases hc; done) | (cases hc; simp [isAl, isEff] at k1 k2; done) | (simp only [Option.map_eq_some_iff] at hc; obtain ⟨_, _, rfl⟩ := hc; simp [isAl, isEff] at k1 k2; done))
    | trace_state
end
end Go.AM
end TextAhOp3
