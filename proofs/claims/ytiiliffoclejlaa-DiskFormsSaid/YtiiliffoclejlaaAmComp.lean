/- AM: from the given code to the machine's code. -/
import Derived.Test.YtiiliffoclejlaaAmDefs
namespace Go.AM
set_option linter.unusedVariables false

def cArg : Operand → Option Arg
  | .tmp n => some (.t n)
  | .const v => if flat v then some (.c v) else none
  | .func f => some (.c (.func (.func f) #[] #[]))
  | .global _ => none
def cArgs : List Operand → Option (List Arg)
  | [] => some []
  | x :: xs => (match cArg x, cArgs xs with | some a, some l => some (a :: l) | _, _ => none)
def cOpt : Option Operand → Option (Option Arg)
  | none => some none
  | some x => (match cArg x with | some a => some (some a) | none => none)
/-- Size in cells, aggregate or not. -/
def szOf (P : Program) (t : TypeId) : Option Nat := (P.info? t).map (·.size)
def aggOf (P : Program) (t : TypeId) : Option Bool :=
  match P.underlying t with
  | some (.struct _) => some true
  | some (.array _ _) => some true
  | some _ => some false
  | none => none
def zeroOf (P : Program) (t : TypeId) : Option (List Value) :=
  match (P.info? t).bind (·.zero), szOf P t with
  | some z, some n => if z.cells.toList.length = n ∧ z.cells.toList.all flat1 = true ∧ z.cells.toList.all Value.oneCell' = true then some z.cells.toList else none
  | _, _ => none
/-- Parts of a literal: where each lies, how many cells it has. -/
def cParts (pl : Nat → Option (Nat × Nat)) : List (Nat × Operand) → Option (List (Nat × Nat × Arg))
  | [] => some []
  | (i, x) :: ps => (match pl i, cArg x, cParts pl ps with | some (o, n), some a, some l => some ((o, n, a) :: l) | _, _, _ => none)
def places (P : Program) : List Field → Option (List (Nat × Nat))
  | [] => some []
  | f :: fs => (match szOf P f.type, places P fs with | some n, some l => some ((f.offset, n) :: l) | _, _ => none)
def cLen (P : Program) : List TypeId → List Arg → Option Ins
  | [t], [x] => (match P.underlying t with
      | some .string => some (.lenS x) | some (.slice _) => some (.lenV x) | some (.array n _) => some (.lenA n) | _ => none)
  | _, _ => none
def cApp (P : Program) : List TypeId → List Arg → Option Ins
  | [t, u], [x, y] => (match P.underlying t, P.underlying u with
      | some (.slice e), some (.slice e') => (match zeroOf P e, szOf P e', P.info? e with
          | some z, some n', some inf => if n' = z.length ∧ z.length ≤ 64 then some (.app z.length inf.bytes x y) else none
          | _, _, _ => none)
      | some (.slice e), some .string => (match zeroOf P e, P.info? e with | some [z], some inf => some (.app 1 inf.bytes x y) | _, _ => none)
      | _, _ => none)
  | _, _ => none
def cCopy (P : Program) : List TypeId → List Arg → Option Ins
  | [t, u], [x, y] => (match P.underlying t, P.underlying u with
      | some (.slice e), some (.slice e') => (match szOf P e, szOf P e' with | some n, some n' => if n' = n then some (.copy n x y) else none | _, _ => none)
      | some (.slice e), some .string => (match szOf P e with | some 1 => some (.copy 1 x y) | _ => none)
      | _, _ => none)
  | _, _ => none
def cClear (P : Program) : List TypeId → List Arg → Option Ins
  | [t], [x] => (match P.underlying t with | some (.slice e) => (zeroOf P e).map fun z => .clr z x | _ => none)
  | _, _ => none
def cCap (P : Program) : List TypeId → List Arg → Option Ins
  | [t], [x] => (match P.underlying t with | some (.slice e) => some (.capV x) | _ => none)
  | _, _ => none
def cMM (b : Bool) : List Arg → Option Ins
  | [x, y] => some (.mm b x y)
  | _ => none
def cBuiltin (P : Program) (b : Builtin) (ts : List TypeId) (xs : List Arg) : Option Ins :=
  match b with
  | .len => cLen P ts xs
  | .append => cApp P ts xs
  | .copy => cCopy P ts xs
  | .clear => cClear P ts xs
  | .cap => cCap P ts xs
  | .min => cMM false xs
  | .max => cMM true xs
  | _ => none
/-- The cells' kinds, if '==' is cell by cell. -/
def eqFs (P : Program) (g : TypeId → Option (List Srt)) : List Field → Nat → Option (List Srt)
  | [], _ => some []
  | f :: fs, off => if f.name = "_" then none else (match g f.type, szOf P f.type with
    | some l, some m => if f.offset = off ∧ m = l.length then (match eqFs P g fs (off + m) with | some r => some (l ++ r) | none => none) else none
    | _, _ => none)
def eqT (P : Program) : Nat → TypeId → Option (List Srt)
  | 0, _ => none
  | d + 1, t => (match P.underlying t with
    | some (.int k) => some [.num k]
    | some .string => some [.txt]
    | some .bool => some [.flag]
    | some (.struct fs) => if P.stoodInHeld t then none else eqFs P (eqT P d) fs.toList 0
    | _ => none)
def isStruct (P : Program) (t : TypeId) : Bool := match P.underlying t with | some (.struct _) => true | _ => false
def cBin (P : Program) (op : BinOp) (t : TypeId) (x y : Arg) : Option Ins :=
  if isStruct P t then
    (match op with
     | .eql => if P.eqGuardType P.depth t then none else (match eqT P 8 t with | some ss => some (.eqa false ss x y) | none => none)
     | .neq => if P.eqGuardType P.depth t then none else (match eqT P 8 t with | some ss => some (.eqa true ss x y) | none => none)
     | _ => none)
  else some (.bin op t x y)
def cOp (P : Program) : Op → Option Ins
  | .move x => (cArg x).map .mov
  | .assign x => (cArg x).map .mov
  | .pick c a b => (match cArg c, cArg a, cArg b with | some c, some a, some b => some (.pick c a b) | _, _, _ => none)
  | .alloc e => (zeroOf P e).map .new
  | .box e x => (match cArg x, szOf P e with | some x, some n => some (.box n x) | _, _ => none)
  | .build t parts => (match zeroOf P t, P.underlying t with
      | some z, some (.struct fs) => (match places P fs.toList with | some pl => (cParts (fun i => pl[i]?) parts.toList).map (.build z) | none => none)
      | some z, some (.array _ e) => (match szOf P e with | some n => (cParts (fun i => some (i * n, n)) parts.toList).map (.build z) | none => none)
      | _, _ => none)
  | .buildSlice t len parts => (match P.underlying t with
      | some (.slice e) => (match zeroOf P e with
        | some z => if len * z.length ≤ 2 ^ 24 then (cParts (fun i => some (i * z.length, z.length)) parts.toList).map (.mkrow z.length len (rep z len)) else none
        | none => none)
      | _ => none)
  | .load t a => (match cArg a, aggOf P t, szOf P t with | some a, some true, some n => some (.ldn n a) | some a, some false, some _ => some (.ld a) | _, _, _ => none)
  | .store t a x => (match cArg a, cArg x, szOf P t with | some a, some x, some n => some (.st n a x) | _, _, _ => none)
  | .nilCheck x => (cArg x).map .nilck
  | .binOp op t x y _ => (match cArg x, cArg y with | some x, some y => cBin P op t x y | _, _ => none)
  | .unOp op _ x => (cArg x).map (.un op)
  | .convert s d x => (match P.underlying s, P.underlying d, cArg x with
      | some (.int _), some (.int k), some x => some (.ii k x)
      | some .string, some (.slice e), some x => (match P.underlying e with | some (.int .u8) => some (.s2b x) | _ => none)
      | some (.slice e), some .string, some x => (match P.underlying e with | some (.int .u8) => some (.b2s x) | _ => none)
      | _, _, _ => none)
  | .makeFunc (.func f) first cap => if first.size = 0 then (cArgs cap.toList).map (.clos f) else none
  | .makeSlice t l c => (match P.underlying t, cArg l, cArg c with
      | some (.slice e), some l, some c => (match zeroOf P e, P.info? e with | some z, some inf => some (.mks z.length inf.bytes z l c) | _, _ => none)
      | _, _, _ => none)
  | .slice t x lo hi mx => (match P.underlying t, cArg x, cOpt lo, cOpt hi, cOpt mx with
      | some .string, some x, some lo, some hi, some none => some (.sls x lo hi)
      | some (.slice e), some x, some lo, some hi, some mx => (match szOf P e with | some n => some (.slv n x lo hi mx) | none => none)
      | _, _, _, _, _ => none)
  | .fieldAddr t x f => (match P.underlying t, cArg x with
      | some (.struct fs), some x => (match fs[f]? with | some f => (match szOf P f.type with | some n => if n = 0 then none else some (.fadr f.offset x) | none => none) | none => none)
      | _, _ => none)
  | .indexAddr t x i => (match P.underlying t, cArg x, cArg i with
      | some (.slice e), some x, some i => (match szOf P e with | some n => some (.iadrS n x i) | none => none)
      | some (.array len e), some x, some i => (match szOf P e with | some n => some (.iadrA len n x i) | none => none)
      | _, _, _ => none)
  | .field t x f => (match P.underlying t, cArg x with
      | some (.struct fs), some x => (match fs[f]? with
        | some f => (match szOf P f.type, aggOf P f.type with | some n, some a => some (.fld f.offset n a x) | _, _ => none) | none => none)
      | _, _ => none)
  | .index t x i => (match P.underlying t, cArg x, cArg i with
      | some (.array len e), some x, some i => (match szOf P e, aggOf P e with | some n, some a => some (.idxA len n a x i) | _, _ => none)
      | some .string, some x, some i => some (.idxS x i)
      | _, _, _ => none)
  | .extract x i => (cArg x).map (.ext i)
  | .call c => (match c.callee with
      | .value (.func f) => (cArgs c.args.toList).map (.call f)
      | .value (.tmp n) => (cArgs c.args.toList).map (.callV (.t n))
      | .builtin b => (match cArgs c.args.toList with | some xs => cBuiltin P b c.argTypes.toList xs | none => none)
      | _ => none)
  | _ => none
def cOper (P : Program) (ops : Array Oper) (o : Oper) : Option Ir :=
  match (cOp P o.op).getD .bad with
  | i => match o.guard with
    | none => some ⟨o.dst, none, i⟩
    | some (j, w) => (match (ops[j]?).bind (·.dst) with | some d => some ⟨o.dst, some (d, w), i⟩ | none => none)
def cOpers (P : Program) (ops : Array Oper) : List Oper → Option (List Ir)
  | [] => some []
  | o :: os => (match cOper P ops o, cOpers P ops os with | some i, some l => some (i :: l) | _, _ => none)
def isEff : Ins → Bool
  | .st .. | .call .. | .callV .. | .app .. | .copy .. | .clr .. | .bad => true
  | _ => false
def isAl : Ins → Bool
  | .box .. | .new .. | .mkrow .. | .s2b .. | .mks .. => true
  | _ => false
def isRd : Ins → Bool
  | .ld .. | .ldn .. | .b2s .. | .slv .. => true
  | _ => false
/-! ### regions whose order is drawn: one order of our own, effects as late as may be -/
def Arg.tmps : Arg → List Nat
  | .t n => [n]
  | .c _ => []
def optT (x : Option Arg) : List Nat := match x with | some a => a.tmps | none => []
def Ins.tmps : Ins → List Nat
  | .mov x | .box _ x | .ld x | .ldn _ x | .nilck x | .un _ x | .ii _ x | .s2b x | .b2s x | .fadr _ x | .fld _ _ _ x | .ext _ x | .lenV x | .lenS x | .clr _ x | .capV x => x.tmps
  | .pick a b c => a.tmps ++ b.tmps ++ c.tmps
  | .new _ | .lenA _ | .bad => []
  | .build _ ps | .mkrow _ _ _ ps => ps.flatMap fun p => p.2.2.tmps
  | .st _ a x | .bin _ _ a x | .mks _ _ _ a x | .iadrS _ a x | .iadrA _ _ a x | .idxA _ _ _ a x | .idxS a x | .app _ _ a x | .copy _ a x | .mm _ a x | .eqa _ _ a x => a.tmps ++ x.tmps
  | .clos _ xs | .call _ xs => xs.flatMap Arg.tmps
  | .callV x xs => x.tmps ++ xs.flatMap Arg.tmps
  | .sls x lo hi => x.tmps ++ optT lo ++ optT hi
  | .slv _ x lo hi mx => x.tmps ++ optT lo ++ optT hi ++ optT mx
def Ir.looks (i : Ir) : List Nat := i.ins.tmps ++ (match i.guard with | some (d, _) => [d] | none => [])
/-- No slot of the one is written by the other. -/
def Ir.apart (x y : Ir) : Bool :=
  (match x.dst with | some d => !y.looks.contains d && y.dst != some d | none => true) && (match y.dst with | some d => !x.looks.contains d | none => true)
def edgesOf (o : Oper) : List Nat := (o.after.toList.filter fun e => Region.binds .any e).map (·.on)
def edgesAt (ops : Array Oper) (k : Nat) : List Nat := match ops[k]? with | some o => edgesOf o | none => []
def firstReady (ops : Array Oper) (done : List Nat) (f : Nat → Bool) : List Nat → Option Nat
  | [] => none
  | k :: ks => if !done.contains k && f k && (edgesAt ops k).all done.contains then some k else firstReady ops done f ks
def eager (ops : Array Oper) (eff : Nat → Bool) : Nat → List Nat → List Nat
  | 0, done => done
  | n + 1, done =>
    match firstReady ops done (fun k => !eff k) (List.range ops.size) with
    | some k => eager ops eff n (done ++ [k])
    | none => match firstReady ops done (fun _ => true) (List.range ops.size) with
      | some k => eager ops eff n (done ++ [k])
      | none => done
def setM (M : Nat → Nat) (k m : Nat) : Nat → Nat := fun j => if j = k then m else M j
def orM (M : Nat → Nat) : List Nat → Nat
  | [] => 0
  | e :: es => 2 ^ e ||| M e ||| orM M es
def maskM (ops : Array Oper) : List Nat → (Nat → Nat) → (Nat → Nat)
  | [], M => M
  | k :: ks, M => maskM ops ks (setM M k (orM M (edgesAt ops k)))
def ordOk (ops : Array Oper) : List Nat → List Nat → Bool
  | _, [] => true
  | done, k :: ks => decide (k < ops.size) && !done.contains k && (edgesAt ops k).all done.contains && ordOk ops (done ++ [k]) ks
def chkPairs (ops : Array Oper) (M : Nat → Nat) (order : List Nat) (is : List Ir) : List (Nat × Nat) :=
  (List.range is.length).flatMap fun q => (List.range q).flatMap fun p =>
    match order[p]?, order[q]?, is[p]?, is[q]? with
    | some op, some oq, some i, some j => if !(M oq).testBit op && isRd i.ins && isEff j.ins then [(p, q)] else []
    | _, _, _, _ => []
def pairOk (M : Nat → Nat) (order : List Nat) (is : List Ir) (ch : List (Nat × Nat)) (p q : Nat) : Bool :=
  match order[p]?, order[q]?, is[p]?, is[q]? with
  | some op, some oq, some i, some j => (M oq).testBit op || (i.apart j && !isEff i.ins && (!(isRd i.ins && isEff j.ins) || ch.contains (p, q)))
  | _, _, _, _ => false
def drawOk (ops : Array Oper) (order : List Nat) (is : List Ir) (ch : List (Nat × Nat)) : Bool :=
  decide (order.length = ops.size) && decide (is.length = ops.size) && (List.range ops.size).all order.contains && ordOk ops [] order &&
  (List.range is.length).all fun q => (List.range q).all fun p => pairOk (maskM ops order fun _ => 0) order is ch p q
def pickL (is : List Ir) : List Nat → Option (List Ir)
  | [] => some []
  | k :: ks => (match is[k]?, pickL is ks with | some i, some l => some (i :: l) | _, _ => none)
def cDraw (ops : Array Oper) (is0 : List Ir) : Option IC :=
  let order := eager ops (fun k => match is0[k]? with | some i => isEff i.ins | none => false) ops.size []
  match pickL is0 order with
  | some is =>
    let ch := chkPairs ops (maskM ops order fun _ => 0) order is
    if drawOk ops order is ch then some (.regd is ch) else none
  | none => none
def cCode (P : Program) : Code → Option IC
  | .skip => some .skip
  | .region _ ops d => (match cOpers P ops ops.toList with
      | some is => if d then cDraw ops is else some (.reg is)
      | none => none)
  | .seq a b => (match cCode P a, cCode P b with | some a, some b => some (.seq a b) | _, _ => none)
  | .cond c a b => (match cArg c, cCode P a, cCode P b with | some c, some a, some b => some (.cond c a b) | _, _, _ => none)
  | .block id a => (cCode P a).map (.block id)
  | .loop a => (cCode P a).map .loop
  | .exit id => some (.exit id)
  | .ret => some .ret
  | _ => none
def cRes (P : Program) : ResultVar → Option IRes
  | .tmp t => some (.tmp t)
  | .cell a t => (match aggOf P t, szOf P t with | some true, some n => some (.ldn a n) | some false, some _ => some (.ld a) | _, _ => none)
def cRess (P : Program) : List ResultVar → Option (List IRes)
  | [] => some []
  | r :: rs => (match cRes P r, cRess P rs with | some i, some l => some (i :: l) | _, _ => none)
/-- Each slot that is written lies in the frame. -/
def slotsOk (n : Nat) : IC → Bool
  | .reg is | .regd is _ => is.all fun i => match i.dst with | some d => decide (d < n) | none => true
  | .seq a b | .cond _ a b => slotsOk n a && slotsOk n b
  | .block _ a | .loop a => slotsOk n a
  | _ => true
def cFn (P : Program) (f : Func) : Option IFn :=
  match f.body with
  | none => none
  | some c => if f.name == "runtime.NumGoroutine" then none else
    match cCode P c, cRess P f.results.toList with
    | some c, some rs => if slotsOk f.ntmps c then some ⟨c, f.ntmps, rs⟩ else none
    | _, _ => none
def fnAt (P : Program) (f : FuncId) : Option IFn := (P.funcs[f]?).bind (cFn P)
end Go.AM
