/- The compiler from the loaded program's code into the abstract machine's. -/
import Derived.Test.YtfaceobahodhmaaAm2
set_option linter.unusedSimpArgs false
set_option maxHeartbeats 4000000
set_option maxRecDepth 100000
namespace Go.AM
set_option linter.unusedVariables false

def cOpd : Operand → Option Opd
  | .tmp t => some (.tmp t)
  | .const v => if flat v then some (.val v) else none
  | .func f => some (.val (.func (.func f) #[] #[]))
  | .global _ => none

def cOpds : List Operand → Option (List Opd)
  | [] => some []
  | x :: r => (cOpd x).bind fun y => (cOpds r).bind fun ys => some (y :: ys)

def cOpo : Option Operand → Option (Option Opd)
  | none => some none
  | some x => (cOpd x).map some

def isAggD : TypeDesc → Bool
  | .struct _ | .array _ _ => true
  | _ => false

def aggN (P : Program) (t : TypeId) : Option (Option Nat) :=
  match P.underlying t with
  | none => none
  | some d => (P.info? t).bind fun i => match d with
    | .struct _ | .array _ _ => some (some i.size)
    | _ => some none

def structFields (P : Program) (t : TypeId) : Option (List Field) :=
  match P.underlying t with
  | some (.struct fs) => some fs.toList
  | _ => none

def sliceElem (P : Program) (t : TypeId) : Option TypeId :=
  match P.underlying t with
  | some (.slice e) => some e
  | _ => none

def isByteT (P : Program) (t : TypeId) : Bool :=
  match P.underlying t with
  | some (.int .u8) => true
  | _ => false

def eqFs (P : Program) (sub : TypeId → Option (List EqK)) : List Field → Nat → Option (List EqK)
  | [], _ => some []
  | f :: r, off =>
    if f.name = "_" ∨ f.offset ≠ off then none else
    (sub f.type).bind fun ks => (P.info? f.type).bind fun i => if i.size = ks.length then (eqFs P sub r (off + ks.length)).map fun rs => ks ++ rs else none

def eqKs (P : Program) : Nat → TypeId → Option (List EqK)
  | 0, _ => none
  | d + 1, t =>
    match P.underlying t with
    | some (.int k) => some [.i k]
    | some .string => some [.s]
    | some .bool => some [.b]
    | some (.struct fs) => if P.stoodInHeld t then none else eqFs P (eqKs P d) fs.toList 0
    | _ => none

def cParts (P : Program) (fs : List Field) : List (Nat × Operand) → Option (List (Nat × Nat × Opd))
  | [] => some []
  | (i, x) :: r => (fs[i]?).bind fun f => (P.info? f.type).bind fun inf => (cOpd x).bind fun y => (cParts P fs r).bind fun ys => some ((f.offset, inf.size, y) :: ys)

def cElems (size : Nat) : List (Nat × Operand) → Option (List (Nat × Nat × Opd))
  | [] => some []
  | (i, x) :: r => (cOpd x).bind fun y => (cElems size r).bind fun ys => some ((i * size, size, y) :: ys)

def cBuiltin (P : Program) (b : Builtin) (args : List Operand) (ts : List TypeId) : Option MOp :=
  match b, args, ts with
  | .len, [x], [t] =>
    match P.underlying t with
    | some .string => (cOpd x).map .lens
    | some (.slice _) => (cOpd x).map .len
    | _ => none
  | .append, [x, y], [t, u] =>
    (sliceElem P t).bind fun e => (P.info? e).bind fun i =>
      match P.underlying u with
      | some (.int _) => none
      | none => none
      | some _ => (cOpd x).bind fun x => (cOpd y).bind fun y => i.zero.bind fun z => if i.size = 0 ∨ i.bytes = 0 ∨ z.cells.size ≠ i.size then none else some (.app i.size i.bytes x y)
  | _, _, _ => none

abbrev Ext := FuncId → Option XKind

def cOp (P : Program) (X : Ext) (o : Oper) : Option MOp :=
  match o.op with
  | .move x | .assign x => (cOpd x).map .mv
  | .pick c a b => (cOpd c).bind fun c => (cOpd a).bind fun a => (cOpd b).bind fun b => some (.pick c a b)
  | .alloc e => (P.info? e).bind fun i => i.zero.bind fun z => if z.cells.toList.all flat0 then some (.new z.cells.toList) else none
  | .box _ x => (cOpd x).map .box
  | .build t parts => (structFields P t).bind fun fs => (P.info? t).bind fun i => i.zero.bind fun z =>
    if z.cells.toList.all flat0 then (cParts P fs parts.toList).bind fun ps => if (fs.all fun f => (P.info? f.type).isSome) then some (.build z.cells.toList ps) else none else none
  | .buildSlice t len parts => (sliceElem P t).bind fun e => (P.info? e).bind fun i => i.zero.bind fun z =>
    if i.size = 0 ∨ len * i.size > 2 ^ 24 ∨ z.cells.size ≠ i.size ∨ ¬ z.cells.toList.all flat0 then none else
    (cElems i.size parts.toList).bind fun ps => some (.bslice i.size len (List.replicate len z.cells.toList).flatten ps)
  | .load t a => (aggN P t).bind fun n => (cOpd a).map (.load n)
  | .store t a x => (P.info? t).bind fun i => (cOpd a).bind fun a => (cOpd x).bind fun x => some (.store i.size a x)
  | .nilCheck x => (cOpd x).map .nilck
  | .binOp op t x y _ => (cOpd x).bind fun x => (cOpd y).bind fun y =>
    match P.underlying t with
    | some .bool => match op with
      | .eql => some (.eqb false x y)
      | .neq => some (.eqb true x y)
      | _ => none
    | some (.struct _) => (eqKs P 20 t).bind fun ks => if P.eqGuardType P.depth t then none else match op with
      | .eql => some (.eqs false ks x y)
      | .neq => some (.eqs true ks x y)
      | _ => none
    | _ => some (.bin op x y)
  | .unOp op _ x => (cOpd x).map (.un op)
  | .convert src dst x => (cOpd x).bind fun x =>
    match P.underlying src, P.underlying dst with
    | some (.int _), some (.int k) => some (.conv k x)
    | some .string, some .string => some (.cs x)
    | some .string, some (.slice e) => if isByteT P e then some (.s2b x) else none
    | some (.slice e), some .string => if isByteT P e then some (.b2s x) else none
    | _, _ => none
  | .fieldAddr s x f => (structFields P s).bind fun fs => (fs[f]?).bind fun f => (P.info? f.type).bind fun i => if i.size = 0 then none else (cOpd x).map (.faddr f.offset)
  | .field t x f => (structFields P t).bind fun fs => (fs[f]?).bind fun f => (aggN P f.type).bind fun n => (cOpd x).map (.part f.offset n)
  | .indexAddr t x i => (sliceElem P t).bind fun e => (P.info? e).bind fun inf => (cOpd x).bind fun x => (cOpd i).bind fun i => some (.iaddr inf.size x i)
  | .index t x i =>
    match P.underlying t with
    | some .string => (cOpd x).bind fun x => (cOpd i).bind fun i => some (.istr x i)
    | _ => none
  | .slice t x lo hi none => (cOpd x).bind fun x => (cOpo lo).bind fun lo => (cOpo hi).bind fun hi =>
    match P.underlying t with
    | some .string => some (.slstr x lo hi)
    | some (.slice e) => (P.info? e).bind fun i => some (.slsl i.size x lo hi)
    | _ => none
  | .makeSlice t n c => (sliceElem P t).bind fun e => (P.info? e).bind fun i => i.zero.bind fun z =>
    if i.size = 0 ∨ z.cells.size ≠ i.size ∨ ¬ z.cells.toList.all flat0 then none else (cOpd n).bind fun n => (cOpd c).bind fun c => some (.mkslice i.size i.bytes z.cells.toList n c)
  | .extract x i => (cOpd x).map fun x => .ext x i
  | .range t x =>
    match P.underlying t with
    | some .string => (cOpd x).map .rng
    | _ => none
  | .next x true => (cOpd x).map .next
  | .makeFunc (.func f) first captured => (cOpds first.toList).bind fun fs => (cOpds captured.toList).bind fun cs => some (.fn (.func f) fs cs)
  | .call { callee := .value (.func f), args, .. } => (cOpds args.toList).map fun args => match X f with | some k => .xt k args | none => .call f args
  | .call { callee := .value (.tmp f), args, .. } => (cOpds args.toList).map (.callv (.tmp f))
  | .call { callee := .builtin b, args, argTypes } => cBuiltin P b args.toList argTypes.toList
  | _ => none

def MOp.pure : MOp → Bool
  | .xt .. | .mv _ | .pick .. | .build .. | .nilck _ | .bin .. | .eqb .. | .eqs .. | .un .. | .conv .. | .faddr .. | .part .. | .iaddr .. | .istr .. | .slstr .. | .slsl ..
  | .ext .. | .len _ | .lens _ | .cs _ | .fn .. => true
  | _ => false

def edgesOf (o : Oper) : List Nat := (o.after.toList.filter (Region.binds .any)).map (·.on)

def masks (ops : Array Oper) : List Nat := (Region.before ops).toList

def maskOK (ms : List Nat) (j : Nat) (o : Oper) : Bool :=
  let all := (edgesOf o).foldl (fun s e => s ||| 2 ^ e ||| ms.getD e 0) 0
  (ms.getD j 0 ||| all == all) && (edgesOf o).all (· < j)

def ordB (ms : List Nat) (i j : Nat) : Bool := if i < j then (ms.getD j 0).testBit i else (ms.getD i 0).testBit j

def opdSlots : Opd → List Nat
  | .tmp i => [i]
  | .val _ => []
def opoSlots : Option Opd → List Nat
  | none => []
  | some x => opdSlots x
def MOp.slots : MOp → List Nat
  | .xt _ xs | .call _ xs => xs.flatMap opdSlots
  | .callv f xs => opdSlots f ++ xs.flatMap opdSlots
  | .fn _ xs ys => xs.flatMap opdSlots ++ ys.flatMap opdSlots
  | .mv x | .box x | .load _ x | .nilck x | .un _ x | .conv _ x | .s2b x | .b2s x | .faddr _ x | .part _ _ x | .ext x _ | .len x | .lens x | .cs x | .rng x | .next x => opdSlots x
  | .pick a b c => opdSlots a ++ opdSlots b ++ opdSlots c
  | .new _ => []
  | .build _ ps | .bslice _ _ _ ps => ps.flatMap fun p => opdSlots p.2.2
  | .store _ a b | .bin _ a b | .eqb _ a b | .eqs _ _ a b | .iaddr _ a b | .istr a b | .mkslice _ _ _ a b | .app _ _ a b => opdSlots a ++ opdSlots b
  | .slstr x lo hi | .slsl _ x lo hi => opdSlots x ++ opoSlots lo ++ opoSlots hi

def MOper.reads (o : MOper) : List Nat := o.op.slots ++ (match o.guard with | some (g, _) => [g] | none => [])
def MOper.names (o : MOper) : List Nat := o.dst.toList ++ o.reads

def guardSlot (ops : Array Oper) (o : Oper) : Option (Option (Nat × Bool)) :=
  match o.guard with
  | none => some none
  | some (j, b) => ((ops[j]?).bind (·.dst)).map fun d => some (d, b)

def tmpsOK (ms : List MOper) (mk : List Nat) : Bool :=
  ms.zipIdx.all fun (o, j) => ms.zipIdx.all fun (o', i) =>
    i == j || (match o'.dst with
      | none => true
      | some d => !(o.names.contains d) || ordB mk i j)

def drawOK (ops : Array Oper) (ms : List MOper) : Bool :=
  let mk := masks ops
  (ops.toList.zipIdx.all fun (o, j) => maskOK mk j o) && tmpsOK ms mk

def MOp.writer : MOp → Bool
  | .store .. | .app .. | .next _ => true
  | _ => false

def opAt (P : Program) (X : Ext) (ops : Array Oper) (j : Nat) : Option MOp := (ops[j]?).bind (cOp P X)

def opSlots : Option MOp → List Nat
  | some m => m.addrs.flatMap opdSlots
  | none => []

def isPureO : Option MOp → Bool
  | some m => m.pure
  | none => false

def isLocO : Option MOp → Bool
  | some m => !m.isCall
  | none => false

def isWrO : Option MOp → Bool
  | some m => m.writer
  | none => false

def addrsO : Option MOp → List Opd
  | some m => m.addrs
  | none => []

def chkP (P : Program) (X : Ext) (ops : Array Oper) (ms : List Nat) (j i : Nat) : Bool :=
  !ordB ms j i && isLocO (opAt P X ops j) && isLocO (opAt P X ops i) && !isPureO (opAt P X ops j) && !isPureO (opAt P X ops i) && (isWrO (opAt P X ops j) || isWrO (opAt P X ops i)) &&
    (List.range i).all fun k => decide (k < j) || (match (ops[k]?).bind (·.dst) with | some d => !(opSlots (opAt P X ops j)).contains d | none => true)

def isRdO : Option MOp → Bool
  | some m => m.isRd
  | none => false
def isCallO : Option MOp → Bool
  | some m => m.isCall
  | none => false
def chkC (P : Program) (X : Ext) (ops : Array Oper) (ms : List Nat) (j i : Nat) : Bool :=
  !ordB ms j i && isRdO (opAt P X ops j) && isCallO (opAt P X ops i) &&
    (List.range i).all fun k => decide (k < j) || (match (ops[k]?).bind (·.dst) with | some d => !(opSlots (opAt P X ops j)).contains d | none => true)

def chkOf (P : Program) (X : Ext) (ops : Array Oper) (ms : List Nat) (i : Nat) : List Opd :=
  (List.range i).flatMap fun j => if chkP P X ops ms j i || chkC P X ops ms j i then addrsO (opAt P X ops j) else []

def barOK (P : Program) (X : Ext) (ops : Array Oper) (ms : List Nat) (i : Nat) : Bool :=
  ops.toList.zipIdx.all fun (o, j) => i == j || (((cOp P X o).map MOp.pure).getD false) || ordB ms i j || (if j < i then chkP P X ops ms j i || chkC P X ops ms j i else chkP P X ops ms i j)

def dstOK (N : Nat) (o : Oper) : Bool :=
  match o.dst with
  | none => true
  | some d => decide (d < N)

def cOps (P : Program) (X : Ext) (N : Nat) (ops : Array Oper) (draw : Bool) : List Oper → Nat → Option (List MOper)
  | [], _ => some []
  | o :: r, i => (cOp P X o).bind fun m => (guardSlot ops o).bind fun g => (cOps P X N ops draw r (i + 1)).bind fun ms =>
    if dstOK N o then some ({ dst := o.dst, op := m, guard := g, bar := if draw then barOK P X ops (masks ops) i else true, chk := if draw then chkOf P X ops (masks ops) i else [] } :: ms) else none

def cCode (P : Program) (X : Ext) (N : Nat) (keep : List Nat) : Code → Option MCode
  | .skip => some .skip
  | .region _ ops draw => (cOps P X N ops draw ops.toList 0).bind fun ms => if draw = true ∧ drawOK ops ms = false then none else some (.reg ms keep)
  | .seq a b => (cCode P X N keep a).bind fun a => (cCode P X N keep b).bind fun b => some (.seq a b)
  | .cond c a b => (cOpd c).bind fun c => (cCode P X N keep a).bind fun a => (cCode P X N keep b).bind fun b => some (.cond c a b)
  | .block id c => (cCode P X N keep c).map (.block id)
  | .loop c => (cCode P X N keep c).map .loop
  | .exit id => some (.exit id)
  | .ret => some .ret
  | _ => none

def usesOf (ops : Array Oper) : List Oper → List Nat → List Nat
  | [], _ => []
  | o :: r, def_ =>
    let g := match guardSlot ops o with | some (some (d, _)) => [d] | _ => []
    ((o.op.operands.toList.filterMap fun | .tmp t => some t | _ => none) ++ g).filter (fun t => !def_.contains t) ++ usesOf ops r (if o.guard.isSome then def_ ++ o.dst.toList else o.dst.toList ++ def_)

def liveOf : Code → List Nat
  | .region _ ops _ => usesOf ops ops.toList []
  | .seq a b => liveOf a ++ liveOf b
  | .cond c a b => (match c with | .tmp t => [t] | _ => []) ++ liveOf a ++ liveOf b
  | .block _ c | .loop c => liveOf c
  | _ => []

def insertSorted (n : Nat) : List Nat → List Nat
  | [] => [n]
  | m :: r => if n < m then n :: m :: r else if n = m then m :: r else m :: insertSorted n r

def cRes (P : Program) : List ResultVar → Option (List MRes)
  | [] => some []
  | .tmp t :: r => (cRes P r).map (.tmp t :: ·)
  | .cell a t :: r => (aggN P t).bind fun n => (cRes P r).map (.cell n a :: ·)

def resSlots : List ResultVar → List Nat
  | [] => []
  | .tmp t :: r => t :: resSlots r
  | .cell a _ :: r => a :: resSlots r

def cFunc (P : Program) (X : Ext) (f : FuncId) : Option MFunc :=
  (P.funcs[f]?).bind fun fn => fn.body.bind fun c =>
    if fn.name == "runtime.NumGoroutine" then none else
    let keep := (resSlots fn.results.toList ++ liveOf c).foldl (fun s n => insertSorted n s) []
    (cRes P fn.results.toList).bind fun rs => (cCode P X fn.ntmps keep c).bind fun b => some { params := fn.params.size + fn.nfree, ntmps := fn.ntmps, results := rs, body := b }

def fname (P : Program) (f : FuncId) : String := ((P.funcs[f]?).map (·.name)).getD ""

def prog (P : Program) (X : Ext) : Prog := cFunc P X

end Go.AM
