/- The abstract machine: a deterministic evaluator over loaded Go code, without tape, capacities and orders; and the compiler into its code. -/
import Derived.Orders
import Derived.Below
import Derived.Lib.Bytealg
set_option linter.unusedSimpArgs false
set_option linter.unusedVariables false
set_option maxHeartbeats 4000000
set_option maxRecDepth 100000
namespace Go.AM

inductive Opd where
  | tmp (t : Nat)
  | val (v : Value)

inductive AObj where
  | cells (vs : List Value) (gen : Option Nat) (rw : Bool)
  | iter (s : ByteArray) (pos : Nat)

abbrev Heap := List AObj
abbrev Tm := List (Nat × Value)

def gt : Tm → Nat → Option Value
  | [], _ => none
  | (j, v) :: r, i => if j = i then some v else gt r i

inductive EqK where
  | i (k : IntKind) | s | b

inductive XKind where
  | count | indexByte

inductive MOp where
  | xt (k : XKind) (args : List Opd)
  | mv (x : Opd)
  | pick (c a b : Opd)
  | new (zs : List Value)
  | box (x : Opd)
  | build (zs : List Value) (parts : List (Nat × Nat × Opd))
  | bslice (sz len : Nat) (zs : List Value) (parts : List (Nat × Nat × Opd))
  | load (n : Option Nat) (a : Opd)
  | store (n : Nat) (a x : Opd)
  | nilck (x : Opd)
  | bin (op : BinOp) (x y : Opd)
  | eqb (neg : Bool) (x y : Opd)
  | eqs (neg : Bool) (ks : List EqK) (x y : Opd)
  | un (op : UnOp) (x : Opd)
  | conv (k : IntKind) (x : Opd)
  | s2b (x : Opd)
  | b2s (x : Opd)
  | faddr (off : Nat) (x : Opd)
  | part (off : Nat) (n : Option Nat) (x : Opd)
  | iaddr (sz : Nat) (x i : Opd)
  | istr (x i : Opd)
  | slstr (x : Opd) (lo hi : Option Opd)
  | slsl (sz : Nat) (x : Opd) (lo hi : Option Opd)
  | mkslice (sz bytes : Nat) (zs : List Value) (n c : Opd)
  | ext (x : Opd) (i : Nat)
  | len (x : Opd)
  | lens (x : Opd)
  | cs (x : Opd)
  | app (sz bytes : Nat) (x y : Opd)
  | rng (x : Opd)
  | next (x : Opd)
  | fn (f : Fn) (first captured : List Opd)
  | call (f : FuncId) (args : List Opd)
  | callv (f : Opd) (args : List Opd)

structure MOper where
  dst : Option Nat
  op : MOp
  guard : Option (Nat × Bool)
  bar : Bool
  chk : List Opd

def MOp.isCall : MOp → Bool
  | .call .. | .callv .. => true
  | _ => false

def MOp.isRd : MOp → Bool
  | .load .. | .b2s _ => true
  | _ => false

def MOp.addrs : MOp → List Opd
  | .load _ a | .b2s a | .next a | .store _ a _ => [a]
  | .app _ _ x y => [x, y]
  | _ => []

inductive MCode where
  | skip
  | reg (ops : List MOper) (keep : List Nat)
  | seq (a b : MCode)
  | cond (c : Opd) (a b : MCode)
  | block (id : Nat) (c : MCode)
  | loop (c : MCode)
  | exit (id : Nat)
  | ret

inductive Ex where
  | n | x (id : Nat) | r

inductive MRes where
  | tmp (t : Nat)
  | cell (n : Option Nat) (t : Nat)

structure MFunc where
  params : Nat
  ntmps : Nat
  results : List MRes
  body : MCode

abbrev Res := Value × Heap × Nat
abbrev ExR := Ex × Tm × Heap × Nat

def ev (t : Tm) : Opd → Option Value
  | .tmp i => gt t i
  | .val v => some v

def evs (t : Tm) : List Opd → Option (List Value)
  | [] => some []
  | x :: r => (ev t x).bind fun v => (evs t r).bind fun vs => some (v :: vs)

def evo (t : Tm) : Option Opd → Option (Option Value)
  | none => some none
  | some x => (ev t x).map some

def evp (t : Tm) : List (Nat × Nat × Opd) → Option (List (Nat × Nat × Value))
  | [] => some []
  | (o, s, x) :: r => (ev t x).bind fun v => (evp t r).bind fun vs => some ((o, s, v) :: vs)

def blkOf : Option Value → Option Nat
  | some (.pointer (some a)) => some a.block
  | some (.slice (some a) _ _) => some a.block
  | _ => none

def foot (t : Tm) (m : MOp) : List Nat := m.addrs.filterMap fun x => blkOf (ev t x)

def apart (x y : Option Value) : Bool :=
  match blkOf x, blkOf y with
  | some a, some b => a != b
  | _, _ => true

def apart1 (t : Tm) (v : Option Value) : List Opd → Bool
  | [] => true
  | y :: ys => apart v (ev t y) && apart1 t v ys

def apartAll (t : Tm) : List Opd → List Opd → Bool
  | [], _ => true
  | x :: xs, ys => apart1 t (ev t x) ys && apartAll t xs ys

def sameAt (h h' : Heap) : Option Nat → Prop
  | some b => h'[b]? = h[b]?
  | none => True

def sameAll (t : Tm) (h h' : Heap) : List Opd → Prop
  | [] => True
  | y :: ys => sameAt h h' (blkOf (ev t y)) ∧ sameAll t h h' ys

def tell (o : MOp) (t : Tm) (h h' : Heap) (c : List Opd) : Prop := if o.isCall = true then sameAll t h h' c else apartAll t o.addrs c = true

def put (t : Tm) : Option Nat → Value → Tm
  | some d, v => (d, v) :: t
  | none, _ => t

def undefV : Value := .tuple #[]

def isCell : Value → Bool
  | .agg _ | .tuple _ => false
  | _ => true

def cellsOf : Value → List Value
  | .agg cs => cs.toList
  | v => [v]

def flat0 : Value → Bool
  | .bool _ | .int _ _ | .string _ | .nilFunc | .nilIface => true
  | .slice none n c => n == 0 && c == 0
  | .pointer none => true
  | .map none => true
  | _ => false
def flat1 : Value → Bool
  | .agg cs => cs.toList.all flat0
  | .func _ fs cs => fs.toList.all flat0 && cs.toList.all flat0
  | v => flat0 v
def flat : Value → Bool
  | .tuple vs => vs.toList.all flat1
  | v => flat1 v

def splice (cs : List Value) (off : Nat) (l : List Value) : List Value := cs.take off ++ l ++ cs.drop (off + l.length)

def fillL (cs : List Value) : List (Nat × Nat × Value) → Option (List Value)
  | [] => some cs
  | (off, size, v) :: r => if (cellsOf v).length = size ∧ off + size ≤ cs.length then fillL (splice cs off (cellsOf v)) r else none

def look (h : Heap) (a : Addr) : Option (List Value × Bool) :=
  match h[a.block]? with
  | some (.cells vs g rw) => if g = a.spot then some (vs, rw) else none
  | _ => none

def nextg : Option Nat → Option Nat
  | none => some 0
  | some k => some (k + 1)

def abin (op : BinOp) (x y : Value) : Option Value :=
  match x, y with
  | .int k a, .int k' b =>
    match op with
    | .shl => if b < 0 then none else some (.int k (k.wrap (a * 2 ^ min b.toNat k.bits)))
    | .shr => if b < 0 then none else some (.int k (a.fdiv (2 ^ min b.toNat k.bits)))
    | _ => if k = k' then
      match op with
      | .add => some (.int k (k.wrap (a + b)))
      | .sub => some (.int k (k.wrap (a - b)))
      | .mul => some (.int k (k.wrap (a * b)))
      | .quo => if b = 0 then none else some (.int k (k.wrap (a.tdiv b)))
      | .rem => if b = 0 then none else some (.int k (a.tmod b))
      | .and => some (.int k (k.wrap (BitVec.ofInt k.bits a &&& BitVec.ofInt k.bits b).toNat))
      | .eql => some (.bool (a == b))
      | .neq => some (.bool (a != b))
      | .lss => some (.bool (a < b))
      | .leq => some (.bool (a ≤ b))
      | .gtr => some (.bool (a > b))
      | .geq => some (.bool (a ≥ b))
      | _ => none
      else none
  | .string a, .string b =>
    match op with
    | .add => if a.size + b.size ≤ 9223372036854775807 then some (.string (a ++ b)) else none
    | .eql => some (.bool (a.toList == b.toList))
    | .neq => some (.bool !(a.toList == b.toList))
    | .lss => some (.bool (Op.bytesLess a.toList b.toList))
    | .leq => some (.bool (Op.bytesLess a.toList b.toList || a.toList == b.toList))
    | .gtr => some (.bool !(Op.bytesLess a.toList b.toList || a.toList == b.toList))
    | .geq => some (.bool !(Op.bytesLess a.toList b.toList))
    | _ => none
  | _, _ => none

def aun (op : UnOp) (x : Value) : Option Value :=
  match op, x with
  | .neg, .int k n => some (.int k (k.wrap (0 - n)))
  | .not, .bool b => some (.bool !b)
  | _, _ => none

def eqCells : List EqK → List Value → List Value → Option Bool
  | [], [], [] => some true
  | .i k :: ks, .int k1 a :: xs, .int k2 b :: ys => if k1 = k ∧ k2 = k then (eqCells ks xs ys).map fun r => a == b && r else none
  | .s :: ks, .string a :: xs, .string b :: ys => (eqCells ks xs ys).map fun r => a == b && r
  | .b :: ks, .bool a :: xs, .bool b :: ys => (eqCells ks xs ys).map fun r => a == b && r
  | _, _, _ => none

def bytesV (s : ByteArray) : List Value := s.data.toList.map fun b => .int .u8 b.toNat

def vBytes : List Value → Option (List UInt8)
  | [] => some []
  | .int .u8 n :: r => (vBytes r).map fun l => UInt8.ofNat n.toNat :: l
  | _ => none

def bound (x : Option Value) (d y : Nat) : Option Nat :=
  match x with
  | none => some d
  | some (.int _ i) => if 0 ≤ i ∧ i ≤ y then some i.toNat else none
  | _ => none

def room : Nat := 140737488355328

def appArg (h : Heap) (sz : Nat) (y : Value) : Option (Nat × List Value) :=
  match y with
  | .slice none 0 0 => some (0, [])
  | .slice (some a) n _ => (look h a).bind fun (vs, _) => if a.off + n * sz ≤ vs.length then some (n, (vs.drop a.off).take (n * sz)) else none
  | .string s => if sz = 1 then some (s.size, bytesV s) else none
  | _ => none

def axt (k : XKind) (vs : List Value) : Option Value :=
  match k, vs with
  | .count, [.string s, .int .u8 c] => some (.int .i64 (s.data.toList.count c.toNat.toUInt8 : Nat))
  | .indexByte, [.string s, .int .u8 c] => some (.int .i64 (Lib.indexByte s.data.toList c.toNat.toUInt8))
  | _, _ => none

def aop (t : Tm) (h : Heap) : MOp → Option Res
  | .xt k args => (evs t args).bind fun vs => (axt k vs).bind fun v => some (v, h, h.length)
  | .mv x => (ev t x).bind fun v => some (v, h, h.length)
  | .pick c a b => (ev t c).bind fun c => (ev t a).bind fun a => (ev t b).bind fun b =>
    match c with
    | .bool c => some (if c then a else b, h, h.length)
    | _ => none
  | .new zs => some (.pointer (some ⟨h.length, 0, none⟩), h ++ [.cells zs none true], h.length)
  | .box x => (ev t x).bind fun v => if (cellsOf v).all isCell = true then some (.pointer (some ⟨h.length, 0, none⟩), h ++ [.cells (cellsOf v) none true], h.length) else none
  | .build zs ps => (evp t ps).bind fun ps => (fillL zs ps).bind fun cs => some (.agg cs.toArray, h, h.length)
  | .bslice sz len zs ps => (evp t ps).bind fun ps => (fillL zs ps).bind fun cs =>
    if cs.all isCell = false then none else some (.slice (some ⟨h.length, 0, none⟩) len sz, h ++ [.cells cs none true], h.length)
  | .load n a => (ev t a).bind fun a =>
    match a with
    | .pointer (some a) => (look h a).bind fun (vs, _) =>
      match n with
      | none => (vs[a.off]?).bind fun v => some (v, h, h.length)
      | some n => if a.off + n ≤ vs.length then some (.agg ((vs.drop a.off).take n).toArray, h, h.length) else none
    | _ => none
  | .store n a x => (ev t a).bind fun a => (ev t x).bind fun x =>
    match a with
    | .pointer (some a) => (look h a).bind fun (vs, rw) =>
      if rw = true ∧ (cellsOf x).length = n ∧ a.off + n ≤ vs.length ∧ (cellsOf x).all isCell = true then
        some (undefV, h.set a.block (.cells (splice vs a.off (cellsOf x)) a.spot true), a.block)
      else none
    | _ => none
  | .nilck x => (ev t x).bind fun v =>
    match v with
    | .pointer (some a) => some (.pointer (some a), h, h.length)
    | .func (.func f) fs cs => some (.func (.func f) fs cs, h, h.length)
    | _ => none
  | .bin op x y => (ev t x).bind fun x => (ev t y).bind fun y => (abin op x y).bind fun v => some (v, h, h.length)
  | .eqb neg x y => (ev t x).bind fun x => (ev t y).bind fun y =>
    match x, y with
    | .bool a, .bool b => some (.bool (if neg then !(a == b) else a == b), h, h.length)
    | _, _ => none
  | .eqs neg ks x y => (ev t x).bind fun x => (ev t y).bind fun y =>
    match x, y with
    | .agg xs, .agg ys => (eqCells ks xs.toList ys.toList).bind fun b => some (.bool (if neg then !b else b), h, h.length)
    | _, _ => none
  | .un op x => (ev t x).bind fun x => (aun op x).bind fun v => some (v, h, h.length)
  | .conv k x => (ev t x).bind fun x =>
    match x with
    | .int _ n => some (.int k (k.wrap n), h, h.length)
    | _ => none
  | .s2b x => (ev t x).bind fun x =>
    match x with
    | .string s => some (.slice (some ⟨h.length, 0, none⟩) s.size 1, h ++ [.cells (bytesV s) none true], h.length)
    | _ => none
  | .b2s x => (ev t x).bind fun x =>
    match x with
    | .slice none 0 0 => some (.string ⟨#[]⟩, h, h.length)
    | .slice (some a) n _ => (look h a).bind fun (vs, _) =>
      if a.off + n ≤ vs.length then (vBytes ((vs.drop a.off).take n)).bind fun l => some (.string ⟨l.toArray⟩, h, h.length) else none
    | _ => none
  | .faddr off x => (ev t x).bind fun x =>
    match x with
    | .pointer (some a) => some (.pointer (some ⟨a.block, a.off + off, a.spot⟩), h, h.length)
    | _ => none
  | .part off n x => (ev t x).bind fun x =>
    match x with
    | .agg cs =>
      match n with
      | none => (cs.toList[off]?).bind fun v => some (v, h, h.length)
      | some n => some (.agg ((cs.toList.drop off).take n).toArray, h, h.length)
    | _ => none
  | .iaddr sz x i => (ev t x).bind fun x => (ev t i).bind fun i =>
    match x, i with
    | .slice (some a) n _, .int _ i => if 0 ≤ i ∧ i < n then some (.pointer (some ⟨a.block, a.off + i.toNat * sz, a.spot⟩), h, h.length) else none
    | _, _ => none
  | .istr x i => (ev t x).bind fun x => (ev t i).bind fun i =>
    match x, i with
    | .string s, .int _ i => if 0 ≤ i then (s.data.toList[i.toNat]?).bind fun b => some (.int .u8 b.toNat, h, h.length) else none
    | _, _ => none
  | .slstr x lo hi => (ev t x).bind fun x => (evo t lo).bind fun lo => (evo t hi).bind fun hi =>
    match x with
    | .string s => (bound hi s.size s.size).bind fun hi => (bound lo 0 hi).bind fun lo => some (.string (s.extract lo hi), h, h.length)
    | _ => none
  | .slsl sz x lo hi => (ev t x).bind fun x => (evo t lo).bind fun lo => (evo t hi).bind fun hi =>
    match x with
    | .slice (some a) n c => if c = sz then (bound hi n n).bind fun hi => (bound lo 0 hi).bind fun lo =>
      some (.slice (some ⟨a.block, a.off + lo * sz, a.spot⟩) (hi - lo) sz, h, h.length) else none
    | .slice none 0 0 => (bound hi 0 0).bind fun hi => (bound lo 0 hi).bind fun _ => some (.slice none 0 0, h, h.length)
    | _ => none
  | .mkslice sz bytes zs n c => (ev t n).bind fun n => (ev t c).bind fun c =>
    match n, c with
    | .int .i64 n, .int .i64 c => if 0 ≤ n ∧ n = c ∧ c < 140737488355328 ∧ bytes * c ≤ 140737488355328 then
        some (.slice (some ⟨h.length, 0, none⟩) n.toNat sz, h ++ [.cells (List.replicate n.toNat zs).flatten none true], h.length) else none
    | _, _ => none
  | .ext x i => (ev t x).bind fun x =>
    match x with
    | .tuple vs => (vs.toList[i]?).bind fun v => some (v, h, h.length)
    | _ => none
  | .len x => (ev t x).bind fun x =>
    match x with
    | .slice _ n _ => some (.int .i64 n, h, h.length)
    | _ => none
  | .lens x => (ev t x).bind fun x =>
    match x with
    | .string s => some (.int .i64 s.size, h, h.length)
    | _ => none
  | .cs x => (ev t x).bind fun x =>
    match x with
    | .string s => some (.string s, h, h.length)
    | _ => none
  | .app sz bytes x y => (ev t x).bind fun x => (ev t y).bind fun y =>
    (appArg h sz y).bind fun (m, new) =>
    match x with
    | .slice none 0 0 =>
      if m = 0 then some (.slice none 0 0, h, h.length)
      else if m * bytes ≤ room then some (.slice (some ⟨h.length, 0, none⟩) m sz, h ++ [.cells new none true], h.length)
      else none
    | .slice (some a) n c => (look h a).bind fun (vs, rw) =>
      if rw = true ∧ c = sz ∧ a.off + n * sz ≤ vs.length ∧ (n + m) * bytes ≤ room then
        if m = 0 then some (.slice (some a) n c, h, h.length)
        else some (.slice (some ⟨a.block, 0, nextg a.spot⟩) (n + m) sz, h.set a.block (.cells ((vs.drop a.off).take (n * sz) ++ new) (nextg a.spot) true), a.block)
      else none
    | _ => none
  | .rng x => (ev t x).bind fun x =>
    match x with
    | .string s => some (.pointer (some ⟨h.length, 0, none⟩), h ++ [.iter s 0], h.length)
    | _ => none
  | .next x => (ev t x).bind fun x =>
    match x with
    | .pointer (some ⟨b, 0, none⟩) =>
      match h[b]? with
      | some (.iter s pos) =>
        if pos < s.size then
          some (.tuple #[.bool true, .int .i64 pos, .int .i32 (Utf8.decode s pos).1], h.set b (.iter s (pos + (Utf8.decode s pos).2)), b)
        else some (.tuple #[.bool false], h, h.length)
      | _ => none
    | _ => none
  | .fn f first captured => (evs t first).bind fun fs => (evs t captured).bind fun cs => some (.func f fs.toArray cs.toArray, h, h.length)
  | .call _ _ => none
  | .callv _ _ => none

def keepT (t : Tm) : List Nat → Tm
  | [] => []
  | i :: r =>
    match gt t i with
    | some v => (i, v) :: keepT t r
    | none => keepT t r

def argT : Nat → List Value → Tm
  | _, [] => []
  | i, v :: r => (i, v) :: argT (i + 1) r

def loadA (h : Heap) (n : Option Nat) : Value → Option Value
  | .pointer (some a) => (look h a).bind fun (vs, _) =>
    match n with
    | none => vs[a.off]?
    | some n => if a.off + n ≤ vs.length then some (.agg ((vs.drop a.off).take n).toArray) else none
  | _ => none

def ares (t : Tm) (h : Heap) : List MRes → Option (List Value)
  | [] => some []
  | .tmp i :: r => (gt t i).bind fun v => (ares t h r).bind fun vs => some (v :: vs)
  | .cell n i :: r => (gt t i).bind fun a => (loadA h n a).bind fun v => (ares t h r).bind fun vs => some (v :: vs)

def oneOr : List Value → Value
  | [v] => v
  | vs => .tuple vs.toArray

def finish (h0 : Heap) (v : Value) (h : Heap) (l : Nat) : Res :=
  if h0.length ≤ l ∧ flat v = true then (v, h0, h0.length) else (v, h, l)

abbrev Prog := FuncId → Option MFunc

structure Fs where
  call : FuncId → List Value → Heap → Option Res
  code : MCode → Tm → Heap → Nat → Option ExR
  ops : List MOper → Tm → Heap → Nat → Option (Tm × Heap × Nat)
  one : MOper → List MOper → Tm → Heap → Nat → Option (Tm × Heap × Nat)
  act : MOp → Tm → Heap → Option Res

def sCall (M : Prog) (F : Fs) (f : FuncId) (args : List Value) (h : Heap) : Option Res := do
  let mf ← M f
  let r ← F.code mf.body (argT 0 args) h h.length
  match r with
  | (.x _, _, _, _) => none
  | (_, t, h', l) => do
    let vs ← ares t h' mf.results
    some (finish h (oneOr vs) h' l)

def sCode (F : Fs) (c : MCode) (t : Tm) (h : Heap) (l : Nat) : Option ExR :=
  match c with
  | .skip => some (.n, t, h, l)
  | .ret => some (.r, t, h, l)
  | .exit i => some (.x i, t, h, l)
  | .seq a b => do
    let r ← F.code a t h l
    match r with
    | (.n, t, h, l) => F.code b t h l
    | (e, t, h, l) => some (e, t, h, l)
  | .cond c a b => match ev t c with
    | some (.bool x) => if x = true then F.code a t h l else F.code b t h l
    | _ => none
  | .block i c => do
    let r ← F.code c t h l
    match r with
    | (.x j, t, h, l) => if j = i then some (.n, t, h, l) else some (.x j, t, h, l)
    | (e, t, h, l) => some (e, t, h, l)
  | .loop c => do
    let r ← F.code c t h l
    match r with
    | (.n, t, h, l) => F.code (.loop c) t h l
    | (e, t, h, l) => some (e, t, h, l)
  | .reg ops keep => do
    let r ← F.ops ops t h l
    some (.n, keepT r.1 keep, r.2)

def sOps (F : Fs) (ops : List MOper) (t : Tm) (h : Heap) (l : Nat) : Option (Tm × Heap × Nat) :=
  match ops with
  | [] => some (t, h, l)
  | o :: r =>
    match o.guard with
    | none => F.one o r t h l
    | some (g, b) =>
      match gt t g with
      | some (.bool x) => if x = b then F.one o r t h l else F.ops r (put t o.dst undefV) h l
      | some _ => F.ops r (put t o.dst undefV) h l
      | none => none

open Classical in
noncomputable def sOne (F : Fs) (o : MOper) (r : List MOper) (t : Tm) (h : Heap) (l : Nat) : Option (Tm × Heap × Nat) := do
  let x ← F.act o.op t h
  if (h.length ≤ x.2.2 ∨ o.bar = true) ∧ tell o.op t h x.2.1 o.chk then F.ops r (put t o.dst x.1) x.2.1 (min l x.2.2) else none

def sDo (F : Fs) (o : MOp) (t : Tm) (h : Heap) : Option Res :=
  match o with
  | .call f args => do
    let vs ← evs t args
    F.call f vs h
  | .callv f args => do
    let fv ← ev t f
    let vs ← evs t args
    match fv with
    | .func (.func g) fs cs => F.call g (fs.toList ++ vs ++ cs.toList) h
    | _ => none
  | o => aop t h o

noncomputable def stepF (M : Prog) (F : Fs) : Fs := ⟨sCall M F, sCode F, sOps F, sOne F, sDo F⟩

noncomputable def itF (M : Prog) : Nat → Fs
  | 0 => ⟨fun _ _ _ => none, fun _ _ _ _ => none, fun _ _ _ _ => none, fun _ _ _ _ _ => none, fun _ _ _ => none⟩
  | n + 1 => stepF M (itF M n)

theorem itF_call {M : Prog} {n : Nat} {f : FuncId} {args : List Value} {h : Heap} : (itF M (n + 1)).call f args h = sCall M (itF M n) f args h := rfl
theorem itF_code {M : Prog} {n : Nat} {c : MCode} {t : Tm} {h : Heap} {l : Nat} : (itF M (n + 1)).code c t h l = sCode (itF M n) c t h l := rfl
theorem itF_ops {M : Prog} {n : Nat} {c : List MOper} {t : Tm} {h : Heap} {l : Nat} : (itF M (n + 1)).ops c t h l = sOps (itF M n) c t h l := rfl
theorem itF_one {M : Prog} {n : Nat} {o : MOper} {c : List MOper} {t : Tm} {h : Heap} {l : Nat} : (itF M (n + 1)).one o c t h l = sOne (itF M n) o c t h l := rfl
theorem itF_act {M : Prog} {n : Nat} {o : MOp} {t : Tm} {h : Heap} : (itF M (n + 1)).act o t h = sDo (itF M n) o t h := rfl

structure Fs.Le (A B : Fs) : Prop where
  call : ∀ f args h r, A.call f args h = some r → B.call f args h = some r
  code : ∀ c t h l r, A.code c t h l = some r → B.code c t h l = some r
  ops : ∀ c t h l r, A.ops c t h l = some r → B.ops c t h l = some r
  one : ∀ o c t h l r, A.one o c t h l = some r → B.one o c t h l = some r
  act : ∀ o t h r, A.act o t h = some r → B.act o t h = some r

theorem sCall_mono {M : Prog} {A B : Fs} (h : A.Le B) {f : FuncId} {args : List Value} {hp : Heap} {r : Res} (hr : sCall M A f args hp = some r) : sCall M B f args hp = some r := by
  unfold sCall at hr ⊢
  simp only [Option.bind_eq_bind, Option.bind_eq_some_iff] at hr ⊢
  obtain ⟨mf, h1, x, h2, h3⟩ := hr
  exact ⟨mf, h1, x, h.code _ _ _ _ _ h2, h3⟩

theorem sCode_mono {A B : Fs} (h : A.Le B) {c : MCode} {t : Tm} {hp : Heap} {l : Nat} {r : ExR} (hr : sCode A c t hp l = some r) : sCode B c t hp l = some r := by
  cases c <;> simp only [sCode, Option.bind_eq_bind, Option.bind_eq_some_iff] at hr ⊢
  case seq a b =>
    obtain ⟨x, h1, h2⟩ := hr
    refine ⟨x, h.code _ _ _ _ _ h1, ?_⟩
    split at h2
    · exact h.code _ _ _ _ _ h2
    · exact h2
  case cond c a b =>
    split at hr
    · split at hr
      · rename_i hb; rw [if_pos hb]; exact h.code _ _ _ _ _ hr
      · rename_i hb; rw [if_neg hb]; exact h.code _ _ _ _ _ hr
    · cases hr
  case block i c =>
    obtain ⟨x, h1, h2⟩ := hr
    exact ⟨x, h.code _ _ _ _ _ h1, h2⟩
  case loop c =>
    obtain ⟨x, h1, h2⟩ := hr
    refine ⟨x, h.code _ _ _ _ _ h1, ?_⟩
    split at h2
    · exact h.code _ _ _ _ _ h2
    · exact h2
  case reg ops keep =>
    obtain ⟨x, h1, h2⟩ := hr
    exact ⟨x, h.ops _ _ _ _ _ h1, h2⟩
  all_goals exact hr

theorem sOps_mono {A B : Fs} (h : A.Le B) {c : List MOper} {t : Tm} {hp : Heap} {l : Nat} {r : Tm × Heap × Nat} (hr : sOps A c t hp l = some r) : sOps B c t hp l = some r := by
  cases c with
  | nil => exact hr
  | cons o c =>
    simp only [sOps] at hr ⊢
    split at hr
    · exact h.one _ _ _ _ _ _ hr
    · split at hr
      · split at hr
        · rename_i hb; rw [if_pos hb]; exact h.one _ _ _ _ _ _ hr
        · rename_i hb; rw [if_neg hb]; exact h.ops _ _ _ _ _ hr
      · exact h.ops _ _ _ _ _ hr
      · cases hr

theorem sOne_mono {A B : Fs} (h : A.Le B) {o : MOper} {c : List MOper} {t : Tm} {hp : Heap} {l : Nat} {r : Tm × Heap × Nat} (hr : sOne A o c t hp l = some r) : sOne B o c t hp l = some r := by
  unfold sOne at hr ⊢
  simp only [Option.bind_eq_bind, Option.bind_eq_some_iff] at hr ⊢
  obtain ⟨x, h1, h2⟩ := hr
  refine ⟨x, h.act _ _ _ _ h1, ?_⟩
  split at h2
  · rename_i hb; rw [if_pos hb]; exact h.ops _ _ _ _ _ h2
  · cases h2

theorem sDo_mono {A B : Fs} (h : A.Le B) {o : MOp} {t : Tm} {hp : Heap} {r : Res} (hr : sDo A o t hp = some r) : sDo B o t hp = some r := by
  unfold sDo at hr ⊢
  split at hr
  · simp only [Option.bind_eq_bind, Option.bind_eq_some_iff] at hr ⊢
    obtain ⟨vs, h1, h2⟩ := hr
    exact ⟨vs, h1, h.call _ _ _ _ h2⟩
  · simp only [Option.bind_eq_bind, Option.bind_eq_some_iff] at hr ⊢
    obtain ⟨fv, h1, vs, h2, h3⟩ := hr
    refine ⟨fv, h1, vs, h2, ?_⟩
    split at h3
    · exact h.call _ _ _ _ h3
    · cases h3
  · exact hr

theorem stepF_mono {M : Prog} {A B : Fs} (h : A.Le B) : (stepF M A).Le (stepF M B) :=
  ⟨fun _ _ _ _ => sCall_mono h, fun _ _ _ _ _ => sCode_mono h, fun _ _ _ _ _ => sOps_mono h, fun _ _ _ _ _ _ => sOne_mono h, fun _ _ _ _ => sDo_mono h⟩

theorem Fs.Le.refl (A : Fs) : A.Le A := ⟨fun _ _ _ _ h => h, fun _ _ _ _ _ h => h, fun _ _ _ _ _ h => h, fun _ _ _ _ _ _ h => h, fun _ _ _ _ h => h⟩
theorem Fs.Le.trans {A B C : Fs} (h : A.Le B) (k : B.Le C) : A.Le C :=
  ⟨fun _ _ _ _ x => k.call _ _ _ _ (h.call _ _ _ _ x), fun _ _ _ _ _ x => k.code _ _ _ _ _ (h.code _ _ _ _ _ x), fun _ _ _ _ _ x => k.ops _ _ _ _ _ (h.ops _ _ _ _ _ x), fun _ _ _ _ _ _ x => k.one _ _ _ _ _ _ (h.one _ _ _ _ _ _ x), fun _ _ _ _ x => k.act _ _ _ _ (h.act _ _ _ _ x)⟩

theorem itF_succ (M : Prog) : ∀ n, (itF M n).Le (itF M (n + 1))
  | 0 => ⟨fun _ _ _ _ h => (by cases h), fun _ _ _ _ _ h => (by cases h), fun _ _ _ _ _ h => (by cases h), fun _ _ _ _ _ _ h => (by cases h), fun _ _ _ _ h => by cases h⟩
  | n + 1 => stepF_mono (itF_succ M n)

theorem itF_le (M : Prog) {n : Nat} : ∀ {m : Nat}, n ≤ m → (itF M n).Le (itF M m)
  | 0, h => by have : n = 0 := by omega
               subst this; exact Fs.Le.refl _
  | m + 1, h => by
    by_cases e : n = m + 1
    · subst e; exact Fs.Le.refl _
    · exact (itF_le M (by omega : n ≤ m)).trans (itF_succ M m)

open Classical in

noncomputable def lim {α : Type} (g : Nat → Option α) : Option α := if h : ∃ n a, g n = some a then g (Classical.choose h) else none

theorem lim_iff {α : Type} {g : Nat → Option α} (hg : ∀ n m a, n ≤ m → g n = some a → g m = some a) {a : α} : lim g = some a ↔ ∃ n, g n = some a := by
  unfold lim
  constructor
  · intro h
    split at h
    · exact ⟨_, h⟩
    · cases h
  · rintro ⟨n, hn⟩
    have hex : ∃ n a, g n = some a := ⟨n, a, hn⟩
    rw [dif_pos hex]
    obtain ⟨b, hb⟩ := Classical.choose_spec hex
    have h1 := hg _ _ _ (Nat.le_max_left n (Classical.choose hex)) hn
    have h2 := hg _ _ _ (Nat.le_max_right n (Classical.choose hex)) hb
    rw [h1] at h2
    rw [hb, h2]

noncomputable def acall (M : Prog) (f : FuncId) (args : List Value) (h : Heap) : Option Res := lim fun n => (itF M n).call f args h
noncomputable def acode (M : Prog) (c : MCode) (t : Tm) (h : Heap) (l : Nat) : Option ExR := lim fun n => (itF M n).code c t h l
noncomputable def aops (M : Prog) (c : List MOper) (t : Tm) (h : Heap) (l : Nat) : Option (Tm × Heap × Nat) := lim fun n => (itF M n).ops c t h l
noncomputable def aone (M : Prog) (o : MOper) (c : List MOper) (t : Tm) (h : Heap) (l : Nat) : Option (Tm × Heap × Nat) := lim fun n => (itF M n).one o c t h l
noncomputable def ado (M : Prog) (o : MOp) (t : Tm) (h : Heap) : Option Res := lim fun n => (itF M n).act o t h

noncomputable def limF (M : Prog) : Fs := ⟨acall M, acode M, aops M, aone M, ado M⟩

section
variable {M : Prog}
theorem acall_iff {f : FuncId} {args : List Value} {h : Heap} {r : Res} : acall M f args h = some r ↔ ∃ n, (itF M n).call f args h = some r := lim_iff fun _ _ _ hnm => (itF_le M hnm).call _ _ _ _
theorem acode_iff {c : MCode} {t : Tm} {h : Heap} {l : Nat} {r : ExR} : acode M c t h l = some r ↔ ∃ n, (itF M n).code c t h l = some r := lim_iff fun _ _ _ hnm => (itF_le M hnm).code _ _ _ _ _
theorem aops_iff {c : List MOper} {t : Tm} {h : Heap} {l : Nat} {r : Tm × Heap × Nat} : aops M c t h l = some r ↔ ∃ n, (itF M n).ops c t h l = some r := lim_iff fun _ _ _ hnm => (itF_le M hnm).ops _ _ _ _ _
theorem aone_iff {o : MOper} {c : List MOper} {t : Tm} {h : Heap} {l : Nat} {r : Tm × Heap × Nat} : aone M o c t h l = some r ↔ ∃ n, (itF M n).one o c t h l = some r := lim_iff fun _ _ _ hnm => (itF_le M hnm).one _ _ _ _ _ _
theorem ado_iff {o : MOp} {t : Tm} {h : Heap} {r : Res} : ado M o t h = some r ↔ ∃ n, (itF M n).act o t h = some r := lim_iff fun _ _ _ hnm => (itF_le M hnm).act _ _ _ _

theorem itF_lim (n : Nat) : (itF M n).Le (limF M) :=
  ⟨fun _ _ _ _ h => acall_iff.2 ⟨n, h⟩, fun _ _ _ _ _ h => acode_iff.2 ⟨n, h⟩, fun _ _ _ _ _ h => aops_iff.2 ⟨n, h⟩, fun _ _ _ _ _ _ h => aone_iff.2 ⟨n, h⟩, fun _ _ _ _ h => ado_iff.2 ⟨n, h⟩⟩

theorem opt_ext {α : Type} {x y : Option α} (h : ∀ a, x = some a ↔ y = some a) : x = y := by
  cases x with
  | none => cases y with
    | none => rfl
    | some b => exact absurd ((h b).2 rfl) (by simp)
  | some a => exact ((h a).1 rfl).symm

theorem acall_eq {f : FuncId} {args : List Value} {h : Heap} : acall M f args h = sCall M (limF M) f args h := by
  refine opt_ext fun r => ?_
  rw [acall_iff]
  constructor
  · rintro ⟨n, hn⟩
    cases n with
    | zero => cases hn
    | succ n => rw [itF_call] at hn; exact sCall_mono (itF_lim n) hn
  · intro hr
    unfold sCall at hr
    simp only [Option.bind_eq_bind, Option.bind_eq_some_iff] at hr
    obtain ⟨mf, h1, x, h2, h3⟩ := hr
    obtain ⟨n, hn⟩ := acode_iff.1 h2
    refine ⟨n + 1, ?_⟩
    rw [itF_call]
    unfold sCall
    simp only [Option.bind_eq_bind, Option.bind_eq_some_iff]
    exact ⟨mf, h1, x, hn, h3⟩

theorem acode_eq {c : MCode} {t : Tm} {h : Heap} {l : Nat} : acode M c t h l = sCode (limF M) c t h l := by
  refine opt_ext fun r => ?_
  rw [acode_iff]
  constructor
  · rintro ⟨n, hn⟩
    cases n with
    | zero => cases hn
    | succ n => rw [itF_code] at hn; exact sCode_mono (itF_lim n) hn
  · intro hr
    cases c <;> simp only [sCode, Option.bind_eq_bind, Option.bind_eq_some_iff] at hr
    case seq a b =>
      obtain ⟨⟨e, t1, hp1, l1⟩, h1, h2⟩ := hr
      obtain ⟨n, hn⟩ := acode_iff.1 h1
      cases e with
      | n =>
        obtain ⟨m, hm⟩ := acode_iff.1 h2
        refine ⟨max n m + 1, ?_⟩
        rw [itF_code]
        simp only [sCode, Option.bind_eq_bind, Option.bind_eq_some_iff]
        exact ⟨_, (itF_le M (Nat.le_max_left n m)).code _ _ _ _ _ hn, (itF_le M (Nat.le_max_right n m)).code _ _ _ _ _ hm⟩
      | x i =>
        refine ⟨n + 1, ?_⟩
        rw [itF_code]
        simp only [sCode, Option.bind_eq_bind, Option.bind_eq_some_iff]
        exact ⟨_, hn, h2⟩
      | r =>
        refine ⟨n + 1, ?_⟩
        rw [itF_code]
        simp only [sCode, Option.bind_eq_bind, Option.bind_eq_some_iff]
        exact ⟨_, hn, h2⟩
    case cond c a b =>
      split at hr
      · rename_i x hx
        split at hr
        · rename_i hb
          obtain ⟨n, hn⟩ := acode_iff.1 hr
          refine ⟨n + 1, ?_⟩
          rw [itF_code]
          simp only [sCode, hx]
          rw [if_pos hb]; exact hn
        · rename_i hb
          obtain ⟨n, hn⟩ := acode_iff.1 hr
          refine ⟨n + 1, ?_⟩
          rw [itF_code]
          simp only [sCode, hx]
          rw [if_neg hb]; exact hn
      · cases hr
    case block i c =>
      obtain ⟨x, h1, h2⟩ := hr
      obtain ⟨n, hn⟩ := acode_iff.1 h1
      refine ⟨n + 1, ?_⟩
      rw [itF_code]
      simp only [sCode, Option.bind_eq_bind, Option.bind_eq_some_iff]
      exact ⟨x, hn, h2⟩
    case loop c =>
      obtain ⟨⟨e, t1, hp1, l1⟩, h1, h2⟩ := hr
      obtain ⟨n, hn⟩ := acode_iff.1 h1
      cases e with
      | n =>
        obtain ⟨m, hm⟩ := acode_iff.1 h2
        refine ⟨max n m + 1, ?_⟩
        rw [itF_code]
        simp only [sCode, Option.bind_eq_bind, Option.bind_eq_some_iff]
        exact ⟨_, (itF_le M (Nat.le_max_left n m)).code _ _ _ _ _ hn, (itF_le M (Nat.le_max_right n m)).code _ _ _ _ _ hm⟩
      | x i =>
        refine ⟨n + 1, ?_⟩
        rw [itF_code]
        simp only [sCode, Option.bind_eq_bind, Option.bind_eq_some_iff]
        exact ⟨_, hn, h2⟩
      | r =>
        refine ⟨n + 1, ?_⟩
        rw [itF_code]
        simp only [sCode, Option.bind_eq_bind, Option.bind_eq_some_iff]
        exact ⟨_, hn, h2⟩
    case reg ops keep =>
      obtain ⟨x, h1, h2⟩ := hr
      obtain ⟨n, hn⟩ := aops_iff.1 h1
      refine ⟨n + 1, ?_⟩
      rw [itF_code]
      simp only [sCode, Option.bind_eq_bind, Option.bind_eq_some_iff]
      exact ⟨x, hn, h2⟩
    all_goals exact ⟨1, by rw [itF_code]; simp only [sCode]; exact hr⟩

theorem aops_eq {c : List MOper} {t : Tm} {h : Heap} {l : Nat} : aops M c t h l = sOps (limF M) c t h l := by
  refine opt_ext fun r => ?_
  rw [aops_iff]
  constructor
  · rintro ⟨n, hn⟩
    cases n with
    | zero => cases hn
    | succ n => rw [itF_ops] at hn; exact sOps_mono (itF_lim n) hn
  · intro hr
    cases c with
    | nil => exact ⟨1, by rw [itF_ops]; exact hr⟩
    | cons o c =>
      simp only [sOps] at hr
      split at hr
      · rename_i hg
        obtain ⟨n, hn⟩ := aone_iff.1 hr
        refine ⟨n + 1, ?_⟩
        rw [itF_ops]
        simp only [sOps, hg]; exact hn
      · rename_i g b hg
        split at hr
        · rename_i x hx
          split at hr
          · rename_i hb
            obtain ⟨n, hn⟩ := aone_iff.1 hr
            refine ⟨n + 1, ?_⟩
            rw [itF_ops]
            simp only [sOps, hg, hx]; rw [if_pos hb]; exact hn
          · rename_i hb
            obtain ⟨n, hn⟩ := aops_iff.1 hr
            refine ⟨n + 1, ?_⟩
            rw [itF_ops]
            simp only [sOps, hg, hx]; rw [if_neg hb]; exact hn
        · rename_i v hv hx
          obtain ⟨n, hn⟩ := aops_iff.1 hr
          refine ⟨n + 1, ?_⟩
          rw [itF_ops]
          simp only [sOps, hg, hx]; exact hn
        · cases hr

theorem aone_eq {o : MOper} {c : List MOper} {t : Tm} {h : Heap} {l : Nat} : aone M o c t h l = sOne (limF M) o c t h l := by
  refine opt_ext fun r => ?_
  rw [aone_iff]
  constructor
  · rintro ⟨n, hn⟩
    cases n with
    | zero => cases hn
    | succ n => rw [itF_one] at hn; exact sOne_mono (itF_lim n) hn
  · intro hr
    unfold sOne at hr
    simp only [Option.bind_eq_bind, Option.bind_eq_some_iff] at hr
    obtain ⟨x, h1, h2⟩ := hr
    obtain ⟨n, hn⟩ := ado_iff.1 h1
    split at h2
    · rename_i hb
      obtain ⟨m, hm⟩ := aops_iff.1 h2
      refine ⟨max n m + 1, ?_⟩
      rw [itF_one]
      unfold sOne
      simp only [Option.bind_eq_bind, Option.bind_eq_some_iff]
      refine ⟨_, (itF_le M (Nat.le_max_left n m)).act _ _ _ _ hn, ?_⟩
      rw [if_pos hb]
      exact (itF_le M (Nat.le_max_right n m)).ops _ _ _ _ _ hm
    · cases h2

theorem ado_eq {o : MOp} {t : Tm} {h : Heap} : ado M o t h = sDo (limF M) o t h := by
  refine opt_ext fun r => ?_
  rw [ado_iff]
  constructor
  · rintro ⟨n, hn⟩
    cases n with
    | zero => cases hn
    | succ n => rw [itF_act] at hn; exact sDo_mono (itF_lim n) hn
  · intro hr
    unfold sDo at hr
    split at hr
    · simp only [Option.bind_eq_bind, Option.bind_eq_some_iff] at hr
      obtain ⟨vs, h1, h2⟩ := hr
      obtain ⟨n, hn⟩ := acall_iff.1 h2
      refine ⟨n + 1, ?_⟩
      rw [itF_act]
      unfold sDo
      simp only [Option.bind_eq_bind, Option.bind_eq_some_iff]
      exact ⟨vs, h1, hn⟩
    · simp only [Option.bind_eq_bind, Option.bind_eq_some_iff] at hr
      obtain ⟨fv, h1, vs, h2, h3⟩ := hr
      split at h3
      · obtain ⟨n, hn⟩ := acall_iff.1 h3
        refine ⟨n + 1, ?_⟩
        rw [itF_act]
        unfold sDo
        simp only [Option.bind_eq_bind, Option.bind_eq_some_iff]
        exact ⟨_, h1, vs, h2, hn⟩
      · cases h3
    · rename_i n1 n2
      refine ⟨1, ?_⟩
      rw [itF_act]
      unfold sDo
      split
      · exact absurd rfl (n1 _ _)
      · exact absurd rfl (n2 _ _)
      · exact hr
end

theorem limF_call {M : Prog} : (limF M).call = acall M := rfl
theorem limF_code {M : Prog} : (limF M).code = acode M := rfl
theorem limF_ops {M : Prog} : (limF M).ops = aops M := rfl
theorem limF_one {M : Prog} : (limF M).one = aone M := rfl
theorem limF_act {M : Prog} : (limF M).act = ado M := rfl

theorem eval_induct (M : Prog) (p1 : FuncId → List Value → Heap → Res → Prop) (p2 : MCode → Tm → Heap → Nat → ExR → Prop) (p3 : List MOper → Tm → Heap → Nat → Tm × Heap × Nat → Prop)
    (p4 : MOper → List MOper → Tm → Heap → Nat → Tm × Heap × Nat → Prop) (p5 : MOp → Tm → Heap → Res → Prop)
    (h1 : ∀ F : Fs, (∀ c t h l r, F.code c t h l = some r → p2 c t h l r) → ∀ f args h r, sCall M F f args h = some r → p1 f args h r)
    (h2 : ∀ F : Fs, (∀ c t h l r, F.code c t h l = some r → p2 c t h l r) → (∀ c t h l r, F.ops c t h l = some r → p3 c t h l r) → ∀ c t h l r, sCode F c t h l = some r → p2 c t h l r)
    (h3 : ∀ F : Fs, (∀ c t h l r, F.ops c t h l = some r → p3 c t h l r) → (∀ o c t h l r, F.one o c t h l = some r → p4 o c t h l r) → ∀ c t h l r, sOps F c t h l = some r → p3 c t h l r)
    (h4 : ∀ F : Fs, (∀ c t h l r, F.ops c t h l = some r → p3 c t h l r) → (∀ o t h r, F.act o t h = some r → p5 o t h r) → ∀ o c t h l r, sOne F o c t h l = some r → p4 o c t h l r)
    (h5 : ∀ F : Fs, (∀ f args h r, F.call f args h = some r → p1 f args h r) → ∀ o t h r, sDo F o t h = some r → p5 o t h r) :
    ∀ f args h r, acall M f args h = some r → p1 f args h r := by
  have key : ∀ n, (∀ f args h r, (itF M n).call f args h = some r → p1 f args h r) ∧ (∀ c t h l r, (itF M n).code c t h l = some r → p2 c t h l r) ∧ (∀ c t h l r, (itF M n).ops c t h l = some r → p3 c t h l r) ∧
      (∀ o c t h l r, (itF M n).one o c t h l = some r → p4 o c t h l r) ∧ (∀ o t h r, (itF M n).act o t h = some r → p5 o t h r) := by
    intro n
    induction n with
    | zero => exact ⟨fun _ _ _ _ h => (by cases h), fun _ _ _ _ _ h => (by cases h), fun _ _ _ _ _ h => (by cases h), fun _ _ _ _ _ _ h => (by cases h), fun _ _ _ _ h => by cases h⟩
    | succ n ih => exact ⟨h1 _ ih.2.1, h2 _ ih.2.1 ih.2.2.1, h3 _ ih.2.2.1 ih.2.2.2.1, h4 _ ih.2.2.1 ih.2.2.2.2, h5 _ ih.1⟩
  intro f args h r hr
  obtain ⟨n, hn⟩ := acall_iff.1 hr
  exact (key n).1 f args h r hn

end Go.AM
