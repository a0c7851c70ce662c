import Derived.Test.YtmnnmgfjlokmkaaGreatAbsEv
namespace Go.Abs
inductive SX where
 | r (t : Nat)
 | c (v : AV)
 deriving Inhabited
inductive MK where
 | int (k : IntKind)
 | str
 | bool
 deriving Inhabited
inductive SK where
 | mv (x : SX)
 | pick (c a b : SX)
 | bin (op : BinOp) (x y : SX)
 | beq (neg : Bool) (x y : SX)
 | isnil (neg : Bool) (k : NilK) (x : SX)
 | un (op : UnOp) (x : SX)
 | fa (x : SX) (o : Nat)
 | ia (x i : SX) (n : Option Nat) (s : Nat)
 | ld (x : SX) (n : Option Nat)
 | fld (x : SX) (o : Nat) (n : Option Nat)
 | ext (x : SX) (i : Nat)
 | len (x : SX) (n : Option Nat)
 | lens (x : SX)
 | cv (k : IntKind) (x : SX)
 | ss (x : SX)
 | chk (x : SX)
 | bld (z : List AV) (ps : List (Nat × Nat × SX))
 | mkf (f : Nat) (a b : List SX)
 | slt (x : SX) (lo hi : Option SX) (s : Nat)
 | sls (x : SX) (lo hi : Option SX)
 | b2s (x : SX)
 | box (x : SX)
 | bsl (z : List AV) (s len : Nat) (ps : List (Nat × Nat × SX))
 | call (x : SX) (args : List SX)
 | mnx (mx : Bool) (l : List SX)
 | raw
 /- over the heap -/
 | hbox (esc : Bool) (x : SX)
 | alc (esc : Bool) (z : List AV)
 | st (x v : SX) (n : Nat)
 | app (s by_ : Nat) (x y : SX)
 | apps (s by_ : Nat) (x y : SX)
 | appT (s by_ : Nat) (x y : SX)
 | appsT (s by_ : Nat) (x y : SX)
 | appz (s by_ : Nat) (z : List AV) (x y : SX)
 | sla (x : SX) (n : Nat) (lo hi : Option SX) (s : Nat)
 | cvs (x : SX)
 | ixs (x i : SX)
 | ixa (x i : SX) (n s : Nat) (g : Option Nat)
 | cpy (s : Nat) (x y : SX)
 | hbs (z : List AV) (s len : Nat) (ps : List (Nat × Nat × SX))
 | mks (ro : Bool) (z : List AV) (s by_ : Nat) (n c : SX)
 | s2b (ro : Bool) (x : SX)
 | mkm
 | lku (q : MK) (z : AV) (x k : SX) (ok : Bool)
 | mup (q : MK) (x k v : SX)
 /- structs whose fields are numbers, texts, truths, held equal -/
 | eqs (neg : Bool) (offs : List (Nat × Nat)) (x y : SX)
 /- values of interface types: made, asked for, called -/
 | mif (t : Nat) (x : SX)
 | tas (t : Nat) (ok : Bool) (x : SX)
 | inv (l : List (Nat × Nat × Option (Option Nat))) (x : SX) (args : List SX)
 | clr (s : Nat) (z : List AV) (x : SX)
 deriving Inhabited
structure SO where
 dst : Option Nat
 guard : Option (Nat × Bool)
 k : SK
 deriving Inhabited
inductive SC where
 | skip
 | reg (ps : List (Nat × Nat)) (l : List SO)
 | seq (a b : SC)
 | cond (x : SX) (a b : SC)
 | block (id : Nat) (b : SC)
 | loop (b : SC)
 | exit (id : Nat)
 | ret
 deriving Inhabited
section
variable (P : Program) (A : Ann) (f : Nat)
def slX : Operand → Option SX
 | .tmp t => some (.r t)
 | .const v => (ofv v).map .c
 | .global g => (A.glob g).map fun cs => .c (.tptr cs 0)
 | .func g => some (.c (.fn g [] []))
def slXs : List Operand → Option (List SX)
 | [] => some []
 | x :: l => match slX A x, slXs l with
  | some a, some r => some (a :: r)
  | _, _ => none
def slParts (place : Nat → Option (Nat × Nat)) : List (Nat × Operand) → Option (List (Nat × Nat × SX))
 | [] => some []
 | (i, x) :: l => match place i, slX A x, slParts place l with
  | some (o, s), some a, some r => some ((o, s, a) :: r)
  | _, _, _ => none
def slOpt : Option Operand → Option (Option SX)
 | none => some none
 | some x => (slX A x).map some
def cellsN (P : Program) (t : TypeId) : Option (Option Nat) := match aggOf P t, szOf P t with
 | some true, some n => some (some n)
 | some false, some _ => some none
 | _, _ => none
def nilAt (d : TypeDesc) (k : NilK) : Bool := match d, k with
 | .pointer _, .ptr | .slice _, .sl | .map _ _, .map | .func _ _ _, .fn => true
 | _, _ => false
def tagT (P : Program) (t : TypeId) : Option Nat := match P.underlying t with
 | some (.int _) => some 0
 | some .string => some 1
 | some .bool => some 2
 | _ => none
def tagsF (P : Program) : List Field → Option (List (Nat × Nat))
 | [] => some []
 | f :: l => match tagT P f.type, tagsF P l with
  | some t, some r => if f.name = "_" then none else some ((f.offset, t) :: r)
  | _, _ => none
def flatS (P : Program) (t : TypeId) (fs : Array Field) : Option (List (Nat × Nat)) := if P.stoodInHeld t || P.eqGuardType P.depth t then none else tagsF P fs.toList
def flatA (P : Program) (t : TypeId) (n : Nat) (e : TypeId) : Option (List (Nat × Nat)) := if P.eqGuardType P.depth t then none else match tagT P e, szOf P e with
 | some g, some 1 => if n ≤ 64 then some ((List.range' 0 n).map fun i => (i, g)) else none
 | _, _ => none
def invT (P : Program) (name : String) : List (Nat × Nat × Option (Option Nat)) := (List.range P.types.size).filterMap fun t => match methA P t name with
 | some (g, none) => some (t, g, none)
 | some (g, some e) => (cellsN P e).map fun m => (t, g, some m)
 | none => none
def slK (ro : Bool) : Op → Option SK
 | .move x | .assign x => if ro then none else (slX A x).map .mv
 | .pick c a b => if ro then none else match slX A c, slX A a, slX A b with
  | some c, some a, some b => some (.pick c a b)
  | _, _, _ => none
 | .binOp op t x y _ => if ro then none else match slX A x, slX A y, P.underlying t with
  | some x, some (.c (.nil k)), some d => if nilAt d k then (match op with
   | .eql => some (.isnil false k x)
   | .neq => some (.isnil true k x)
   | _ => none) else none
  | some x, some y, some .bool => (match op with
   | .eql => some (.beq false x y)
   | .neq => some (.beq true x y)
   | _ => none)
  | some x, some y, some (.struct fs) => (match op with
   | .eql => (flatS P t fs).map fun o => .eqs false o x y
   | .neq => (flatS P t fs).map fun o => .eqs true o x y
   | _ => none)
  | some x, some y, some (.array n e) => (match op with
   | .eql => (flatA P t n e).map fun o => .eqs false o x y
   | .neq => (flatA P t n e).map fun o => .eqs true o x y
   | _ => none)
  | some x, some y, some _ => some (.bin op x y)
  | _, _, _ => none
 | .unOp op _ x => if ro then none else (slX A x).map (.un op)
 | .fieldAddr t x i => if ro then none else match slX A x, P.underlying t with
  | some x, some (.struct fs) => match fs[i]? with
   | some fd => match szOf P fd.type with
    | some (_ + 1) => some (.fa x fd.offset)
    | _ => none
   | none => none
  | _, _ => none
 | .indexAddr t x i => if ro then none else match slX A x, slX A i, P.underlying t with
  | some x, some i, some (.array n e) => (szOf P e).map (.ia x i (some n))
  | some x, some i, some (.slice e) => (szOf P e).map (.ia x i none)
  | _, _, _ => none
 | .index t x i => if ro then none else match slX A x, slX A i, P.underlying t with
  | some x, some i, some .string => some (.ixs x i)
  | some x, some i, some (.array n e) => (match szOf P e, cellsN P e with
   | some s, some g => some (.ixa x i n s g)
   | _, _ => none)
  | _, _, _ => none
 | .load t x => if ro then none else match slX A x, cellsN P t with
  | some x, some n => some (.ld x n)
  | _, _ => none
 | .field t x i => if ro then none else match slX A x, P.underlying t with
  | some x, some (.struct fs) => match fs[i]? with
   | some fd => (cellsN P fd.type).map (.fld x fd.offset)
   | none => none
  | _, _ => none
 | .extract x i => if ro then none else (slX A x).map fun x => .ext x i
 | .convert s d x => if ro then none else match slX A x, P.underlying s, P.underlying d with
  | some x, some (.int _), some (.int k) => some (.cv k x)
  | some x, some .string, some .string => some (.ss x)
  | some x, some (.slice e), some .string => if isByteT P e then some (.b2s x) else none
  | _, _, _ => none
 | .makeInterface t x => if ro then none else if isIface P t then none else (slX A x).map (.mif t)
 | .typeAssert x _ t ok => if ro then none else if isIface P t then none else (slX A x).map (.tas t ok)
 | .nilCheck x => if ro then none else (slX A x).map .chk
 | .build t ps => if ro then none else match zeroOf P t, P.underlying t with
  | some z, some (.struct fs) => if fs.all (fun f => (szOf P f.type).isSome) then (slParts A (fieldPlaces P fs) ps.toList).map (.bld z.cells) else none
  | some z, some (.array _ e) => match szOf P e with
   | some s => (slParts A (fun i => some (i * s, s)) ps.toList).map (.bld z.cells)
   | none => none
  | _, _ => none
 | .makeFunc fn first cap => if ro then none else match fn with
  | .func g => match slXs A first.toList, slXs A cap.toList with
   | some a, some b => some (.mkf g a b)
   | _, _ => none
  | _ => none
 | .slice t x lo hi none => if ro then none else match slX A x, slOpt A lo, slOpt A hi, P.underlying t with
  | some x, some lo, some hi, some .string => some (.sls x lo hi)
  | some x, some lo, some hi, some (.slice e) => (szOf P e).map (.slt x lo hi)
  | _, _, _, _ => none
 | .box _ x => if ro then (slX A x).map .box else none
 | .buildSlice t n ps => if ro then match elemOfSlice P t with
   | some e => match szOf P e, zeroOf P e with
    | some s, some z => if n * s ≤ 2 ^ 20 ∧ 0 < s ∧ z.cells.length = s ∧ z.cells.all AV.one then
      (slParts A (fun i => some (i * s, s)) ps.toList).map (.bsl (zerosA z.cells (n * s)) s n) else none
    | _, _ => none
   | none => none
  else none
 | .call c => match c.callee with
  | .value x => match slX A x, slXs A c.args.toList with
   | some x, some a => some (.call x a)
   | _, _ => none
  | .invoke x name => match slX A x, slXs A c.args.toList with
   | some x, some a => some (.inv (invT P name) x a)
   | _, _ => none
  | .builtin .len => if ro then none else match c.args.toList, c.argTypes.toList with
   | [x], t :: _ => match slX A x, P.underlying t with
    | some x, some (.array n _) => some (.len x (some n))
    | some x, some (.slice _) => some (.len x none)
    | some x, some .string => some (.lens x)
    | _, _ => none
   | _, _ => none
  | .builtin .min => if ro then none else (slXs A c.args.toList).map (.mnx false)
  | .builtin .max => if ro then none else (slXs A c.args.toList).map (.mnx true)
  | _ => none
 | _ => none
def mkOf (P : Program) (t : TypeId) : Option MK := match P.underlying t with
 | some (.int k) => some (.int k)
 | some .string => some .str
 | some .bool => some .bool
 | _ => none
def elemInfo (t : TypeId) : Option (Nat × Nat × List AV) := match elemOfSlice P t with
 | some e => match szOf P e, bytesOf P e, zeroOf P e with
  | some s, some b, some z => if 0 < s ∧ z.cells.length = s ∧ z.cells.all AV.one then some (s, b, z.cells) else none
  | _, _, _ => none
 | none => none
def slH (dst : Option Tmp) (ro : Bool) : Op → Option SK
 | .box _ x => if ro then none else match dst with
  | some d => (slX A x).map (.hbox (A.esc f d))
  | none => none
 | .alloc t => if ro then none else match dst, zeroOf P t with
  | some d, some z => if z.cells.all AV.one ∧ szOf P t = some z.cells.length then some (.alc (A.esc f d) z.cells) else none
  | _, _ => none
 | .store t a x => if ro then none else match slX A a, slX A x, szOf P t with
  | some a, some x, some n => some (.st a x n)
  | _, _, _ => none
 | .buildSlice t n ps => if ro then none else match elemOfSlice P t with
   | some e => match szOf P e, zeroOf P e with
    | some s, some z => if n * s ≤ 2 ^ 20 ∧ 0 < s ∧ z.cells.length = s ∧ z.cells.all AV.one then
      (slParts A (fun i => some (i * s, s)) ps.toList).map (.hbs (zerosA z.cells (n * s)) s n) else none
    | _, _ => none
   | none => none
 | .makeSlice t l c => match slX A l, slX A c, elemInfo P t with
  | some l, some c, some (s, b, z) => some (.mks ro z s b l c)
  | _, _, _ => none
 | .convert s d x => match slX A x, P.underlying s, P.underlying d with
  | some x, some .string, some (.slice e) => if isByteT P e then some (.s2b ro x) else none
  | some x, some (.slice _), some (.slice e) => if (s == d) = true ∧ isByteT P e = true ∧ ro = false then some (.cvs x) else none
  | _, _, _ => none
 | .slice t x lo hi none => if ro then none else match slX A x, slOpt A lo, slOpt A hi, P.underlying t with
  | some x, some lo, some hi, some (.array n e) => (szOf P e).map (.sla x n lo hi)
  | _, _, _, _ => none
 | .makeMap t none => if ro then none else match P.underlying t with
  | some (.map _ _) => some .mkm
  | _ => none
 | .lookup t x k ok => if ro then none else match P.underlying t with
  | some (.map kt et) => match mkOf P kt, zeroOf P et, slX A x, slX A k with
   | some q, some z, some x, some k => some (.lku q z x k ok)
   | _, _, _, _ => none
  | _ => none
 | .mapUpdate t m k x | .insert t m k x => if ro then none else match P.underlying t with
  | some (.map kt _) => match mkOf P kt, slX A m, slX A k, slX A x with
   | some q, some m, some k, some x => some (.mup q m k x)
   | _, _, _, _ => none
  | _ => none
 | .call c => match c.callee with
  | .builtin .append => match c.args.toList, c.argTypes.toList with
   | [x, y], [t, u] => match slX A x, slX A y, elemInfo P t, P.underlying u with
    | some x, some y, some (s, b, _), some (.slice _) => some (if ro then .appT s b x y else .app s b x y)
    | some x, some y, some (s, b, _), some .string => some (if ro then .appsT s b x y else .apps s b x y)
    | some x, some y, some (s, b, z), some (.int _) => if ro then none else some (.appz s b z x y)
    | _, _, _, _ => none
   | _, _ => none
  | .builtin .copy => if ro then none else match c.args.toList, c.argTypes.toList with
   | [x, y], t :: _ => match slX A x, slX A y, elemInfo P t with
    | some x, some y, some (s, _, _) => some (.cpy s x y)
    | _, _, _ => none
   | _, _ => none
  | .builtin .clear => if ro then none else match c.args.toList, c.argTypes.toList with
   | [x], t :: _ => match slX A x, elemInfo P t with
    | some x, some (s, _, z) => some (.clr s z x)
    | _, _ => none
   | _, _ => none
  | _ => none
 | _ => none
def slAll (dst : Option Tmp) (op : Op) : SK := match slK P A (roAt A f dst) op with
 | some k => k
 | none => (slH P A f dst (roAt A f dst) op).getD .raw
def slO (ops : Array Oper) (o : Oper) : Option SO :=
 match (match o.guard with
  | none => some none
  | some (j, w) => ((ops[j]?).bind (·.dst)).map fun e => some (e, w)) with
 | some g => some ⟨o.dst, g, slAll P A f o.dst o.op⟩
 | none => none
def slOs (ops : Array Oper) : List Oper → Option (List SO)
 | [] => some []
 | o :: l => match slO P A f ops o, slOs ops l with
  | some a, some r => some (a :: r)
  | _, _ => none
def slC : Code → Option SC
 | .skip => some .skip
 | .region _ ops dr => (slOs P A f ops ops.toList).map (.reg (if dr then openN A f ops else []))
 | .seq a b => match slC a, slC b with
  | some a, some b => some (.seq a b)
  | _, _ => none
 | .cond c a b => match slX A c, slC a, slC b with
  | some c, some a, some b => some (.cond c a b)
  | _, _, _ => none
 | .block id b => (slC b).map (.block id)
 | .loop b => (slC b).map .loop
 | .exit id => some (.exit id)
 | .ret => some .ret
 | _ => none
end
end Go.Abs
