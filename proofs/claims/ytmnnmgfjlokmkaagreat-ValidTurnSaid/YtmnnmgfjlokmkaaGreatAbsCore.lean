import Derived.Calls
import Derived.Below
import Derived.Orders
import GoSem.Extern.Table
namespace Go.Abs
inductive NilK where
 | ptr | sl | fn | map | ifc
 deriving DecidableEq, Inhabited
inductive AV where
 | bool (b : Bool)
 | int (k : IntKind) (n : Int)
 | str (s : List UInt8)
 | nil (k : NilK)
 | ptr (id off : Nat)
 | tptr (cells : List AV) (off : Nat)
 | sl (id off len sz : Nat)
 | tsl (cells : List AV) (len : Nat)
 | map (id : Nat)
 | fn (f : Nat) (first cap : List AV)
 | agg (cells : List AV)
 | tup (vs : List AV)
 | ifc (t : Nat) (v : AV)
 deriving Inhabited
def AV.undef : AV := .tup []
def AV.cells : AV → List AV
 | .agg cs => cs
 | v => [v]
def AV.one : AV → Bool
 | .agg _ | .tup _ => false
 | _ => true
mutual
def AV.tree : AV → Bool
 | .bool _ | .int _ _ | .str _ | .nil _ => true
 | .ptr _ _ | .sl _ _ _ _ | .map _ => false
 | .tptr cs _ | .tsl cs _ | .agg cs | .tup cs => AV.trees cs
 | .fn _ a b => AV.trees a && AV.trees b
 | .ifc _ v => v.tree
def AV.trees : List AV → Bool
 | [] => true
 | a :: l => a.tree && AV.trees l
end
def ofScalar : Value → Option AV
 | .bool b => some (.bool b)
 | .int k n => some (.int k n)
 | .string s => some (.str s.data.toList)
 | .pointer none => some (.nil .ptr)
 | .slice none 0 0 => some (.nil .sl)
 | .nilFunc => some (.nil .fn)
 | .map none => some (.nil .map)
 | .nilIface => some (.nil .ifc)
 | _ => none
def ofv : Value → Option AV
 | .agg cs => (cs.toList.mapM ofScalar).map .agg
 | v => ofScalar v
def toScalar : AV → Option Value
 | .bool b => some (.bool b)
 | .int k n => some (.int k n)
 | .str s => some (.string ⟨s.toArray⟩)
 | _ => none
def conc : AV → Option Value
 | .agg cs => (cs.mapM toScalar).map fun l => .agg l.toArray
 | v => toScalar v
def spr {α : Type} (P : Program) : Sem α → Option α
 | .pure a => some a
 | .program k => spr P (k P)
 | .mark _ k => spr P k
 | _ => none
inductive AObj where
 | cells (cs : List AV)
 | map (es : List (AV × AV))
 deriving Inhabited
abbrev Heap := Nat → Option AObj
abbrev Log := List Nat × List Nat
abbrev Res (α : Type) := Option (α × Heap × Nat × Log)
def AM (α : Type) := Heap → Nat → Res α
def upd {β : Type} (f : Nat → β) (i : Nat) (v : β) : Nat → β := fun j => if j = i then v else f j
namespace AM
def pure {α : Type} (a : α) : AM α := fun h n => some (a, h, n, ([], []))
def fail {α : Type} : AM α := fun _ _ => none
def lift {α : Type} : Option α → AM α
 | some a => pure a
 | none => fail
def bind {α β : Type} (m : AM α) (f : α → AM β) : AM β := fun h n =>
 match m h n with
 | none => none
 | some (a, h1, n1, lg) =>
  match f a h1 n1 with
  | none => none
  | some (b, h2, n2, lg2) => some (b, h2, n2, (lg.1 ++ lg2.1, lg.2 ++ lg2.2))
def get (id : Nat) : AM AObj := fun h n =>
 match h id with
 | some o => some (o, h, n, ([id], []))
 | none => none
def set (id : Nat) (o : AObj) : AM Unit := fun h n =>
 match h id with
 | some _ => some ((), upd h id (some o), n, ([], [id]))
 | none => none
def kill (id : Nat) : AM Unit := fun h n =>
 match h id with
 | some _ => some ((), upd h id none, n, ([], [id]))
 | none => none
def new (o : AObj) : AM Nat := fun h n => some (n, upd h n (some o), n + 1, ([], []))
end AM
instance : Monad AM where
 pure := AM.pure
 bind := AM.bind
def sliceL {α : Type} (l : List α) (off n : Nat) : Option (List α) := if off + n ≤ l.length then some ((l.drop off).take n) else none
def spliceL {α : Type} (l : List α) (off : Nat) (vs : List α) : Option (List α) :=
 if off + vs.length ≤ l.length then some (l.take off ++ vs ++ l.drop (off + vs.length)) else none
def szOf (P : Program) (t : TypeId) : Option Nat := (P.info? t).map (·.size)
def bytesOf (P : Program) (t : TypeId) : Option Nat := (P.info? t).map (·.bytes)
def zeroOf (P : Program) (t : TypeId) : Option AV := ((P.info? t).bind (·.zero)).bind ofv
def aggOf (P : Program) (t : TypeId) : Option Bool :=
 match P.underlying t with
 | some (.struct _) | some (.array _ _) => some true
 | some _ => some false
 | none => none
def cellsAt (p : AV) (n : Nat) : AM (List AV) :=
 match p with
 | .ptr id off => AM.bind (AM.get id) fun o => match o with
  | .cells cs => AM.lift (sliceL cs off n)
  | _ => AM.fail
 | .tptr cs off => AM.lift (sliceL cs off n)
 | _ => AM.fail
def shapeOf (agg : Bool) (cs : List AV) : Option AV :=
 if agg then some (.agg cs) else match cs with
  | [v] => some v
  | _ => none
def loadT (P : Program) (t : TypeId) (p : AV) : AM AV :=
 AM.bind (AM.lift (aggOf P t)) fun agg => AM.bind (AM.lift (szOf P t)) fun n =>
 AM.bind (cellsAt p (if agg then n else 1)) fun cs => AM.lift (shapeOf agg cs)
def storeAtA (p : AV) (vs : List AV) : AM Unit :=
 match p with
 | .ptr id off => AM.bind (AM.get id) fun o => match o with
  | .cells cs => AM.bind (AM.lift (if vs.all AV.one then spliceL cs off vs else none)) fun cs' => AM.set id (.cells cs')
  | _ => AM.fail
 | _ => AM.fail
def storeT (P : Program) (t : TypeId) (p v : AV) : AM AV :=
 AM.bind (AM.lift (szOf P t)) fun n => if v.cells.length = n then AM.bind (storeAtA p v.cells) fun _ => AM.pure AV.undef else AM.fail
def fillA (place : Nat → Option (Nat × Nat)) (cells : List AV) : List (Nat × AV) → Option (List AV)
 | [] => some cells
 | (i, v) :: rest =>
  match place i with
  | none => none
  | some (off, size) => if v.cells.length = size then
    match spliceL cells off v.cells with
    | some cs => fillA place cs rest
    | none => none
   else none
def evParts (ev : Operand → Option AV) : List (Nat × Operand) → Option (List (Nat × AV))
 | [] => some []
 | (i, x) :: r => match ev x with
  | some v => (evParts ev r).map ((i, v) :: ·)
  | none => none
def evs (ev : Operand → Option AV) : List Operand → Option (List AV)
 | [] => some []
 | x :: r => match ev x with
  | some v => (evs ev r).map (v :: ·)
  | none => none
def fieldPlaces (P : Program) (fs : Array Field) (i : Nat) : Option (Nat × Nat) :=
 match fs[i]? with
 | some f => (szOf P f.type).map fun s => (f.offset, s)
 | none => none
def buildA (P : Program) (t : TypeId) (ps : List (Nat × AV)) : Option AV :=
 match zeroOf P t, P.underlying t with
 | some z, some (.struct fs) => if fs.all (fun f => (szOf P f.type).isSome) then (fillA (fieldPlaces P fs) z.cells ps).map .agg else none
 | some z, some (.array _ e) => match szOf P e with
  | some s => (fillA (fun i => some (i * s, s)) z.cells ps).map .agg
  | none => none
 | _, _ => none
def zerosA (z : List AV) (n : Nat) : List AV := (List.range n).map fun i => z.getD (i % z.length) .undef
def elemOfSlice (P : Program) (t : TypeId) : Option TypeId :=
 match P.underlying t with
 | some (.slice e) => some e
 | _ => none
def buildSliceA (P : Program) (t : TypeId) (len : Nat) (ps : List (Nat × AV)) : AM AV :=
 AM.bind (AM.lift (elemOfSlice P t)) fun e => AM.bind (AM.lift (szOf P e)) fun s =>
 AM.bind (AM.lift (zeroOf P e)) fun z =>
 if len * s ≤ 2 ^ 20 ∧ 0 < s ∧ z.cells.length = s ∧ z.cells.all AV.one then
  AM.bind (AM.lift (fillA (fun i => some (i * s, s)) (zerosA z.cells (len * s)) ps)) fun cs =>
  if cs.all AV.one then AM.bind (AM.new (.cells cs)) fun id => AM.pure (.sl id 0 len s) else AM.fail
 else AM.fail
def intIx : AV → Option Int
 | .int _ n => some n
 | _ => none
def isNilA : AV → Option Bool
 | .nil .ifc => none
 | .nil _ => some true
 | .ptr _ _ | .tptr _ _ | .sl _ _ _ _ | .tsl _ _ | .map _ | .fn _ _ _ => some false
 | _ => none
def kindOfA : AV → Option NilK
 | .nil k => some k
 | .ptr _ _ | .tptr _ _ => some .ptr
 | .sl _ _ _ _ | .tsl _ _ => some .sl
 | .map _ => some .map
 | .fn _ _ _ => some .fn
 | _ => none
def nilFits (P : Program) (t : TypeId) (k : NilK) (x : AV) : Bool :=
 kindOfA x == some k && (match P.underlying t, k with
 | some (.pointer _), .ptr | some (.slice _), .sl | some (.map _ _), .map | some (.func _ _ _), .fn => true
 | _, _ => false)
def partA (P : Program) (t : TypeId) (cs : List AV) (off : Nat) : Option AV :=
 match aggOf P t, szOf P t with
 | some true, some n => (sliceL cs off n).map .agg
 | some false, some _ => cs[off]?
 | _, _ => none
def fieldA (P : Program) (t : TypeId) (x : AV) (i : Nat) : Option AV :=
 match P.underlying t, x with
 | some (.struct fs), .agg cs => match fs[i]? with
  | some f => partA P f.type cs f.offset
  | none => none
 | _, _ => none
def addA (p : AV) (n : Nat) : Option AV :=
 match p with
 | .ptr id off => some (.ptr id (off + n))
 | .tptr cs off => some (.tptr cs (off + n))
 | _ => none
def fieldAddrA (P : Program) (t : TypeId) (p : AV) (i : Nat) : Option AV :=
 match P.underlying t with
 | some (.struct fs) => match fs[i]? with
  | some f => match szOf P f.type with
   | some (_ + 1) => addA p f.offset
   | _ => none
  | none => none
 | _ => none
def indexAddrA (P : Program) (t : TypeId) (x ix : AV) : Option AV :=
 match intIx ix with
 | none => none
 | some i => match P.underlying t, x with
  | some (.array len e), p => match szOf P e with
   | some s => if 0 ≤ i ∧ i < len then addA p (i.toNat * s) else none
   | none => none
  | some (.slice e), .sl id off len sz => if szOf P e = some sz ∧ 0 ≤ i ∧ i < len then some (.ptr id (off + i.toNat * sz)) else none
  | some (.slice e), .tsl cs len => match szOf P e with
   | some s => if 0 ≤ i ∧ i < len then some (.tptr cs (i.toNat * s)) else none
   | none => none
  | _, _ => none
def boundsA (len : Nat) (lo hi : Option AV) : Option (Nat × Nat) :=
 match hi with
 | none => match lo with
  | none => some (0, len)
  | some l => match intIx l with
   | some l => if 0 ≤ l ∧ l ≤ len then some (l.toNat, len) else none
   | none => none
 | some h => match intIx h with
  | none => none
  | some h => if 0 ≤ h ∧ h ≤ len then match lo with
    | none => some (0, h.toNat)
    | some l => match intIx l with
     | some l => if 0 ≤ l ∧ l ≤ h then some (l.toNat, h.toNat) else none
     | none => none
   else none
def sliceA (P : Program) (t : TypeId) (x : AV) (lo hi : Option AV) : AM AV :=
 match P.underlying t, x with
 | some (.array n e), .ptr id off => AM.bind (AM.get id) fun o => match o, szOf P e, boundsA n lo hi with
  | .cells cs, some s, some (l, h) => if off + n * s ≤ cs.length then AM.pure (.sl id (off + l * s) (h - l) s) else AM.fail
  | _, _, _ => AM.fail
 | some .string, .str s => match boundsA s.length lo hi with
  | some (l, h) => AM.pure (.str ((s.take h).drop l))
  | none => AM.fail
 | some (.slice e), .nil .sl => match szOf P e, boundsA 0 lo hi with
  | some _, some _ => AM.pure (.nil .sl)
  | _, _ => AM.fail
 | some (.slice e), .sl id off len sz => match boundsA len lo hi with
  | some (l, h) => if szOf P e = some sz then AM.pure (.sl id (off + l * sz) (h - l) sz) else AM.fail
  | none => AM.fail
 | some (.slice e), .tsl cs len => match szOf P e, boundsA len lo hi with
  | some s, some (l, h) => AM.pure (.tsl ((cs.take (h * s)).drop (l * s)) (h - l))
  | _, _ => AM.fail
 | _, _ => AM.fail
def indexA (P : Program) (t : TypeId) (x ix : AV) : Option AV :=
 match intIx ix with
 | none => none
 | some i => match P.underlying t, x with
  | some (.array len e), .agg cs => match szOf P e with
   | some s => if 0 ≤ i ∧ i < len then partA P e cs (i.toNat * s) else none
   | none => none
  | some .string, .str s => if 0 ≤ i then (s[i.toNat]?).map fun b => .int .u8 b.toNat else none
  | _, _ => none
def binA (P : Program) (op : BinOp) (t : TypeId) (ox oy : Operand) (x y : AV) : Option AV :=
 match conc x, conc y with
 | some a, some b => (spr P (do eqGuard op t ox oy a b; binOp op t a b)).bind ofv
 | _, _ => match op, x, y with
   | .eql, x, .nil k => if nilFits P t k x then (isNilA x).map .bool else none
   | .neq, x, .nil k => if nilFits P t k x then (isNilA x).map fun b => .bool !b else none
   | .eql, .nil k, y => if nilFits P t k y then (isNilA y).map .bool else none
   | .neq, .nil k, y => if nilFits P t k y then (isNilA y).map fun b => .bool !b else none
   | _, _, _ => none
def bytesOfA : List AV → Option (List UInt8)
 | [] => some []
 | .int .u8 n :: r => (bytesOfA r).map (UInt8.ofNat n.toNat :: ·)
 | _ :: _ => none
def isByteT (P : Program) (e : TypeId) : Bool := match P.underlying e with | some (.int .u8) => true | _ => false
def convertA (P : Program) (src dst : TypeId) (x : AV) : AM AV :=
 match P.underlying src, P.underlying dst, x with
 | some _, some (.int _), .int k n => AM.lift ((spr P (convert src dst (.int k n))).bind ofv)
 | some _, some .string, .str s => AM.pure (.str s)
 | some .string, some (.slice e), .str s => if isByteT P e then AM.bind (AM.new (.cells (s.map fun b => .int .u8 b.toNat))) fun id => AM.pure (.sl id 0 s.length 1) else AM.fail
 | some (.slice e), some .string, .nil .sl => if isByteT P e then AM.pure (.str []) else AM.fail
 | some (.slice e), some .string, .sl id off len sz => if sz = 1 ∧ isByteT P e = true then AM.bind (cellsAt (.ptr id off) len) fun cs => AM.lift ((bytesOfA cs).map .str) else AM.fail
 | some (.slice e), some .string, .tsl cs len => if isByteT P e then AM.bind (AM.lift (sliceL cs 0 len)) fun cs => AM.lift ((bytesOfA cs).map .str) else AM.fail
 | some (.slice _), some (.slice e), .sl id off len sz => if (src == dst) = true ∧ isByteT P e = true ∧ 0 < len ∧ sz = 1 then AM.bind (cellsAt (.ptr id off) len) fun _ => AM.pure (.sl id off len sz) else AM.fail
 | _, _, _ => AM.fail
def lenA (P : Program) (t : TypeId) (x : AV) : AM AV :=
 match P.underlying t, x with
 | some .string, .str s => AM.pure (.int .i64 s.length)
 | some (.array n _), _ => AM.pure (.int .i64 n)
 | some (.slice _), .nil .sl => AM.pure (.int .i64 0)
 | some (.slice _), .sl _ _ n _ => AM.pure (.int .i64 n)
 | some (.slice _), .tsl _ n => AM.pure (.int .i64 n)
 | some (.map _ _), .nil .map => AM.pure (.int .i64 0)
 | some (.map _ _), .map id => AM.bind (AM.get id) fun o => match o with
  | .map es => AM.pure (.int .i64 es.length)
  | _ => AM.fail
 | _, _ => AM.fail
def srcA (s : Nat) (x : AV) : AM (List AV × Nat) :=
 match x with
 | .nil .sl => AM.pure ([], 0)
 | .str b => AM.pure (b.map (fun b => .int .u8 b.toNat), b.length)
 | .sl id off n sz => if sz = s then AM.bind (cellsAt (.ptr id off) (n * s)) fun cs => AM.pure (cs, n) else AM.fail
 | .tsl cs n => AM.bind (AM.lift (sliceL cs 0 (n * s))) fun cs => AM.pure (cs, n)
 | _ => AM.fail
def appendTo (s : Nat) (base : AV) (new : List AV) (n : Nat) : AM AV :=
 if n = 0 then AM.pure base else
 match base with
 | .nil .sl => AM.bind (AM.new (.cells new)) fun id => AM.pure (.sl id 0 n s)
 | .sl id off len sz => if sz = s then AM.bind (cellsAt (.ptr id off) (len * s)) fun old => AM.bind (AM.kill id) fun _ =>
   AM.bind (AM.new (.cells (old ++ new))) fun id' => AM.pure (.sl id' 0 (len + n) s) else AM.fail
 | _ => AM.fail
def lenOfA : AV → Option Nat
 | .nil .sl => some 0
 | .sl _ _ n _ => some n
 | .tsl _ n => some n
 | _ => none
def appendA (P : Program) (ts : List TypeId) (x y : AV) : AM AV :=
 match ts with
 | [t, u] => AM.bind (AM.lift (elemOfSlice P t)) fun e => AM.bind (AM.lift (szOf P e)) fun s => AM.bind (AM.lift (bytesOf P e)) fun by_ =>
  AM.bind (AM.lift (zeroOf P e)) fun z =>
  if 0 < s ∧ z.cells.length = s ∧ z.cells.all AV.one then
  AM.bind (match P.underlying u, y with
   | some (.int _), .int _ k => if 0 ≤ k ∧ k ≤ 2 ^ 30 then AM.pure (zerosA z.cells (k.toNat * s), k.toNat) else AM.fail
   | some (.slice _), y => srcA s y
   | some .string, .str b => srcA s (.str b)
   | _, _ => AM.fail) fun src =>
  match lenOfA x with
  | some l => if (l + src.2) * (by_ + 1) ≤ 2 ^ 44 ∧ src.1.length = src.2 * s ∧ src.1.all AV.one then appendTo s x src.1 src.2 else AM.fail
  | none => AM.fail
  else AM.fail
 | _ => AM.fail
def copyA (P : Program) (ts : List TypeId) (x y : AV) : AM AV :=
 match ts with
 | t :: _ => AM.bind (AM.lift (elemOfSlice P t)) fun e => AM.bind (AM.lift (szOf P e)) fun s =>
  match x with
  | .sl id off len sz => if sz = s ∧ 0 < s then
    AM.bind (srcA s y) fun src => if src.1.length = src.2 * s then
     AM.bind (storeAtA (.ptr id off) (src.1.take (min src.2 len * s))) fun _ => AM.pure (.int .i64 (min src.2 len : Nat)) else AM.fail
   else AM.fail
  | _ => AM.fail
 | _ => AM.fail
def minmaxA (P : Program) (isMax : Bool) (xs : List AV) : Option AV :=
 match xs.mapM conc with
 | some vs => (spr P (if isMax then Builtin.max_ #[] 0 vs.toArray else Builtin.min_ #[] 0 vs.toArray)).bind ofv
 | none => none
def i64A : AV → Option Int
 | .int .i64 n => some n
 | _ => none
def makeSliceA (P : Program) (t : TypeId) (l c : AV) : AM AV :=
 AM.bind (AM.lift (elemOfSlice P t)) fun e => AM.bind (AM.lift (szOf P e)) fun s => AM.bind (AM.lift (bytesOf P e)) fun by_ =>
 AM.bind (AM.lift (zeroOf P e)) fun z =>
 AM.bind (AM.lift (i64A l)) fun n => AM.bind (AM.lift (i64A c)) fun m =>
 if n = m ∧ 0 ≤ n ∧ n * (by_ + 1) ≤ 2 ^ 40 ∧ 0 < s ∧ z.cells.length = s ∧ z.cells.all AV.one then
   AM.bind (AM.new (.cells (zerosA z.cells (n.toNat * s)))) fun id => AM.pure (.sl id 0 n.toNat s) else AM.fail
def keyEq : AV → AV → Option Bool
 | .int k a, .int k' b => if k = k' then some (a == b) else none
 | .str a, .str b => some (a == b)
 | .bool a, .bool b => some (a == b)
 | _, _ => none
def findA (k : AV) : List (AV × AV) → Nat → Option (Option (Nat × AV))
 | [], _ => some none
 | e :: es, i => match keyEq k e.1 with
  | some true => some (some (i, e.2))
  | some false => findA k es (i + 1)
  | none => none
def keyKind (P : Program) (t : TypeId) (k : AV) : Bool :=
 match P.underlying t, k with
 | some (.int k), .int k' _ => k == k'
 | some .string, .str _ => true
 | some .bool, .bool _ => true
 | _, _ => false
def lookupA (P : Program) (t : TypeId) (x k : AV) (ok : Bool) : AM AV :=
 match P.underlying t with
 | some (.map kt et) => if keyKind P kt k then
   AM.bind (match x with
    | .nil .map => AM.pure []
    | .map id => AM.bind (AM.get id) fun o => match o with
     | .map es => AM.pure es
     | _ => AM.fail
    | _ => AM.fail) fun es =>
   match findA k es 0, zeroOf P et with
   | some (some (_, v)), some _ => AM.pure (if ok then .tup [v, .bool true] else v)
   | some none, some z => AM.pure (if ok then .tup [z, .bool false] else z)
   | _, _ => AM.fail
  else AM.fail
 | _ => AM.fail
def mapUpdateA (P : Program) (t : TypeId) (x k v : AV) : AM AV :=
 match P.underlying t, x with
 | some (.map kt _), .map id => if keyKind P kt k then
   AM.bind (AM.get id) fun o => match o with
    | .map es => match findA k es 0 with
     | some (some (i, _)) => AM.bind (AM.set id (.map (es.set i (k, v)))) fun _ => AM.pure .undef
     | some none => AM.bind (AM.set id (.map (es ++ [(k, v)]))) fun _ => AM.pure .undef
     | none => AM.fail
    | _ => AM.fail
  else AM.fail
 | _, _ => AM.fail
def evo (ev : Operand → Option AV) : Option Operand → Option (Option AV)
 | none => some none
 | some x => (ev x).map some
def clearA (P : Program) (ts : List TypeId) (x : AV) : AM AV :=
 match ts, x with
 | t :: _, .sl id off len sz => AM.bind (AM.lift (elemOfSlice P t)) fun e => AM.bind (AM.lift (szOf P e)) fun s => AM.bind (AM.lift (zeroOf P e)) fun z =>
  if s = sz ∧ 0 < s ∧ z.cells.length = s then
   if len = 0 then AM.pure AV.undef else AM.bind (storeAtA (.ptr id off) (zerosA z.cells (len * s))) fun _ => AM.pure AV.undef
  else AM.fail
 | _, _ => AM.fail
def builtinA (P : Program) (b : Builtin) (vs : List AV) (ts : List TypeId) : AM AV :=
 match b with
 | .len => match vs, ts with
  | [x], t :: _ => lenA P t x
  | _, _ => AM.fail
 | .append => match vs with
  | [x, y] => appendA P ts x y
  | _ => AM.fail
 | .copy => match vs with
  | [x, y] => copyA P ts x y
  | _ => AM.fail
 | .min => AM.lift (minmaxA P false vs)
 | .max => AM.lift (minmaxA P true vs)
 | .clear => match vs with
  | [x] => clearA P ts x
  | _ => AM.fail
 | _ => AM.fail
inductive EK where
 | idx | clone
 deriving DecidableEq, Inhabited
def EK.sem : EK → Array Value → Sem Value
 | .idx => Extern.BytealgIndexByte.indexByte
 | .clone => Extern.MapsClone.clone
def idxL (c : Nat) : List UInt8 → Nat → Int
 | [], _ => -1
 | b :: l, k => if Nat.beq b.toNat c then (k : Int) else idxL c l (k + 1)
def extA : EK → List AV → AM AV
 | .idx, [.str s, .int .u8 c] => AM.pure (.int .i64 (idxL (c.toNat.toUInt8).toNat s 0))
 | .clone, [.ifc t (.map id)] => AM.bind (AM.get id) fun o => match o with
  | .map es => AM.bind (AM.new (.map es)) fun id' => AM.pure (.ifc t (.map id'))
  | _ => AM.fail
 | _, _ => AM.fail
def isIface (P : Program) (t : TypeId) : Bool := match P.underlying t with
 | some (.interface _) => true
 | some _ => false
 | none => true
def ifcA (P : Program) (t : TypeId) (v : AV) : Option AV := if isIface P t then none else some (.ifc t v)
def assertA (P : Program) (t : TypeId) (ok : Bool) (v : AV) : Option AV := match v with
 | .ifc u w => if isIface P t then none else if u = t then some (if ok then .tup [w, .bool true] else w) else none
 | _ => none
def methA (P : Program) (t : TypeId) (name : String) : Option (Nat × Option TypeId) := match P.info? t with
 | none => none
 | some i => match i.methods.find? (·.name == name) with
  | none => none
  | some m => if m.path.toList.isEmpty then (match m.func, P.underlying t with
   | some (f, true), some (.pointer _) => some (f, none)
   | some (f, false), some (.pointer e) => some (f, some e)
   | _, _ => none) else none
def opM (P : Program) (ev : Operand → Option AV) : Op → AM AV
 | .move x | .assign x => AM.lift (ev x)
 | .pick c a b => match ev c with
  | some (.bool t) => AM.lift (ev (if t then a else b))
  | _ => AM.fail
 | .alloc t => AM.bind (AM.lift (zeroOf P t)) fun z => if z.cells.all AV.one ∧ szOf P t = some z.cells.length then
   AM.bind (AM.new (.cells z.cells)) fun id => AM.pure (.ptr id 0) else AM.fail
 | .box _ x => AM.bind (AM.lift (ev x)) fun v => if v.cells.all AV.one then AM.bind (AM.new (.cells v.cells)) fun id => AM.pure (.ptr id 0) else AM.fail
 | .build t ps => AM.bind (AM.lift (evParts ev ps.toList)) fun ps => AM.lift (buildA P t ps)
 | .buildSlice t n ps => AM.bind (AM.lift (evParts ev ps.toList)) fun ps => buildSliceA P t n ps
 | .load t a => AM.bind (AM.lift (ev a)) fun p => loadT P t p
 | .store t a x => AM.bind (AM.lift (ev a)) fun p => AM.bind (AM.lift (ev x)) fun v => storeT P t p v
 | .nilCheck x => match ev x with
  | some v => (match isNilA v with
   | some false => AM.pure v
   | _ => AM.fail)
  | none => AM.fail
 | .binOp op t x y _ => AM.bind (AM.lift (ev x)) fun a => AM.bind (AM.lift (ev y)) fun b => AM.lift (binA P op t x y a b)
 | .unOp op _ x => AM.bind (AM.lift (ev x)) fun a => AM.lift ((conc a).bind fun v => (spr P (Op.unary op v)).bind ofv)
 | .convert s d x => AM.bind (AM.lift (ev x)) fun a => convertA P s d a
 | .makeFunc fn first cap => match fn with
  | .func f => AM.bind (AM.lift (evs ev first.toList)) fun a => AM.bind (AM.lift (evs ev cap.toList)) fun b => AM.pure (.fn f a b)
  | _ => AM.fail
 | .makeSlice t l c => AM.bind (AM.lift (ev l)) fun l => AM.bind (AM.lift (ev c)) fun c => makeSliceA P t l c
 | .makeMap t none => match P.underlying t with
  | some (.map _ _) => AM.bind (AM.new (.map [])) fun id => AM.pure (.map id)
  | _ => AM.fail
 | .slice t x lo hi none => AM.bind (AM.lift (ev x)) fun v => AM.bind (AM.lift (evo ev lo)) fun l => AM.bind (AM.lift (evo ev hi)) fun h => sliceA P t v l h
 | .fieldAddr t x i => AM.bind (AM.lift (ev x)) fun p => AM.lift (fieldAddrA P t p i)
 | .field t x i => AM.bind (AM.lift (ev x)) fun v => AM.lift (fieldA P t v i)
 | .indexAddr t x ix => AM.bind (AM.lift (ev x)) fun v => AM.bind (AM.lift (ev ix)) fun i => AM.lift (indexAddrA P t v i)
 | .index t x ix => AM.bind (AM.lift (ev x)) fun v => AM.bind (AM.lift (ev ix)) fun i => AM.lift (indexA P t v i)
 | .lookup t x k ok => AM.bind (AM.lift (ev x)) fun v => AM.bind (AM.lift (ev k)) fun k => lookupA P t v k ok
 | .mapUpdate t m k x | .insert t m k x => AM.bind (AM.lift (ev m)) fun m => AM.bind (AM.lift (ev k)) fun k => AM.bind (AM.lift (ev x)) fun v => mapUpdateA P t m k v
 | .extract t i => match ev t with
  | some (.tup vs) => AM.lift vs[i]?
  | _ => AM.fail
 | .makeInterface t x => AM.bind (AM.lift (ev x)) fun v => AM.lift (ifcA P t v)
 | .typeAssert x _ t ok => AM.bind (AM.lift (ev x)) fun v => AM.lift (assertA P t ok v)
 | .call c => match c.callee with
  | .builtin b => AM.bind (AM.lift (evs ev c.args.toList)) fun vs => builtinA P b vs c.argTypes.toList
  | _ => AM.fail
 | _ => AM.fail
noncomputable def eqV : AV → AV → Bool := AV.rec (motive_1 := fun _ => AV → Bool) (motive_2 := fun _ => List AV → Bool)
 (fun b v => match v with | .bool c => b == c | _ => false)
 (fun k n v => match v with | .int j m => decide (k = j) && decide (n = m) | _ => false)
 (fun s v => match v with | .str t => decide (s = t) | _ => false)
 (fun k v => match v with | .nil j => decide (k = j) | _ => false)
 (fun a b v => match v with | .ptr c d => Nat.beq a c && Nat.beq b d | _ => false)
 (fun _ o ih v => match v with | .tptr ds p => ih ds && Nat.beq o p | _ => false)
 (fun a b c d v => match v with | .sl a' b' c' d' => Nat.beq a a' && Nat.beq b b' && Nat.beq c c' && Nat.beq d d' | _ => false)
 (fun _ l ih v => match v with | .tsl ds m => ih ds && Nat.beq l m | _ => false)
 (fun a v => match v with | .map b => Nat.beq a b | _ => false)
 (fun f _ _ i1 i2 v => match v with | .fn g a b => Nat.beq f g && i1 a && i2 b | _ => false)
 (fun _ ih v => match v with | .agg ds => ih ds | _ => false)
 (fun _ ih v => match v with | .tup ds => ih ds | _ => false)
 (fun t _ ih v => match v with | .ifc u w => Nat.beq t u && ih w | _ => false)
 (fun l => match l with | [] => true | _ => false)
 (fun _ _ i1 i2 l => match l with | b :: m => i1 b && i2 m | [] => false)
abbrev LogN := Log × Nat × Nat
structure Fr where
 regs : Nat → AV
 boxes : List Nat
structure Ann where
 /- boxes that stay behind the call; functions whose result is frozen; operations whose new object is never written; functions that leave no trace -/
 esc : Nat → Nat → Bool
 fz : Nat → Bool
 ro : Nat → Nat → Bool
 still : Nat → Bool
 /- functions from trees to trees, run by themselves -/
 pure : Nat → Bool
 /- what package-level variables hold -/
 glob : Nat → Option (List AV)
 /- functions without a body -/
 ext : List (Nat × EK) := []
inductive AX where
 | norm
 | exit (id : Nat)
 | ret
 deriving DecidableEq
def evalA (A : Ann) (regs : Nat → AV) : Operand → Option AV
 | .tmp t => some (regs t)
 | .const v => ofv v
 | .global g => (A.glob g).map fun cs => .tptr cs 0
 | .func f => some (.fn f [] [])
def isBox : Op → Bool
 | .alloc _ | .box _ _ => true
 | _ => false
def frz1 (v : AV) : AM AV :=
 match v with
 | .sl id off len sz => AM.bind (AM.get id) fun o => match o with
  | .cells cs => AM.bind (AM.lift (sliceL cs off (len * sz))) fun cs => AM.bind (AM.kill id) fun _ => AM.pure (.tsl cs len)
  | _ => AM.fail
 | .ptr id off => AM.bind (AM.get id) fun o => match o with
  | .cells cs => AM.bind (AM.kill id) fun _ => AM.pure (.tptr cs off)
  | _ => AM.fail
 | v => AM.pure v
def hush {α : Type} (m : AM α) : AM α := fun h n =>
 match m h n with
 | none => none
 | some (a, h', n', lg) => some (a, h', n', (lg.1.filter (· < n), lg.2.filter (· < n)))
def shut (m : AM AV) : AM AV := hush (AM.bind m frz1)
def roAt (A : Ann) (f : Nat) (dst : Option Tmp) : Bool := match dst with
 | some d => A.ro f d
 | none => false
section
variable (call : Nat → List AV → AM AV) (P : Program) (A : Ann) (f nt : Nat)
def opV (o : Oper) (regs : Nat → AV) : AM AV :=
 match o.op with
 | .call { callee := .value x, args, argTypes := _ } => match evalA A regs x with
  | some (.fn g first cap) => AM.bind (AM.lift (evs (evalA A regs) args.toList)) fun vs => call g (first ++ vs ++ cap)
  | _ => AM.fail
 | .call { callee := .invoke x name, args, argTypes := _ } => match evalA A regs x with
  | some (.ifc t v) => match methA P t name with
   | some (g, none) => AM.bind (AM.lift (evs (evalA A regs) args.toList)) fun vs => call g (v :: vs)
   | some (g, some e) => AM.bind (loadT P e v) fun u => AM.bind (AM.lift (evs (evalA A regs) args.toList)) fun vs => call g (u :: vs)
   | none => AM.fail
  | _ => AM.fail
 | op => if roAt A f o.dst then shut (opM P (evalA A regs) op) else opM P (evalA A regs) op
def putA (o : Oper) (v : AV) (fr : Fr) : Option Fr :=
 match o.dst with
 | none => some fr
 | some d => if d < nt then
   some { regs := upd fr.regs d v, boxes := if isBox o.op && !A.esc f d then (match v with | .ptr id _ => id :: fr.boxes | _ => fr.boxes) else fr.boxes }
  else none
def wantedA (ops : Array Oper) (o : Oper) (regs : Nat → AV) : Option Bool :=
 match o.guard with
 | none => some true
 | some (j, want) => match (ops[j]?).bind (·.dst) with
  | some d => match regs d with
   | .bool b => some (b == want)
   | .tup [] => some false
   | _ => none
  | none => none
def stepA (ops : Array Oper) (o : Oper) (fr : Fr) : AM Fr :=
 match wantedA ops o fr.regs with
 | some true => AM.bind (opV call P A f o fr.regs) fun v => AM.lift (putA A f nt o v fr)
 | some false => AM.lift (match o.dst with
  | none => some fr
  | some d => if d < nt then some { fr with regs := upd fr.regs d .undef } else none)
 | none => AM.fail
def runOps (ops : Array Oper) : List Oper → Fr → AM Fr
 | [], fr => AM.pure fr
 | o :: r, fr => AM.bind (stepA call P A f nt ops o fr) fun fr => runOps ops r fr
def runLog (ops : Array Oper) : List Oper → Fr → Heap → Nat → Option (Fr × Heap × Nat × List LogN)
 | [], fr, h, n => some (fr, h, n, [])
 | o :: r, fr, h, n => match stepA call P A f nt ops o fr h n with
  | none => none
  | some (fr1, h1, n1, lg) => match runLog ops r fr1 h1 n1 with
   | none => none
   | some (fr2, h2, n2, lgs) => some (fr2, h2, n2, (lg, n, n1) :: lgs)
def disj (a b : List Nat) : Bool := a.all fun x => !b.contains x
def clash (a b : LogN) : Bool :=
 !(disj a.1.2 b.1.1 && disj a.1.2 b.1.2 && disj b.1.2 a.1.1 && (b.1.1 ++ b.1.2).all fun id => !(decide (a.2.1 ≤ id) && decide (id < a.2.2)))
def ancAt (acc : List Nat) (o : Oper) : Nat := o.after.toList.foldl (fun s e => if Region.binds .any e then s ||| 2 ^ e.on ||| acc.getD e.on 0 else s) 0
def ancL : List Oper → List Nat → List Nat
 | [], acc => acc
 | o :: r, acc => ancL r (acc ++ [ancAt acc o])
def openPairs (ops : Array Oper) : List (Nat × Nat) :=
 let b := ancL ops.toList []
 (List.range ops.size).flatMap fun j => ((List.range j).filter fun i => !(b.getD j 0).testBit i).map fun i => (i, j)
def calm (ops : Array Oper) (lgs : List LogN) : Bool :=
 (openPairs ops).all fun p => !clash (lgs.getD p.1 (([], []), 0, 0)) (lgs.getD p.2 (([], []), 0, 0))
def withLog {α : Type} (m : AM α) : AM (α × LogN) := fun h n =>
 match m h n with
 | none => none
 | some (a, h', n', lg) => some ((a, (lg, n, n')), h', n', lg)
def AM.both {α β γ : Type} (m : AM α) (p : α → AM β) (c : α → β → Option γ) : AM γ := fun h n =>
 match m h n with
 | none => none
 | some (a, h', n', l) => match p a h n with
  | none => none
  | some (b, _, n'', l2) => if n'' = n' ∧ (l2.1.all fun x => l.1.contains x || l.2.contains x) = true ∧ (l2.2.all fun x => l.2.contains x) = true then match c a b with
   | some x => some (x, h', n', l)
   | none => none
   else none
def AM.look (p : Nat × Nat × Nat) : AM (Option (List AV)) := AM.bind (AM.get p.1) fun o => AM.pure (match o with
 | .cells cs => sliceL cs p.2.1 p.2.2
 | _ => none)
abbrev Pl := Option (Nat × Nat × Nat)
def cellsT (P : Program) (t : TypeId) : Option Nat := match aggOf P t, szOf P t with
 | some true, some n => some n
 | some false, some _ => some 1
 | _, _ => none
def ldOf (ops : Array Oper) (o : Oper) (fr : Fr) : Pl := match o.op, roAt A f o.dst, wantedA ops o fr.regs with
 | .load t a, false, some true => match evalA A fr.regs a, cellsT P t with
  | some (.ptr id off), some m => some (id, off, m)
  | _, _ => none
 | _, _, _ => none
def runD (ops : Array Oper) : List Oper → Fr → AM (Fr × List (LogN × Pl))
 | [], fr => AM.pure (fr, [])
 | o :: r, fr => AM.bind (withLog (stepA call P A f nt ops o fr)) fun x => AM.bind (runD ops r x.1) fun y => AM.pure (y.1, (x.2, ldOf P A f ops o fr) :: y.2)
def lookL : List Pl → AM (List (Option (List AV)))
 | [] => AM.pure []
 | none :: r => AM.bind (lookL r) fun vs => AM.pure (none :: vs)
 | some p :: r => AM.bind (AM.look p) fun v => AM.bind (lookL r) fun vs => AM.pure (v :: vs)
abbrev Snap := List (List (Option (List AV)))
def runLook (ops : Array Oper) (ps : List Pl) : List Oper → Fr → AM Snap
 | [], _ => AM.bind (lookL ps) fun v => AM.pure [v]
 | o :: r, fr => AM.bind (lookL ps) fun v => AM.bind (stepA call P A f nt ops o fr) fun fr' => AM.bind (runLook ops ps r fr') fun vs => AM.pure (v :: vs)
def lgAt (es : List (LogN × Pl)) (i : Nat) : LogN := (es.getD i ((([], []), 0, 0), none)).1
def needs (ops : Array Oper) (es : List (LogN × Pl)) : List Pl := (List.range es.length).map fun i =>
 if (openPairs ops).any fun p => clash (lgAt es p.1) (lgAt es p.2) && (p.1 == i || p.2 == i) then (es.getD i ((([], []), 0, 0), none)).2 else none
noncomputable def stabL (sn : Snap) (i j : Nat) : Bool := match (sn.getD j []).getD i none, (sn.getD (j + 1) []).getD i none with
 | some x, some y => eqV (.agg x) (.agg y)
 | _, _ => false
noncomputable def calmL (ops : Array Oper) (es : List (LogN × Pl)) (sn : Snap) : Bool := (openPairs ops).all fun p => !clash (lgAt es p.1) (lgAt es p.2) || stabL sn p.1 p.2 || stabL sn p.2 p.1
def joinLogs (lgs : List LogN) : Log := (lgs.flatMap (·.1.1), lgs.flatMap (·.1.2))
noncomputable def runDraw (ops : Array Oper) (fr : Fr) : AM Fr := fun h n =>
 match runLog call P A f nt ops ops.toList fr h n with
 | none => none
 | some (fr', h', n', lgs) => if calm ops lgs then some (fr', h', n', joinLogs lgs) else
  AM.both (runD call P A f nt ops ops.toList fr) (fun a => runLook call P A f nt ops (needs ops a.2) ops.toList fr) (fun a b => if calmL ops a.2 b then some a.1 else none) h n
def loopN (body : Fr → AM (AX × Fr)) : Nat → Fr → AM (AX × Fr)
 | 0, _ => AM.fail
 | k + 1, fr => AM.bind (body fr) fun x => match x.1 with
  | .norm => loopN body k x.2
  | e => AM.pure (e, x.2)
noncomputable def exec (k : Nat) : Code → Fr → AM (AX × Fr)
 | .skip, fr => AM.pure (.norm, fr)
 | .region _ ops draw, fr => AM.bind (if draw then runDraw call P A f nt ops fr else runOps call P A f nt ops ops.toList fr) fun fr => AM.pure (.norm, fr)
 | .seq a b, fr => AM.bind (exec k a fr) fun x => match x.1 with
  | .norm => exec k b x.2
  | e => AM.pure (e, x.2)
 | .cond c a b, fr => match evalA A fr.regs c with
  | some (.bool true) => exec k a fr
  | some (.bool false) => exec k b fr
  | _ => AM.fail
 | .block id b, fr => AM.bind (exec k b fr) fun x => AM.pure (if x.1 = .exit id then .norm else x.1, x.2)
 | .loop b, fr => loopN (fun fr => exec k b fr) k fr
 | .exit id, fr => AM.pure (.exit id, fr)
 | .ret, fr => AM.pure (.ret, fr)
 | _, _ => AM.fail
end
def NC (op : Op) : Prop := (∀ x a t, op ≠ .call { callee := .value x, args := a, argTypes := t }) ∧ ∀ x m a t, op ≠ .call { callee := .invoke x m, args := a, argTypes := t }
def freezeW (fz : AV → AM AV) : List AV → AM (List AV)
 | [] => AM.pure []
 | v :: r => AM.bind (fz v) fun v => AM.bind (freezeW fz r) fun r => AM.pure (v :: r)
def freezeV : Nat → AV → AM AV
 | 0, _ => AM.fail
 | k + 1, v => match v with
  | .sl id off len sz => AM.bind (AM.get id) fun o => match o with
   | .cells cs => AM.bind (AM.lift (sliceL cs off (len * sz))) fun cs => AM.bind (AM.kill id) fun _ =>
     AM.bind (freezeW (freezeV k) cs) fun cs => AM.pure (.tsl cs len)
   | _ => AM.fail
  | .agg cs => AM.bind (freezeW (freezeV k) cs) fun cs => AM.pure (.agg cs)
  | .tup cs => AM.bind (freezeW (freezeV k) cs) fun cs => AM.pure (.tup cs)
  | v => AM.pure v
def resultsA (P : Program) (regs : Nat → AV) : List ResultVar → AM (List AV)
 | [] => AM.pure []
 | .tmp t :: r => AM.bind (resultsA P regs r) fun vs => AM.pure (regs t :: vs)
 | .cell a t :: r => AM.bind (loadT P t (regs a)) fun v => AM.bind (resultsA P regs r) fun vs => AM.pure (v :: vs)
def tupled : List AV → AV
 | [v] => v
 | vs => .tup vs
def freeBoxes (n0 n1 : Nat) (h : Heap) (l : List Nat) : Heap := fun id => if n0 ≤ id ∧ id < n1 ∧ l.contains id = true then none else h id
def finish (still : Bool) (n0 : Nat) (h0 : Heap) (v : AV) (boxes : List Nat) (h1 : Heap) (n1 : Nat) (lg : Log) : AV × Heap × Nat × Log :=
 let r := lg.1.filter (· < n0)
 let w := lg.2.filter (· < n0)
 if still && v.tree && w.isEmpty then (v, h0, n1, (r, []))
 else (v, freeBoxes n0 n1 h1 boxes, n1, (r, w))
def initRegs (args : List AV) : Nat → AV := fun i => args.getD i .undef
noncomputable def body (call : Nat → List AV → AM AV) (P : Program) (A : Ann) (k f : Nat) (args : List AV) : AM (AV × List Nat) :=
 match P.funcs[f]? with
 | some fn => match fn.body with
  | some c => if fn.name == "runtime.NumGoroutine" || decide (fn.ntmps < args.length) then AM.fail else
   AM.bind (exec call P A f fn.ntmps k c ⟨initRegs args, []⟩) fun x => match x.1 with
    | .exit _ => AM.fail
    | _ => AM.bind (resultsA P x.2.regs fn.results.toList) fun vs =>
     AM.bind (if A.fz f then freezeV 1000 (tupled vs) else AM.pure (tupled vs)) fun v => AM.pure (v, x.2.boxes)
  | none => match A.ext.lookup f with
   | some e => AM.bind (extA e args) fun v => AM.pure (v, [])
   | none => AM.fail
 | none => AM.fail
noncomputable def callO (call : Nat → List AV → AM AV) (P : Program) (A : Ann) (k f : Nat) (args : List AV) : AM AV := fun h n => match body call P A k f args h n with
 | none => none
 | some ((v, boxes), h1, n1, lg) => some (finish (A.still f) n h v boxes h1 n1 lg)
def alone (m : AM AV) : AM AV := fun h n => match m (fun _ => none) 0 with
 | none => none
 | some (v, _) => if v.tree then some (v, h, n, ([], [])) else none
noncomputable def callN (P : Program) (A : Ann) : Nat → Nat → List AV → AM AV
 | 0, _, _ => AM.fail
 | k + 1, f, args => if A.pure f && AV.trees args then alone (callO (callN P A k) P A k f args) else callO (callN P A k) P A k f args
def regionOk (ops : Array Oper) : Bool :=
 ((List.range ops.size).all fun i => match ops[i]? with
  | some o => o.after.toList.all fun e => !Region.binds .any e || decide (e.on < i)
  | none => false) &&
 (openPairs ops).all fun p => match ops[p.1]?, ops[p.2]? with
  | some x, some y => x.apart ops y
  | _, _ => false
def codeOk : Code → Bool
 | .region _ ops draw => !draw || regionOk ops
 | .seq a b | .cond _ a b => codeOk a && codeOk b
 | .block _ b | .loop b => codeOk b
 | _ => true
def progOk (P : Program) : Bool := P.funcs.toList.all fun fn => match fn.body with
 | some c => codeOk c
 | none => true
end Go.Abs
