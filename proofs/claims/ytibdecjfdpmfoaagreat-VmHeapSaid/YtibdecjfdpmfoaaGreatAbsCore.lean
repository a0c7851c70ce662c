import Derived.Calls
import Derived.Below
import Derived.Orders
import GoSem.Extern.Table
namespace Go.Abs
open List hiding map nil
abbrev Zs:=@Option.some.injEq
abbrev Zp:=@Prod.mk.injEq
abbrev Zf:=@Bool.false_eq_true
abbrev Zg:=@List.getElem?_eq_getElem
abbrev Zi:=@List.getElem?_eq_some_iff
abbrev Zd:=@List.getD_eq_getElem?_getD
abbrev Zn:=@Int.toNat_natCast
abbrev Zx:=@decide_eq_false
abbrev Zt:=@decide_eq_true
abbrev Za:=@Bool.and_eq_true
abbrev Zc:=@List.getElem?_cons_zero
abbrev Zm:=@List.mem_singleton
abbrev Zl:=@Nat.le_refl
abbrev Zr:=@Nat.mul_le_mul_right
abbrev Zk:=@List.take_of_length_le
inductive NilK where
 |ptr|sl|fn|map|ifc
 deriving DecidableEq,Inhabited
inductive AV where
 |bool (b:Bool)
 |int (k:IntKind) (n:Int)
 |str (s:List UInt8)
 |nil (k:NilK)
 |ptr (id off:Nat)
 |tptr (cells:List AV) (off:Nat)
 |sl (id off len sz:Nat)
 |tsl (cells:List AV) (len:Nat)
 |map (id:Nat)
 |fn (f:Nat) (first cap:List AV)
 |agg (cells:List AV)
 |tup (vs:List AV)
 |ifc (t:Nat) (v:AV)
 deriving Inhabited
def AV.undef:AV:= .tup []
def AV.cells:AV→List AV
 |.agg cs=>cs
 |v=>[v]
def AV.one:AV→Bool
 |.agg _ | .tup _=>false
 |_=>true
mutual
def AV.tree:AV→Bool
 |.bool _ | .int _ _ | .str _ | .nil _=>true
 |.ptr _ _ | .sl _ _ _ _ | .map _=>false
 |.tptr cs _ | .tsl cs _ | .agg cs | .tup cs=>AV.trees cs
 |.fn _ a b=>AV.trees a&&AV.trees b
 |.ifc _ v=>v.tree
def AV.trees:List AV→Bool
 |[]=>true
 |a::l=>a.tree&&AV.trees l
end
def Ygd:Value→Option AV
 |.bool b=>some (.bool b)
 |.int k n=>some (.int k n)
 |.string s=>some (.str s.data.toList)
 |.pointer none=>some (.nil .ptr)
 |.slice none 0 0=>some (.nil .sl)
 |.nilFunc=>some (.nil .fn)
 |.map none=>some (.nil .map)
 |.nilIface=>some (.nil .ifc)
 |_=>none
def ofv:Value→Option AV
 |.agg cs=>(cs.toList.mapM Ygd).map .agg
 |v=>Ygd v
def Xj:AV→Option Value
 |.bool b=>some (.bool b)
 |.int k n=>some (.int k n)
 |.str s=>some (.string ⟨s.toArray⟩)
 |_=>none
def Yjn:AV→Option Value
 |.agg cs=>(cs.mapM Xj).map fun l=> .agg l.toArray
 |v=>Xj v
def spr {α:Type} (P:Program):Sem α→Option α
 |.pure a=>some a
 |.program k=>spr P (k P)
 |.mark _ k=>spr P k
 |_=>none
inductive AObj where
 |cells (cs:List AV)
 |map (es:List (AV×AV))
 deriving Inhabited
abbrev Ya:=Nat→Option AObj
abbrev Log:=List Nat×List Nat
abbrev Res (α:Type):=Option (α×Ya×Nat×Log)
def AM (α:Type):=Ya→Nat→Res α
def upd {β:Type} (f:Nat→β) (i:Nat) (v:β):Nat→β:=fun j=>if j=i then v else f j
namespace AM
open List hiding get set
def pure {α:Type} (a:α):AM α:=fun h n=>some (a,h,n,([],[]))
def fail {α:Type}:AM α:=fun _ _=>none
def lift {α:Type}:Option α→AM α
 |some a=>pure a
 |none=>fail
def bind {α β:Type} (m:AM α) (f:α→AM β):AM β:=fun h n=>
 match m h n with
 |none=>none
 |some (a,h1,n1,lg)=>
  match f a h1 n1 with
  |none=>none
  |some (b,h2,n2,lg2)=>some (b,h2,n2,(lg.1++lg2.1,lg.2++lg2.2))
def get (id:Nat):AM AObj:=fun h n=>
 match h id with
 |some o=>some (o,h,n,([id],[]))
 |none=>none
def set (id:Nat) (o:AObj):AM Unit:=fun h n=>
 match h id with
 |some _=>some ((),upd h id (some o),n,([],[id]))
 |none=>none
def kill (id:Nat):AM Unit:=fun h n=>
 match h id with
 |some _=>some ((),upd h id none,n,([],[id]))
 |none=>none
def new (o:AObj):AM Nat:=fun h n=>some (n,upd h n (some o),n+1,([],[]))
end AM
instance:Monad AM where
 pure:=AM.pure
 bind:=AM.bind
def Yp {α:Type} (l:List α) (off n:Nat):Option (List α):=if off+n≤l.length then some ((l.drop off).take n) else none
def Ql {α:Type} (l:List α) (off:Nat) (vs:List α):Option (List α):=
 if off+vs.length≤l.length then some (l.take off++vs++l.drop (off+vs.length)) else none
def Kx (P:Program) (t:TypeId):Option Nat:=(P.info? t).map (·.size)
def Ybp (P:Program) (t:TypeId):Option Nat:=(P.info? t).map (·.bytes)
def Q0 (P:Program) (t:TypeId):Option AV:=((P.info? t).bind (·.zero)).bind ofv
def Ymd (P:Program) (t:TypeId):Option Bool:=
 match P.underlying t with
 |some (.struct _)|some (.array _ _)=>some true
 |some _=>some false
 |none=>none
def Xt (p:AV) (n:Nat):AM (List AV):=
 match p with
 |.ptr id off=>AM.bind (AM.get id) fun o=>match o with
  |.cells cs=>AM.lift (Yp cs off n)
  |_=>AM.fail
 |.tptr cs off=>AM.lift (Yp cs off n)
 |_=>AM.fail
def X9 (agg:Bool) (cs:List AV):Option AV:=
 if agg then some (.agg cs) else match cs with
  |[v]=>some v
  |_=>none
def Kq (P:Program) (t:TypeId) (p:AV):AM AV:=
 AM.bind (AM.lift (Ymd P t)) fun agg=>AM.bind (AM.lift (Kx P t)) fun n=>
 AM.bind (Xt p (if agg then n else 1)) fun cs=>AM.lift (X9 agg cs)
def Yaa (p:AV) (vs:List AV):AM Unit:=
 match p with
 |.ptr id off=>AM.bind (AM.get id) fun o=>match o with
  |.cells cs=>AM.bind (AM.lift (if vs.all AV.one then Ql cs off vs else none)) fun cs'=>AM.set id (.cells cs')
  |_=>AM.fail
 |_=>AM.fail
def Ykb (P:Program) (t:TypeId) (p v:AV):AM AV:=
 AM.bind (AM.lift (Kx P t)) fun n=>if v.cells.length=n then AM.bind (Yaa p v.cells) fun _=>AM.pure AV.undef else AM.fail
def Ygs (place:Nat→Option (Nat×Nat)) (cells:List AV):List (Nat×AV)→Option (List AV)
 |[]=>some cells
 |(i,v)::rest=>
  match place i with
  |none=>none
  |some (off,size)=>if v.cells.length=size then
    match Ql cells off v.cells with
    |some cs=>Ygs place cs rest
    |none=>none
   else none
def J7 (ev:Operand→Option AV):List (Nat×Operand)→Option (List (Nat×AV))
 |[]=>some []
 |(i,x)::r=>match ev x with
  |some v=>(J7 ev r).map ((i,v):: ·)
  |none=>none
def evs (ev:Operand→Option AV):List Operand→Option (List AV)
 |[]=>some []
 |x::r=>match ev x with
  |some v=>(evs ev r).map (v:: ·)
  |none=>none
def Ydk (P:Program) (fs:Array Field) (i:Nat):Option (Nat×Nat):=
 match fs[i]? with
 |some f=>(Kx P f.type).map fun s=>(f.offset,s)
 |none=>none
def Yn6 (P:Program) (t:TypeId) (ps:List (Nat×AV)):Option AV:=
 match Q0 P t,P.underlying t with
 |some z,some (.struct fs)=>if fs.all (fun f=>(Kx P f.type).isSome) then(Ygs (Ydk P fs) z.cells ps).map .agg else none
 |some z,some (.array _ e)=>match Kx P e with
  |some s=>(Ygs (fun i=>some (i*s,s)) z.cells ps).map .agg
  |none=>none
 |_,_=>none
def X6 (z:List AV) (n:Nat):List AV:=(List.range n).map fun i=>z.getD (i%z.length) .undef
def Xb (P:Program) (t:TypeId):Option TypeId:=
 match P.underlying t with
 |some (.slice e)=>some e
 |_=>none
def J9 (P:Program) (t:TypeId) (len:Nat) (ps:List (Nat×AV)):AM AV:=
 AM.bind (AM.lift (Xb P t)) fun e=>AM.bind (AM.lift (Kx P e)) fun s=>
 AM.bind (AM.lift (Q0 P e)) fun z=>
 if len*s≤2^20∧0<s∧z.cells.length=s∧z.cells.all AV.one then
  AM.bind (AM.lift (Ygs (fun i=>some (i*s,s)) (X6 z.cells (len*s)) ps)) fun cs=>
  if cs.all AV.one then AM.bind (AM.new (.cells cs)) fun id=>AM.pure (.sl id 0 len s) else AM.fail
 else AM.fail
def Yct:AV→Option Int
 |.int _ n=>some n
 |_=>none
def Yak:AV→Option Bool
 |.nil .ifc=>none
 |.nil _=>some true
 |.ptr _ _ | .tptr _ _ | .sl _ _ _ _ | .tsl _ _ | .map _ | .fn _ _ _=>some false
 |_=>none
def Yox:AV→Option NilK
 |.nil k=>some k
 |.ptr _ _ | .tptr _ _=>some .ptr
 |.sl _ _ _ _ | .tsl _ _=>some .sl
 |.map _=>some .map
 |.fn _ _ _=>some .fn
 |_=>none
def Yde (P:Program) (t:TypeId) (k:NilK) (x:AV):Bool:=
 Yox x==some k&&(match P.underlying t,k with
 |some (.pointer _),.ptr|some (.slice _),.sl|some (.map _ _),.map|some (.func _ _ _),.fn=>true
 |_,_=>false)
def Ym3 (P:Program) (t:TypeId) (cs:List AV) (off:Nat):Option AV:=
 match Ymd P t,Kx P t with
 |some true,some n=>(Yp cs off n).map .agg
 |some false,some _=>cs[off]?
 |_,_=>none
def Yn0 (P:Program) (t:TypeId) (x:AV) (i:Nat):Option AV:=
 match P.underlying t,x with
 |some (.struct fs),.agg cs=>match fs[i]? with
  |some f=>Ym3 P f.type cs f.offset
  |none=>none
 |_,_=>none
def Yr4 (p:AV) (n:Nat):Option AV:=
 match p with
 |.ptr id off=>some (.ptr id (off+n))
 |.tptr cs off=>some (.tptr cs (off+n))
 |_=>none
def Ycv (P:Program) (t:TypeId) (p:AV) (i:Nat):Option AV:=
 match P.underlying t with
 |some (.struct fs)=>match fs[i]? with
  |some f=>match Kx P f.type with
   |some (_+1)=>Yr4 p f.offset
   |_=>none
  |none=>none
 |_=>none
def J5 (P:Program) (t:TypeId) (x ix:AV):Option AV:=
 match Yct ix with
 |none=>none
 |some i=>match P.underlying t,x with
  |some (.array len e),p=>match Kx P e with
   |some s=>if 0≤i∧i<len then Yr4 p (i.toNat*s) else none
   |none=>none
  |some (.slice e),.sl id off len sz=>if Kx P e=some sz∧0≤i∧i<len then some (.ptr id (off+i.toNat*sz)) else none
  |some (.slice e),.tsl cs len=>match Kx P e with
   |some s=>if 0≤i∧i<len then some (.tptr cs (i.toNat*s)) else none
   |none=>none
  |_,_=>none
def Jt (len:Nat) (lo hi:Option AV):Option (Nat×Nat):=
 match hi with
 |none=>match lo with
  |none=>some (0,len)
  |some l=>match Yct l with
   |some l=>if 0≤l∧l≤len then some (l.toNat,len) else none
   |none=>none
 |some h=>match Yct h with
  |none=>none
  |some h=>if 0≤h∧h≤len then match lo with
    |none=>some (0,h.toNat)
    |some l=>match Yct l with
     |some l=>if 0≤l∧l≤h then some (l.toNat,h.toNat) else none
     |none=>none
   else none
def Yfj (P:Program) (t:TypeId) (x:AV) (lo hi:Option AV):AM AV:=
 match P.underlying t,x with
 |some (.array n e),.ptr id off=>AM.bind (AM.get id) fun o=>match o,Kx P e,Jt n lo hi with
  |.cells cs,some s,some (l,h)=>if off+n*s≤cs.length then AM.pure (.sl id (off+l*s) (h-l) s) else AM.fail
  |_,_,_=>AM.fail
 |some .string,.str s=>match Jt s.length lo hi with
  |some (l,h)=>AM.pure (.str ((s.take h).drop l))
  |none=>AM.fail
 |some (.slice e),.nil .sl=>match Kx P e,Jt 0 lo hi with
  |some _,some _=>AM.pure (.nil .sl)
  |_,_=>AM.fail
 |some (.slice e),.sl id off len sz=>match Jt len lo hi with
  |some (l,h)=>if Kx P e=some sz then AM.pure (.sl id (off+l*sz) (h-l) sz) else AM.fail
  |none=>AM.fail
 |some (.slice e),.tsl cs len=>match Kx P e,Jt len lo hi with
  |some s,some (l,h)=>AM.pure (.tsl ((cs.take (h*s)).drop (l*s)) (h-l))
  |_,_=>AM.fail
 |_,_=>AM.fail
def Ykv (P:Program) (t:TypeId) (x ix:AV):Option AV:=
 match Yct ix with
 |none=>none
 |some i=>match P.underlying t,x with
  |some (.array len e),.agg cs=>match Kx P e with
   |some s=>if 0≤i∧i<len then Ym3 P e cs (i.toNat*s) else none
   |none=>none
  |some .string,.str s=>if 0≤i then(s[i.toNat]?).map fun b=> .int .u8 b.toNat else none
  |_,_=>none
def Yk6 (P:Program) (op:BinOp) (t:TypeId) (ox oy:Operand) (x y:AV):Option AV:=
 match Yjn x,Yjn y with
 |some a,some b=>(spr P (do eqGuard op t ox oy a b;binOp op t a b)).bind ofv
 |_,_=>match op,x,y with
   |.eql,x,.nil k=>if Yde P t k x then(Yak x).map .bool else none
   |.neq,x,.nil k=>if Yde P t k x then(Yak x).map fun b=> .bool !b else none
   |.eql,.nil k,y=>if Yde P t k y then(Yak y).map .bool else none
   |.neq,.nil k,y=>if Yde P t k y then(Yak y).map fun b=> .bool !b else none
   |_,_,_=>none
def Yae:List AV→Option (List UInt8)
 |[]=>some []
 |.int .u8 n::r=>(Yae r).map (UInt8.ofNat n.toNat:: ·)
 |_::_=>none
def J4 (P:Program) (e:TypeId):Bool:=match P.underlying e with|some (.int .u8)=>true|_=>false
def K3 (P:Program) (src dst:TypeId) (x:AV):AM AV:=
 match P.underlying src,P.underlying dst,x with
 |some _,some (.int _),.int k n=>AM.lift ((spr P (convert src dst (.int k n))).bind ofv)
 |some _,some .string,.str s=>AM.pure (.str s)
 |some .string,some (.slice e),.str s=>if J4 P e then AM.bind (AM.new (.cells (s.map fun b=> .int .u8 b.toNat))) fun id=>AM.pure (.sl id 0 s.length 1) else AM.fail
 |some (.slice e),some .string,.nil .sl=>if J4 P e then AM.pure (.str []) else AM.fail
 |some (.slice e),some .string,.sl id off len sz=>if sz=1∧J4 P e=true then AM.bind (Xt (.ptr id off) len) fun cs=>AM.lift ((Yae cs).map .str) else AM.fail
 |some (.slice e),some .string,.tsl cs len=>if J4 P e then AM.bind (AM.lift (Yp cs 0 len)) fun cs=>AM.lift ((Yae cs).map .str) else AM.fail
 |some (.slice _),some (.slice e),.sl id off len sz=>if(src==dst)=true∧J4 P e=true∧0<len∧sz=1 then AM.bind (Xt (.ptr id off) len) fun _=>AM.pure (.sl id off len sz) else AM.fail
 |_,_,_=>AM.fail
def lenA (P:Program) (t:TypeId) (x:AV):AM AV:=
 match P.underlying t,x with
 |some .string,.str s=>AM.pure (.int .i64 s.length)
 |some (.array n _),_=>AM.pure (.int .i64 n)
 |some (.slice _),.nil .sl=>AM.pure (.int .i64 0)
 |some (.slice _),.sl _ _ n _=>AM.pure (.int .i64 n)
 |some (.slice _),.tsl _ n=>AM.pure (.int .i64 n)
 |some (.map _ _),.nil .map=>AM.pure (.int .i64 0)
 |some (.map _ _),.map id=>AM.bind (AM.get id) fun o=>match o with
  |.map es=>AM.pure (.int .i64 es.length)
  |_=>AM.fail
 |_,_=>AM.fail
def srcA (s:Nat) (x:AV):AM (List AV×Nat):=
 match x with
 |.nil .sl=>AM.pure ([],0)
 |.str b=>AM.pure (b.map (fun b=> .int .u8 b.toNat),b.length)
 |.sl id off n sz=>if sz=s then AM.bind (Xt (.ptr id off) (n*s)) fun cs=>AM.pure (cs,n) else AM.fail
 |.tsl cs n=>AM.bind (AM.lift (Yp cs 0 (n*s))) fun cs=>AM.pure (cs,n)
 |_=>AM.fail
def Qz (s:Nat) (base:AV) (new:List AV) (n:Nat):AM AV:=
 if n=0 then AM.pure base else
 match base with
 |.nil .sl=>AM.bind (AM.new (.cells new)) fun id=>AM.pure (.sl id 0 n s)
 |.sl id off len sz=>if sz=s then AM.bind (Xt (.ptr id off) (len*s)) fun old=>AM.bind (AM.kill id) fun _=>
   AM.bind (AM.new (.cells (old++new))) fun id'=>AM.pure (.sl id' 0 (len+n) s) else AM.fail
 |_=>AM.fail
def Yfo:AV→Option Nat
 |.nil .sl=>some 0
 |.sl _ _ n _=>some n
 |.tsl _ n=>some n
 |_=>none
def Ycd (P:Program) (ts:List TypeId) (x y:AV):AM AV:=
 match ts with
 |[t,u]=>AM.bind (AM.lift (Xb P t)) fun e=>AM.bind (AM.lift (Kx P e)) fun s=>AM.bind (AM.lift (Ybp P e)) fun by_=>
  AM.bind (AM.lift (Q0 P e)) fun z=>
  if 0<s∧z.cells.length=s∧z.cells.all AV.one then
  AM.bind (match P.underlying u,y with
   |some (.int _),.int _ k=>if 0≤k∧k≤2^30 then AM.pure (X6 z.cells (k.toNat*s),k.toNat) else AM.fail
   |some (.slice _),y=>srcA s y
   |some .string,.str b=>srcA s (.str b)
   |_,_=>AM.fail) fun src=>
  match Yfo x with
  |some l=>if(l+src.2)*(by_+1)≤2^44∧src.1.length=src.2*s∧src.1.all AV.one then Qz s x src.1 src.2 else AM.fail
  |none=>AM.fail
  else AM.fail
 |_=>AM.fail
def Yry (P:Program) (ts:List TypeId) (x y:AV):AM AV:=
 match ts with
 |t::_=>AM.bind (AM.lift (Xb P t)) fun e=>AM.bind (AM.lift (Kx P e)) fun s=>
  match x with
  |.sl id off len sz=>if sz=s∧0<s then
    AM.bind (srcA s y) fun src=>if src.1.length=src.2*s then
     AM.bind (Yaa (.ptr id off) (src.1.take (min src.2 len*s))) fun _=>AM.pure (.int .i64 (min src.2 len:Nat)) else AM.fail
   else AM.fail
  |_=>AM.fail
 |_=>AM.fail
def Yhe (P:Program) (isMax:Bool) (xs:List AV):Option AV:=
 match xs.mapM Yjn with
 |some vs=>(spr P (if isMax then Builtin.max_ #[] 0 vs.toArray else Builtin.min_ #[] 0 vs.toArray)).bind ofv
 |none=>none
def i64A:AV→Option Int
 |.int .i64 n=>some n
 |_=>none
def Ya7 (P:Program) (t:TypeId) (l c:AV):AM AV:=
 AM.bind (AM.lift (Xb P t)) fun e=>AM.bind (AM.lift (Kx P e)) fun s=>AM.bind (AM.lift (Ybp P e)) fun by_=>
 AM.bind (AM.lift (Q0 P e)) fun z=>
 AM.bind (AM.lift (i64A l)) fun n=>AM.bind (AM.lift (i64A c)) fun m=>
 if n=m∧0≤n∧n*(by_+1)≤2^40∧0<s∧z.cells.length=s∧z.cells.all AV.one then
   AM.bind (AM.new (.cells (X6 z.cells (n.toNat*s)))) fun id=>AM.pure (.sl id 0 n.toNat s) else AM.fail
def Yro:AV→AV→Option Bool
 |.int k a,.int k' b=>if k=k' then some (a==b) else none
 |.str a,.str b=>some (a==b)
 |.bool a,.bool b=>some (a==b)
 |_,_=>none
def Ygq (k:AV):List (AV×AV)→Nat→Option (Option (Nat×AV))
 |[],_=>some none
 |e::es,i=>match Yro k e.1 with
  |some true=>some (some (i,e.2))
  |some false=>Ygq k es (i+1)
  |none=>none
def J3 (P:Program) (t:TypeId) (k:AV):Bool:=
 match P.underlying t,k with
 |some (.int k),.int k' _=>k==k'
 |some .string,.str _=>true
 |some .bool,.bool _=>true
 |_,_=>false
def Yhf (P:Program) (t:TypeId) (x k:AV) (ok:Bool):AM AV:=
 match P.underlying t with
 |some (.map kt et)=>if J3 P kt k then
   AM.bind (match x with
    |.nil .map=>AM.pure []
    |.map id=>AM.bind (AM.get id) fun o=>match o with
     |.map es=>AM.pure es
     |_=>AM.fail
    |_=>AM.fail) fun es=>
   match Ygq k es 0,Q0 P et with
   |some (some (_,v)),some _=>AM.pure (if ok then .tup [v,.bool true] else v)
   |some none,some z=>AM.pure (if ok then .tup [z,.bool false] else z)
   |_,_=>AM.fail
  else AM.fail
 |_=>AM.fail
def Ya6 (P:Program) (t:TypeId) (x k v:AV):AM AV:=
 match P.underlying t,x with
 |some (.map kt _),.map id=>if J3 P kt k then
   AM.bind (AM.get id) fun o=>match o with
    |.map es=>match Ygq k es 0 with
     |some (some (i,_))=>AM.bind (AM.set id (.map (es.set i (k,v)))) fun _=>AM.pure .undef
     |some none=>AM.bind (AM.set id (.map (es++[(k,v)]))) fun _=>AM.pure .undef
     |none=>AM.fail
    |_=>AM.fail
  else AM.fail
 |_,_=>AM.fail
def evo (ev:Operand→Option AV):Option Operand→Option (Option AV)
 |none=>some none
 |some x=>(ev x).map some
def Yn5 (P:Program) (ts:List TypeId) (x:AV):AM AV:=
 match ts,x with
 |t::_,.sl id off len sz=>AM.bind (AM.lift (Xb P t)) fun e=>AM.bind (AM.lift (Kx P e)) fun s=>AM.bind (AM.lift (Q0 P e)) fun z=>
  if s=sz∧0<s∧z.cells.length=s then
   if len=0 then AM.pure AV.undef else AM.bind (Yaa (.ptr id off) (X6 z.cells (len*s))) fun _=>AM.pure AV.undef
  else AM.fail
 |_,_=>AM.fail
def Q7 (P:Program) (b:Builtin) (vs:List AV) (ts:List TypeId):AM AV:=
 match b with
 |.len=>match vs,ts with
  |[x],t::_=>lenA P t x
  |_,_=>AM.fail
 |.append=>match vs with
  |[x,y]=>Ycd P ts x y
  |_=>AM.fail
 |.copy=>match vs with
  |[x,y]=>Yry P ts x y
  |_=>AM.fail
 |.min=>AM.lift (Yhe P false vs)
 |.max=>AM.lift (Yhe P true vs)
 |.clear=>match vs with
  |[x]=>Yn5 P ts x
  |_=>AM.fail
 |_=>AM.fail
inductive EK where
 |idx|clone
 deriving DecidableEq,Inhabited
def EK.sem:EK→Array Value→Sem Value
 |.idx=>Extern.BytealgIndexByte.indexByte
 |.clone=>Extern.MapsClone.clone
def idxL (c:Nat):List UInt8→Nat→Int
 |[],_=> -1
 |b::l,k=>if Nat.beq b.toNat c then(k:Int) else idxL c l (k+1)
def extA:EK→List AV→AM AV
 |.idx,[.str s,.int .u8 c]=>AM.pure (.int .i64 (idxL (c.toNat.toUInt8).toNat s 0))
 |.clone,[.ifc t (.map id)]=>AM.bind (AM.get id) fun o=>match o with
  |.map es=>AM.bind (AM.new (.map es)) fun id'=>AM.pure (.ifc t (.map id'))
  |_=>AM.fail
 |_,_=>AM.fail
def Yhj (P:Program) (t:TypeId):Bool:=match P.underlying t with
 |some (.interface _)=>true
 |some _=>false
 |none=>true
def ifcA (P:Program) (t:TypeId) (v:AV):Option AV:=if Yhj P t then none else some (.ifc t v)
def Yo8 (P:Program) (t:TypeId) (ok:Bool) (v:AV):Option AV:=match v with
 |.ifc u w=>if Yhj P t then none else if u=t then some (if ok then .tup [w,.bool true] else w) else none
 |_=>none
def Yrh (P:Program) (t:TypeId) (name:String):Option (Nat×Option TypeId):=match P.info? t with
 |none=>none
 |some i=>match i.methods.find? (·.name==name) with
  |none=>none
  |some m=>if m.path.toList.isEmpty then(match m.func,P.underlying t with
   |some (f,true),some (.pointer _)=>some (f,none)
   |some (f,false),some (.pointer e)=>some (f,some e)
   |_,_=>none) else none
def opM (P:Program) (ev:Operand→Option AV):Op→AM AV
 |.move x | .assign x=>AM.lift (ev x)
 |.pick c a b=>match ev c with
  |some (.bool t)=>AM.lift (ev (if t then a else b))
  |_=>AM.fail
 |.alloc t=>AM.bind (AM.lift (Q0 P t)) fun z=>if z.cells.all AV.one∧Kx P t=some z.cells.length then
   AM.bind (AM.new (.cells z.cells)) fun id=>AM.pure (.ptr id 0) else AM.fail
 |.box _ x=>AM.bind (AM.lift (ev x)) fun v=>if v.cells.all AV.one then AM.bind (AM.new (.cells v.cells)) fun id=>AM.pure (.ptr id 0) else AM.fail
 |.build t ps=>AM.bind (AM.lift (J7 ev ps.toList)) fun ps=>AM.lift (Yn6 P t ps)
 |.buildSlice t n ps=>AM.bind (AM.lift (J7 ev ps.toList)) fun ps=>J9 P t n ps
 |.load t a=>AM.bind (AM.lift (ev a)) fun p=>Kq P t p
 |.store t a x=>AM.bind (AM.lift (ev a)) fun p=>AM.bind (AM.lift (ev x)) fun v=>Ykb P t p v
 |.nilCheck x=>match ev x with
  |some v=>(match Yak v with
   |some false=>AM.pure v
   |_=>AM.fail)
  |none=>AM.fail
 |.binOp op t x y _=>AM.bind (AM.lift (ev x)) fun a=>AM.bind (AM.lift (ev y)) fun b=>AM.lift (Yk6 P op t x y a b)
 |.unOp op _ x=>AM.bind (AM.lift (ev x)) fun a=>AM.lift ((Yjn a).bind fun v=>(spr P (Op.unary op v)).bind ofv)
 |.convert s d x=>AM.bind (AM.lift (ev x)) fun a=>K3 P s d a
 |.makeFunc fn first cap=>match fn with
  |.func f=>AM.bind (AM.lift (evs ev first.toList)) fun a=>AM.bind (AM.lift (evs ev cap.toList)) fun b=>AM.pure (.fn f a b)
  |_=>AM.fail
 |.makeSlice t l c=>AM.bind (AM.lift (ev l)) fun l=>AM.bind (AM.lift (ev c)) fun c=>Ya7 P t l c
 |.makeMap t none=>match P.underlying t with
  |some (.map _ _)=>AM.bind (AM.new (.map [])) fun id=>AM.pure (.map id)
  |_=>AM.fail
 |.slice t x lo hi none=>AM.bind (AM.lift (ev x)) fun v=>AM.bind (AM.lift (evo ev lo)) fun l=>AM.bind (AM.lift (evo ev hi)) fun h=>Yfj P t v l h
 |.fieldAddr t x i=>AM.bind (AM.lift (ev x)) fun p=>AM.lift (Ycv P t p i)
 |.field t x i=>AM.bind (AM.lift (ev x)) fun v=>AM.lift (Yn0 P t v i)
 |.indexAddr t x ix=>AM.bind (AM.lift (ev x)) fun v=>AM.bind (AM.lift (ev ix)) fun i=>AM.lift (J5 P t v i)
 |.index t x ix=>AM.bind (AM.lift (ev x)) fun v=>AM.bind (AM.lift (ev ix)) fun i=>AM.lift (Ykv P t v i)
 |.lookup t x k ok=>AM.bind (AM.lift (ev x)) fun v=>AM.bind (AM.lift (ev k)) fun k=>Yhf P t v k ok
 |.mapUpdate t m k x | .insert t m k x=>AM.bind (AM.lift (ev m)) fun m=>AM.bind (AM.lift (ev k)) fun k=>AM.bind (AM.lift (ev x)) fun v=>Ya6 P t m k v
 |.extract t i=>match ev t with
  |some (.tup vs)=>AM.lift vs[i]?
  |_=>AM.fail
 |.makeInterface t x=>AM.bind (AM.lift (ev x)) fun v=>AM.lift (ifcA P t v)
 |.typeAssert x _ t ok=>AM.bind (AM.lift (ev x)) fun v=>AM.lift (Yo8 P t ok v)
 |.call c=>match c.callee with
  |.builtin b=>AM.bind (AM.lift (evs ev c.args.toList)) fun vs=>Q7 P b vs c.argTypes.toList
  |_=>AM.fail
 |_=>AM.fail
noncomputable def eqV:AV→AV→Bool:=AV.rec (motive_1:=fun _=>AV→Bool) (motive_2:=fun _=>List AV→Bool)
 (fun b v=>match v with | .bool c=>b==c|_=>false)
 (fun k n v=>match v with | .int j m=>decide (k=j)&&decide (n=m)|_=>false)
 (fun s v=>match v with | .str t=>decide (s=t)|_=>false)
 (fun k v=>match v with | .nil j=>decide (k=j)|_=>false)
 (fun a b v=>match v with | .ptr c d=>Nat.beq a c&&Nat.beq b d|_=>false)
 (fun _ o ih v=>match v with | .tptr ds p=>ih ds&&Nat.beq o p|_=>false)
 (fun a b c d v=>match v with | .sl a' b' c' d'=>Nat.beq a a'&&Nat.beq b b'&&Nat.beq c c'&&Nat.beq d d'|_=>false)
 (fun _ l ih v=>match v with | .tsl ds m=>ih ds&&Nat.beq l m|_=>false)
 (fun a v=>match v with | .map b=>Nat.beq a b|_=>false)
 (fun f _ _ i1 i2 v=>match v with | .fn g a b=>Nat.beq f g&&i1 a&&i2 b|_=>false)
 (fun _ ih v=>match v with | .agg ds=>ih ds|_=>false)
 (fun _ ih v=>match v with | .tup ds=>ih ds|_=>false)
 (fun t _ ih v=>match v with | .ifc u w=>Nat.beq t u&&ih w|_=>false)
 (fun l=>match l with|[]=>true|_=>false)
 (fun _ _ i1 i2 l=>match l with|b::m=>i1 b&&i2 m|[]=>false)
abbrev Yf1:=Log×Nat×Nat
structure Fr where
 regs:Nat→AV
 boxes:List Nat
structure Ann where
 /- boxes that stay behind the call; functions whose result is frozen; operations whose new object is never written; functions that leave no trace -/
 esc:Nat→Nat→Bool
 fz:Nat→Bool
 ro:Nat→Nat→Bool
 still:Nat→Bool
 /- functions from trees to trees, run by themselves -/
 pure:Nat→Bool
 /- what package-level variables hold -/
 glob:Nat→Option (List AV)
 /- functions without a body -/
 ext:List (Nat×EK):=[]
inductive AX where
 |norm
 |exit (id:Nat)
 |ret
 deriving DecidableEq
def Qb (A:Ann) (regs:Nat→AV):Operand→Option AV
 |.tmp t=>some (regs t)
 |.const v=>ofv v
 |.global g=>(A.glob g).map fun cs=> .tptr cs 0
 |.func f=>some (.fn f [] [])
def Ycs:Op→Bool
 |.alloc _ | .box _ _=>true
 |_=>false
def Yfh (v:AV):AM AV:=
 match v with
 |.sl id off len sz=>AM.bind (AM.get id) fun o=>match o with
  |.cells cs=>AM.bind (AM.lift (Yp cs off (len*sz))) fun cs=>AM.bind (AM.kill id) fun _=>AM.pure (.tsl cs len)
  |_=>AM.fail
 |.ptr id off=>AM.bind (AM.get id) fun o=>match o with
  |.cells cs=>AM.bind (AM.kill id) fun _=>AM.pure (.tptr cs off)
  |_=>AM.fail
 |v=>AM.pure v
def hush {α:Type} (m:AM α):AM α:=fun h n=>
 match m h n with
 |none=>none
 |some (a,h',n',lg)=>some (a,h',n',(lg.1.filter (· < n),lg.2.filter (· < n)))
def Yr9 (m:AM AV):AM AV:=hush (AM.bind m Yfh)
def Yg1 (A:Ann) (f:Nat) (dst:Option Tmp):Bool:=match dst with
 |some d=>A.ro f d
 |none=>false
section
variable (call:Nat→List AV→AM AV) (P:Program) (A:Ann) (f nt:Nat)
def opV (o:Oper) (regs:Nat→AV):AM AV:=
 match o.op with
 |.call {callee:= .value x,args,argTypes:=_}=>match Qb A regs x with
  |some (.fn g first cap)=>AM.bind (AM.lift (evs (Qb A regs) args.toList)) fun vs=>call g (first++vs++cap)
  |_=>AM.fail
 |.call {callee:= .invoke x name,args,argTypes:=_}=>match Qb A regs x with
  |some (.ifc t v)=>match Yrh P t name with
   |some (g,none)=>AM.bind (AM.lift (evs (Qb A regs) args.toList)) fun vs=>call g (v::vs)
   |some (g,some e)=>AM.bind (Kq P e v) fun u=>AM.bind (AM.lift (evs (Qb A regs) args.toList)) fun vs=>call g (u::vs)
   |none=>AM.fail
  |_=>AM.fail
 |op=>if Yg1 A f o.dst then Yr9 (opM P (Qb A regs) op) else opM P (Qb A regs) op
def Yh4 (o:Oper) (v:AV) (fr:Fr):Option Fr:=
 match o.dst with
 |none=>some fr
 |some d=>if d<nt then
   some {regs:=upd fr.regs d v,boxes:=if Ycs o.op && !A.esc f d then(match v with | .ptr id _=>id::fr.boxes|_=>fr.boxes) else fr.boxes}
  else none
def Yy (ops:Array Oper) (o:Oper) (regs:Nat→AV):Option Bool:=
 match o.guard with
 |none=>some true
 |some (j,want)=>match(ops[j]?).bind (·.dst) with
  |some d=>match regs d with
   |.bool b=>some (b==want)
   |.tup []=>some false
   |_=>none
  |none=>none
def Qd (ops:Array Oper) (o:Oper) (fr:Fr):AM Fr:=
 match Yy ops o fr.regs with
 |some true=>AM.bind (opV call P A f o fr.regs) fun v=>AM.lift (Yh4 A f nt o v fr)
 |some false=>AM.lift (match o.dst with
  |none=>some fr
  |some d=>if d<nt then some {fr with regs:=upd fr.regs d .undef} else none)
 |none=>AM.fail
def Ybx (ops:Array Oper):List Oper→Fr→AM Fr
 |[],fr=>AM.pure fr
 |o::r,fr=>AM.bind (Qd call P A f nt ops o fr) fun fr=>Ybx ops r fr
def Xo (ops:Array Oper):List Oper→Fr→Ya→Nat→Option (Fr×Ya×Nat×List Yf1)
 |[],fr,h,n=>some (fr,h,n,[])
 |o::r,fr,h,n=>match Qd call P A f nt ops o fr h n with
  |none=>none
  |some (fr1,h1,n1,lg)=>match Xo ops r fr1 h1 n1 with
   |none=>none
   |some (fr2,h2,n2,lgs)=>some (fr2,h2,n2,(lg,n,n1)::lgs)
def Yl5 (a b:List Nat):Bool:=a.all fun x => !b.contains x
def Js (a b:Yf1):Bool:=
 !(Yl5 a.1.2 b.1.1&&Yl5 a.1.2 b.1.2&&Yl5 b.1.2 a.1.1&&(b.1.1++b.1.2).all fun id => !(decide (a.2.1≤id)&&decide (id<a.2.2)))
def Yr3 (acc:List Nat) (o:Oper):Nat:=o.after.toList.foldl (fun s e=>if Region.binds .any e then s ||| 2^e.on ||| acc.getD e.on 0 else s) 0
def Ymc:List Oper→List Nat→List Nat
 |[],acc=>acc
 |o::r,acc=>Ymc r (acc++[Yr3 acc o])
def Q8 (ops:Array Oper):List (Nat×Nat):=
 let b:=Ymc ops.toList []
 (List.range ops.size).flatMap fun j=>((List.range j).filter fun i => !(b.getD j 0).testBit i).map fun i=>(i,j)
def calm (ops : Array Oper) (lgs : List Yf1) : Bool :=
 (Q8 ops).all fun p => !Js (lgs.getD p.1 (([], []), 0, 0)) (lgs.getD p.2 (([], []), 0, 0))
def withLog {α:Type} (m:AM α):AM (α×Yf1):=fun h n=>
 match m h n with
 |none=>none
 |some (a,h',n',lg)=>some ((a,(lg,n,n')),h',n',lg)
def AM.both {α β γ:Type} (m:AM α) (p:α→AM β) (c:α→β→Option γ):AM γ:=fun h n=>
 match m h n with
 |none=>none
 |some (a,h',n',l)=>match p a h n with
  |none=>none
  |some (b,_,n'',l2)=>if n''=n'∧(l2.1.all fun x=>l.1.contains x||l.2.contains x)=true∧(l2.2.all fun x=>l.2.contains x)=true then match c a b with
   |some x=>some (x,h',n',l)
   |none=>none
   else none
def AM.look (p:Nat×Nat×Nat):AM (Option (List AV)):=AM.bind (AM.get p.1) fun o=>AM.pure (match o with
 |.cells cs=>Yp cs p.2.1 p.2.2
 |_=>none)
abbrev Pl:=Option (Nat×Nat×Nat)
def Yqs (P:Program) (t:TypeId):Option Nat:=match Ymd P t,Kx P t with
 |some true,some n=>some n
 |some false,some _=>some 1
 |_,_=>none
def Yij (ops:Array Oper) (o:Oper) (fr:Fr):Pl:=match o.op,Yg1 A f o.dst,Yy ops o fr.regs with
 |.load t a,false,some true=>match Qb A fr.regs a,Yqs P t with
  |some (.ptr id off),some m=>some (id,off,m)
  |_,_=>none
 |_,_,_=>none
def runD (ops:Array Oper):List Oper→Fr→AM (Fr×List (Yf1×Pl))
 |[],fr=>AM.pure (fr,[])
 |o::r,fr=>AM.bind (withLog (Qd call P A f nt ops o fr)) fun x=>AM.bind (runD ops r x.1) fun y=>AM.pure (y.1,(x.2,Yij P A f ops o fr)::y.2)
def Yi9:List Pl→AM (List (Option (List AV)))
 |[]=>AM.pure []
 |none::r=>AM.bind (Yi9 r) fun vs=>AM.pure (none::vs)
 |some p::r=>AM.bind (AM.look p) fun v=>AM.bind (Yi9 r) fun vs=>AM.pure (v::vs)
abbrev Snap:=List (List (Option (List AV)))
def Ybh (ops:Array Oper) (ps:List Pl):List Oper→Fr→AM Snap
 |[],_=>AM.bind (Yi9 ps) fun v=>AM.pure [v]
 |o::r,fr=>AM.bind (Yi9 ps) fun v=>AM.bind (Qd call P A f nt ops o fr) fun fr'=>AM.bind (Ybh ops ps r fr') fun vs=>AM.pure (v::vs)
def Yp9 (es:List (Yf1×Pl)) (i:Nat):Yf1:=(es.getD i ((([],[]),0,0),none)).1
def needs (ops:Array Oper) (es:List (Yf1×Pl)):List Pl:=(List.range es.length).map fun i=>
 if(Q8 ops).any fun p=>Js (Yp9 es p.1) (Yp9 es p.2)&&(p.1==i||p.2==i) then(es.getD i ((([],[]),0,0),none)).2 else none
noncomputable def Yq3 (sn:Snap) (i j:Nat):Bool:=match(sn.getD j []).getD i none,(sn.getD (j+1) []).getD i none with
 |some x,some y=>eqV (.agg x) (.agg y)
 |_,_=>false
noncomputable def Yr0 (ops : Array Oper) (es : List (Yf1 × Pl)) (sn : Snap) : Bool := (Q8 ops).all fun p => !Js (Yp9 es p.1) (Yp9 es p.2) || Yq3 sn p.1 p.2 || Yq3 sn p.2 p.1
def Xk (lgs:List Yf1):Log:=(lgs.flatMap (·.1.1),lgs.flatMap (·.1.2))
noncomputable def Q9 (ops:Array Oper) (fr:Fr):AM Fr:=fun h n=>
 match Xo call P A f nt ops ops.toList fr h n with
 |none=>none
 |some (fr',h',n',lgs)=>if calm ops lgs then some (fr',h',n',Xk lgs) else
  AM.both (runD call P A f nt ops ops.toList fr) (fun a=>Ybh call P A f nt ops (needs ops a.2) ops.toList fr) (fun a b=>if Yr0 ops a.2 b then some a.1 else none) h n
def Yeg (body:Fr→AM (AX×Fr)):Nat→Fr→AM (AX×Fr)
 |0,_=>AM.fail
 |k+1,fr=>AM.bind (body fr) fun x=>match x.1 with
  |.norm=>Yeg body k x.2
  |e=>AM.pure (e,x.2)
noncomputable def Jr (k:Nat):Code→Fr→AM (AX×Fr)
 |.skip,fr=>AM.pure (.norm,fr)
 |.region _ ops draw,fr=>AM.bind (if draw then Q9 call P A f nt ops fr else Ybx call P A f nt ops ops.toList fr) fun fr=>AM.pure (.norm,fr)
 |.seq a b,fr=>AM.bind (Jr k a fr) fun x=>match x.1 with
  |.norm=>Jr k b x.2
  |e=>AM.pure (e,x.2)
 |.cond c a b,fr=>match Qb A fr.regs c with
  |some (.bool true)=>Jr k a fr
  |some (.bool false)=>Jr k b fr
  |_=>AM.fail
 |.block id b,fr=>AM.bind (Jr k b fr) fun x=>AM.pure (if x.1= .exit id then .norm else x.1,x.2)
 |.loop b,fr=>Yeg (fun fr=>Jr k b fr) k fr
 |.exit id,fr=>AM.pure (.exit id,fr)
 |.ret,fr=>AM.pure (.ret,fr)
 |_,_=>AM.fail
end
def NC (op:Op):Prop:=(∀x a t,op≠ .call {callee:= .value x,args:=a,argTypes:=t})∧∀x m a t,op≠ .call {callee:= .invoke x m,args:=a,argTypes:=t}
def Ybm (fz:AV→AM AV):List AV→AM (List AV)
 |[]=>AM.pure []
 |v::r=>AM.bind (fz v) fun v=>AM.bind (Ybm fz r) fun r=>AM.pure (v::r)
def Xy:Nat→AV→AM AV
 |0,_=>AM.fail
 |k+1,v=>match v with
  |.sl id off len sz=>AM.bind (AM.get id) fun o=>match o with
   |.cells cs=>AM.bind (AM.lift (Yp cs off (len*sz))) fun cs=>AM.bind (AM.kill id) fun _=>
     AM.bind (Ybm (Xy k) cs) fun cs=>AM.pure (.tsl cs len)
   |_=>AM.fail
  |.agg cs=>AM.bind (Ybm (Xy k) cs) fun cs=>AM.pure (.agg cs)
  |.tup cs=>AM.bind (Ybm (Xy k) cs) fun cs=>AM.pure (.tup cs)
  |v=>AM.pure v
def Qr (P:Program) (regs:Nat→AV):List ResultVar→AM (List AV)
 |[]=>AM.pure []
 |.tmp t::r=>AM.bind (Qr P regs r) fun vs=>AM.pure (regs t::vs)
 |.cell a t::r=>AM.bind (Kq P t (regs a)) fun v=>AM.bind (Qr P regs r) fun vs=>AM.pure (v::vs)
def Yx:List AV→AV
 |[v]=>v
 |vs=> .tup vs
def Q2 (n0 n1:Nat) (h:Ya) (l:List Nat):Ya:=fun id=>if n0≤id∧id<n1∧l.contains id=true then none else h id
def Ybn (still:Bool) (n0:Nat) (h0:Ya) (v:AV) (boxes:List Nat) (h1:Ya) (n1:Nat) (lg:Log):AV×Ya×Nat×Log:=
 let r:=lg.1.filter (· < n0);let w:=lg.2.filter (· < n0)
 if still&&v.tree&&w.isEmpty then(v,h0,n1,(r,[]))
 else(v,Q2 n0 n1 h1 boxes,n1,(r,w))
def Qi (args:List AV):Nat→AV:=fun i=>args.getD i .undef
noncomputable def body (call:Nat→List AV→AM AV) (P:Program) (A:Ann) (k f:Nat) (args:List AV):AM (AV×List Nat):=
 match P.funcs[f]? with
 |some fn=>match fn.body with
  |some c=>if fn.name == "runtime.NumGoroutine" || decide (fn.ntmps<args.length) then AM.fail else
   AM.bind (Jr call P A f fn.ntmps k c ⟨Qi args,[]⟩) fun x=>match x.1 with
    |.exit _=>AM.fail
    |_=>AM.bind (Qr P x.2.regs fn.results.toList) fun vs=>
     AM.bind (if A.fz f then Xy 1000 (Yx vs) else AM.pure (Yx vs)) fun v=>AM.pure (v,x.2.boxes)
  |none=>match A.ext.lookup f with
   |some e=>AM.bind (extA e args) fun v=>AM.pure (v,[])
   |none=>AM.fail
 |none=>AM.fail
noncomputable def Ycb (call:Nat→List AV→AM AV) (P:Program) (A:Ann) (k f:Nat) (args:List AV):AM AV:=fun h n=>match body call P A k f args h n with
 |none=>none
 |some ((v,boxes),h1,n1,lg)=>some (Ybn (A.still f) n h v boxes h1 n1 lg)
def Yoa (m:AM AV):AM AV:=fun h n=>match m (fun _=>none) 0 with
 |none=>none
 |some (v,_)=>if v.tree then some (v,h,n,([],[])) else none
noncomputable def Xg (P:Program) (A:Ann):Nat→Nat→List AV→AM AV
 |0,_,_=>AM.fail
 |k+1,f,args=>if A.pure f&&AV.trees args then Yoa (Ycb (Xg P A k) P A k f args) else Ycb (Xg P A k) P A k f args
def Yif (ops:Array Oper):Bool:=
 ((List.range ops.size).all fun i=>match ops[i]? with
  |some o=>o.after.toList.all fun e => !Region.binds .any e||decide (e.on<i)
  |none=>false) &&
 (Q8 ops).all fun p=>match ops[p.1]?,ops[p.2]? with
  |some x,some y=>x.apart ops y
  |_,_=>false
def Yes:Code→Bool
 |.region _ ops draw => !draw||Yif ops
 |.seq a b | .cond _ a b=>Yes a&&Yes b
 |.block _ b | .loop b=>Yes b
 |_=>true
def Yp0 (P:Program):Bool:=P.funcs.toList.all fun fn=>match fn.body with
 |some c=>Yes c
 |none=>true
end Go.Abs
