import Derived.Test.YtibdecjfdpmfoaaGreatAbsEv
import Derived.Laws.Strings
namespace Go.Abs
open List
variable {v:AV} {rg:Nat→AV} {ox oy:Operand} {P:Program} {t:TypeId}
inductive SX where
 |r (t:Nat)
 |c (v:AV)
 deriving Inhabited
inductive MK where
 |int (k:IntKind)
 |str
 |bool
 deriving Inhabited
inductive SK where
 |mv (x:SX)
 |pick (c a b:SX)
 |bin (op:BinOp) (x y:SX)
 |beq (neg:Bool) (x y:SX)
 |isnil (neg:Bool) (k:NilK) (x:SX)
 |un (op:UnOp) (x:SX)
 |fa (x:SX) (o:Nat)
 |ia (x i:SX) (n:Option Nat) (s:Nat)
 |ld (x:SX) (n:Option Nat)
 |fld (x:SX) (o:Nat) (n:Option Nat)
 |ext (x:SX) (i:Nat)
 |len (x:SX) (n:Option Nat)
 |lens (x:SX)
 |cv (k:IntKind) (x:SX)
 |ss (x:SX)
 |chk (x:SX)
 |bld (z:List AV) (ps:List (Nat×Nat×SX))
 |mkf (f:Nat) (a b:List SX)
 |slt (x:SX) (lo hi:Option SX) (s:Nat)
 |sls (x:SX) (lo hi:Option SX)
 |b2s (x:SX)
 |box (x:SX)
 |bsl (z:List AV) (s len:Nat) (ps:List (Nat×Nat×SX))
 |call (x:SX) (args:List SX)
 |mnx (mx:Bool) (l:List SX)
 |raw
 /- Yda the heap -/
 |hbox (esc:Bool) (x:SX)
 |alc (esc:Bool) (z:List AV)
 |st (x v:SX) (n:Nat)
 |app (s by_:Nat) (x y:SX)
 |apps (s by_:Nat) (x y:SX)
 |appT (s by_:Nat) (x y:SX)
 |appsT (s by_:Nat) (x y:SX)
 |appz (s by_:Nat) (z:List AV) (x y:SX)
 |sla (x:SX) (n:Nat) (lo hi:Option SX) (s:Nat)
 |cvs (x:SX)
 |ixs (x i:SX)
 |ixa (x i:SX) (n s:Nat) (g:Option Nat)
 |cpy (s:Nat) (x y:SX)
 |hbs (z:List AV) (s len:Nat) (ps:List (Nat×Nat×SX))
 |mks (ro:Bool) (z:List AV) (s by_:Nat) (n c:SX)
 |s2b (ro:Bool) (x:SX)
 |mkm
 |lku (q:MK) (z:AV) (x k:SX) (ok:Bool)
 |mup (q:MK) (x k v:SX)
 /- structs whose fields are numbers, texts, truths, held equal -/
 |eqs (neg:Bool) (offs:List (Nat×Nat)) (x y:SX)
 /- values of interface types: made, asked for, called -/
 |mif (t:Nat) (x:SX)
 |tas (t:Nat) (ok:Bool) (x:SX)
 |inv (l:List (Nat×Nat×Option (Option Nat))) (x:SX) (args:List SX)
 |clr (s:Nat) (z:List AV) (x:SX)
 deriving Inhabited
structure SO where
 dst:Option Nat
 guard:Option (Nat×Bool)
 k:SK
 deriving Inhabited
inductive SC where
 |skip
 |reg (ps:List (Nat×Nat)) (l:List SO)
 |seq (a b:SC)
 |cond (x:SX) (a b:SC)
 |block (id:Nat) (b:SC)
 |loop (b:SC)
 |exit (id:Nat)
 |ret
 deriving Inhabited
section
variable (P:Program) (A:Ann) (f:Nat)
def slX:Operand→Option SX
 |.tmp t=>some (.r t)
 |.const v=>(ofv v).map .c
 |.global g=>(A.glob g).map fun cs=> .c (.tptr cs 0)
 |.func g=>some (.c (.fn g [] []))
def Yq8:List Operand→Option (List SX)
 |[]=>some []
 |x::l=>match slX A x,Yq8 l with
  |some a,some r=>some (a::r)
  |_,_=>none
def Yc3 (place:Nat→Option (Nat×Nat)):List (Nat×Operand)→Option (List (Nat×Nat×SX))
 |[]=>some []
 |(i,x)::l=>match place i,slX A x,Yc3 place l with
  |some (o,s),some a,some r=>some ((o,s,a)::r)
  |_,_,_=>none
def Yms:Option Operand→Option (Option SX)
 |none=>some none
 |some x=>(slX A x).map some
def Yfp (P:Program) (t:TypeId):Option (Option Nat):=match Ymd P t,Kx P t with
 |some true,some n=>some (some n)
 |some false,some _=>some none
 |_,_=>none
def nilAt (d:TypeDesc) (k:NilK):Bool:=match d,k with
 |.pointer _,.ptr | .slice _,.sl | .map _ _,.map | .func _ _ _,.fn=>true
 |_,_=>false
def tagT (P:Program) (t:TypeId):Option Nat:=match P.underlying t with
 |some (.int _)=>some 0
 |some .string=>some 1
 |some .bool=>some 2
 |_=>none
def tagsF (P:Program):List Field→Option (List (Nat×Nat))
 |[]=>some []
 |f::l=>match tagT P f.type,tagsF P l with
  |some t,some r=>if f.name = "_" then none else some ((f.offset,t)::r)
  |_,_=>none
def flatS (P:Program) (t:TypeId) (fs:Array Field):Option (List (Nat×Nat)):=if P.stoodInHeld t||P.eqGuardType P.depth t then none else tagsF P fs.toList
def flatA (P:Program) (t:TypeId) (n:Nat) (e:TypeId):Option (List (Nat×Nat)):=if P.eqGuardType P.depth t then none else match tagT P e,Kx P e with
 |some g,some 1=>if n≤64 then some ((List.range' 0 n).map fun i=>(i,g)) else none
 |_,_=>none
def invT (P:Program) (name:String):List (Nat×Nat×Option (Option Nat)):=(List.range P.types.size).filterMap fun t=>match Yrh P t name with
 |some (g,none)=>some (t,g,none)
 |some (g,some e)=>(Yfp P e).map fun m=>(t,g,some m)
 |none=>none
def slK (ro:Bool):Op→Option SK
 |.move x | .assign x=>if ro then none else(slX A x).map .mv
 |.pick c a b=>if ro then none else match slX A c,slX A a,slX A b with
  |some c,some a,some b=>some (.pick c a b)
  |_,_,_=>none
 |.binOp op t x y _=>if ro then none else match slX A x,slX A y,P.underlying t with
  |some x,some (.c (.nil k)),some d=>if nilAt d k then(match op with
   |.eql=>some (.isnil false k x)
   |.neq=>some (.isnil true k x)
   |_=>none) else none
  |some x,some y,some .bool=>(match op with
   |.eql=>some (.beq false x y)
   |.neq=>some (.beq true x y)
   |_=>none)
  |some x,some y,some (.struct fs)=>(match op with
   |.eql=>(flatS P t fs).map fun o=> .eqs false o x y
   |.neq=>(flatS P t fs).map fun o=> .eqs true o x y
   |_=>none)
  |some x,some y,some (.array n e)=>(match op with
   |.eql=>(flatA P t n e).map fun o=> .eqs false o x y
   |.neq=>(flatA P t n e).map fun o=> .eqs true o x y
   |_=>none)
  |some x,some y,some _=>some (.bin op x y)
  |_,_,_=>none
 |.unOp op _ x=>if ro then none else(slX A x).map (.un op)
 |.fieldAddr t x i=>if ro then none else match slX A x,P.underlying t with
  |some x,some (.struct fs)=>match fs[i]? with
   |some fd=>match Kx P fd.type with
    |some (_+1)=>some (.fa x fd.offset)
    |_=>none
   |none=>none
  |_,_=>none
 |.indexAddr t x i=>if ro then none else match slX A x,slX A i,P.underlying t with
  |some x,some i,some (.array n e)=>(Kx P e).map (.ia x i (some n))
  |some x,some i,some (.slice e)=>(Kx P e).map (.ia x i none)
  |_,_,_=>none
 |.index t x i=>if ro then none else match slX A x,slX A i,P.underlying t with
  |some x,some i,some .string=>some (.ixs x i)
  |some x,some i,some (.array n e)=>(match Kx P e,Yfp P e with
   |some s,some g=>some (.ixa x i n s g)
   |_,_=>none)
  |_,_,_=>none
 |.load t x=>if ro then none else match slX A x,Yfp P t with
  |some x,some n=>some (.ld x n)
  |_,_=>none
 |.field t x i=>if ro then none else match slX A x,P.underlying t with
  |some x,some (.struct fs)=>match fs[i]? with
   |some fd=>(Yfp P fd.type).map (.fld x fd.offset)
   |none=>none
  |_,_=>none
 |.extract x i=>if ro then none else(slX A x).map fun x=> .ext x i
 |.convert s d x=>if ro then none else match slX A x,P.underlying s,P.underlying d with
  |some x,some (.int _),some (.int k)=>some (.cv k x)
  |some x,some .string,some .string=>some (.ss x)
  |some x,some (.slice e),some .string=>if J4 P e then some (.b2s x) else none
  |_,_,_=>none
 |.makeInterface t x=>if ro then none else if Yhj P t then none else(slX A x).map (.mif t)
 |.typeAssert x _ t ok=>if ro then none else if Yhj P t then none else(slX A x).map (.tas t ok)
 |.nilCheck x=>if ro then none else(slX A x).map .chk
 |.build t ps=>if ro then none else match Q0 P t,P.underlying t with
  |some z,some (.struct fs)=>if fs.all (fun f=>(Kx P f.type).isSome) then(Yc3 A (Ydk P fs) ps.toList).map (.bld z.cells) else none
  |some z,some (.array _ e)=>match Kx P e with
   |some s=>(Yc3 A (fun i=>some (i*s,s)) ps.toList).map (.bld z.cells)
   |none=>none
  |_,_=>none
 |.makeFunc fn first cap=>if ro then none else match fn with
  |.func g=>match Yq8 A first.toList,Yq8 A cap.toList with
   |some a,some b=>some (.mkf g a b)
   |_,_=>none
  |_=>none
 |.slice t x lo hi none=>if ro then none else match slX A x,Yms A lo,Yms A hi,P.underlying t with
  |some x,some lo,some hi,some .string=>some (.sls x lo hi)
  |some x,some lo,some hi,some (.slice e)=>(Kx P e).map (.slt x lo hi)
  |_,_,_,_=>none
 |.box _ x=>if ro then(slX A x).map .box else none
 |.buildSlice t n ps=>if ro then match Xb P t with
   |some e=>match Kx P e,Q0 P e with
    |some s,some z=>if n*s≤2^20∧0<s∧z.cells.length=s∧z.cells.all AV.one then
      (Yc3 A (fun i=>some (i*s,s)) ps.toList).map (.bsl (X6 z.cells (n*s)) s n) else none
    |_,_=>none
   |none=>none
  else none
 |.call c=>match c.callee with
  |.value x=>match slX A x,Yq8 A c.args.toList with
   |some x,some a=>some (.call x a)
   |_,_=>none
  |.invoke x name=>match slX A x,Yq8 A c.args.toList with
   |some x,some a=>some (.inv (invT P name) x a)
   |_,_=>none
  |.builtin .len=>if ro then none else match c.args.toList,c.argTypes.toList with
   |[x],t::_=>match slX A x,P.underlying t with
    |some x,some (.array n _)=>some (.len x (some n))
    |some x,some (.slice _)=>some (.len x none)
    |some x,some .string=>some (.lens x)
    |_,_=>none
   |_,_=>none
  |.builtin .min=>if ro then none else(Yq8 A c.args.toList).map (.mnx false)
  |.builtin .max=>if ro then none else(Yq8 A c.args.toList).map (.mnx true)
  |_=>none
 |_=>none
def mkOf (P:Program) (t:TypeId):Option MK:=match P.underlying t with
 |some (.int k)=>some (.int k)
 |some .string=>some .str
 |some .bool=>some .bool
 |_=>none
def Yfc (t:TypeId):Option (Nat×Nat×List AV):=match Xb P t with
 |some e=>match Kx P e,Ybp P e,Q0 P e with
  |some s,some b,some z=>if 0<s∧z.cells.length=s∧z.cells.all AV.one then some (s,b,z.cells) else none
  |_,_,_=>none
 |none=>none
def slH (dst:Option Tmp) (ro:Bool):Op→Option SK
 |.box _ x=>if ro then none else match dst with
  |some d=>(slX A x).map (.hbox (A.esc f d))
  |none=>none
 |.alloc t=>if ro then none else match dst,Q0 P t with
  |some d,some z=>if z.cells.all AV.one∧Kx P t=some z.cells.length then some (.alc (A.esc f d) z.cells) else none
  |_,_=>none
 |.store t a x=>if ro then none else match slX A a,slX A x,Kx P t with
  |some a,some x,some n=>some (.st a x n)
  |_,_,_=>none
 |.buildSlice t n ps=>if ro then none else match Xb P t with
   |some e=>match Kx P e,Q0 P e with
    |some s,some z=>if n*s≤2^20∧0<s∧z.cells.length=s∧z.cells.all AV.one then
      (Yc3 A (fun i=>some (i*s,s)) ps.toList).map (.hbs (X6 z.cells (n*s)) s n) else none
    |_,_=>none
   |none=>none
 |.makeSlice t l c=>match slX A l,slX A c,Yfc P t with
  |some l,some c,some (s,b,z)=>some (.mks ro z s b l c)
  |_,_,_=>none
 |.convert s d x=>match slX A x,P.underlying s,P.underlying d with
  |some x,some .string,some (.slice e)=>if J4 P e then some (.s2b ro x) else none
  |some x,some (.slice _),some (.slice e)=>if(s==d)=true∧J4 P e=true∧ro=false then some (.cvs x) else none
  |_,_,_=>none
 |.slice t x lo hi none=>if ro then none else match slX A x,Yms A lo,Yms A hi,P.underlying t with
  |some x,some lo,some hi,some (.array n e)=>(Kx P e).map (.sla x n lo hi)
  |_,_,_,_=>none
 |.makeMap t none=>if ro then none else match P.underlying t with
  |some (.map _ _)=>some .mkm
  |_=>none
 |.lookup t x k ok=>if ro then none else match P.underlying t with
  |some (.map kt et)=>match mkOf P kt,Q0 P et,slX A x,slX A k with
   |some q,some z,some x,some k=>some (.lku q z x k ok)
   |_,_,_,_=>none
  |_=>none
 |.mapUpdate t m k x | .insert t m k x=>if ro then none else match P.underlying t with
  |some (.map kt _)=>match mkOf P kt,slX A m,slX A k,slX A x with
   |some q,some m,some k,some x=>some (.mup q m k x)
   |_,_,_,_=>none
  |_=>none
 |.call c=>match c.callee with
  |.builtin .append=>match c.args.toList,c.argTypes.toList with
   |[x,y],[t,u]=>match slX A x,slX A y,Yfc P t,P.underlying u with
    |some x,some y,some (s,b,_),some (.slice _)=>some (if ro then .appT s b x y else .app s b x y)
    |some x,some y,some (s,b,_),some .string=>some (if ro then .appsT s b x y else .apps s b x y)
    |some x,some y,some (s,b,z),some (.int _)=>if ro then none else some (.appz s b z x y)
    |_,_,_,_=>none
   |_,_=>none
  |.builtin .copy=>if ro then none else match c.args.toList,c.argTypes.toList with
   |[x,y],t::_=>match slX A x,slX A y,Yfc P t with
    |some x,some y,some (s,_,_)=>some (.cpy s x y)
    |_,_,_=>none
   |_,_=>none
  |.builtin .clear=>if ro then none else match c.args.toList,c.argTypes.toList with
   |[x],t::_=>match slX A x,Yfc P t with
    |some x,some (s,_,z)=>some (.clr s z x)
    |_,_=>none
   |_,_=>none
  |_=>none
 |_=>none
def Yiz (dst:Option Tmp) (op:Op):SK:=match slK P A (Yg1 A f dst) op with
 |some k=>k
 |none=>(slH P A f dst (Yg1 A f dst) op).getD .raw
def slO (ops:Array Oper) (o:Oper):Option SO:=
 match(match o.guard with
  |none=>some none
  |some (j,w)=>((ops[j]?).bind (·.dst)).map fun e=>some (e,w)) with
 |some g=>some ⟨o.dst,g,Yiz P A f o.dst o.op⟩
 |none=>none
def Yjt (ops:Array Oper):List Oper→Option (List SO)
 |[]=>some []
 |o::l=>match slO P A f ops o,Yjt ops l with
  |some a,some r=>some (a::r)
  |_,_=>none
def slC:Code→Option SC
 |.skip=>some .skip
 |.region _ ops dr=>(Yjt P A f ops ops.toList).map (.reg (if dr then Yi4 A f ops else []))
 |.seq a b=>match slC a,slC b with
  |some a,some b=>some (.seq a b)
  |_,_=>none
 |.cond c a b=>match slX A c,slC a,slC b with
  |some c,some a,some b=>some (.cond c a b)
  |_,_,_=>none
 |.block id b=>(slC b).map (.block id)
 |.loop b=>(slC b).map .loop
 |.exit id=>some (.exit id)
 |.ret=>some .ret
 |_=>none
end
abbrev Env:=List (Nat×AV)
def lk:Env→Nat→Option AV
 |[],_=>none
 |(i,v)::l,t=>if i=t then some v else lk l t
abbrev Lk:=Nat→Option AV
def Sat (E:Lk) (rg:Nat→AV):Prop:=∀t v,E t=some v→rg t=v
theorem Sat.put{E:Env}(h:Sat (lk E) rg)(d:Nat)(v:AV):Sat (lk ((d,v)::E)) (upd rg d v):=by
 intro t u e;simp only[lk]at e;unfold upd;split at e
 ·rename_i hd;simp only[Zs]at e;rw[if_pos hd.symm,e]
 ·rename_i hd;rw[if_neg (fun h=>hd h.symm)];exact h t u e
def ev (E:Lk):SX→Option AV
 |.r t=>E t
 |.c v=>some v
theorem Yg{A:Ann}{E:Lk}(hs:Sat E rg){x:Operand}{y:SX}(hx:slX A x=some y)(he:ev E y=some v):Qb A rg x=some v:=by
 cases x with
 |tmp t=>
  simp only[slX,Zs]at hx;subst hx;simp only[Qb,hs t v he]
 |const c=>
  simp only[slX,Option.map_eq_some_iff]at hx;obtain⟨a,h1,rfl⟩:=hx;simp only[ev,Zs]at he;simp only[Qb,h1,he]
 |global g=>
  simp only[slX,Option.map_eq_some_iff]at hx;obtain⟨a,h1,rfl⟩:=hx;simp only[ev,Zs]at he;simp only[Qb,h1,Option.map_some,he]
 |func g=>
  simp only[slX,Zs]at hx;subst hx;simp only[ev,Zs]at he;simp only[Qb,he]
def Yod (op:BinOp) (x y:AV):Option (Prop×AV):=
 match x,y with
 |.int k a,.int k' b=>match op with
  |.shl=>some (0≤b,.int k (k.wrap (a*2^(min b.toNat k.bits))))
  |.shr=>some (0≤b,.int k (a.fdiv (2^(min b.toNat k.bits))))
  |op=>if k=k' then match op with
   |.add=>some (True,.int k (k.wrap (a+b)))
   |.sub=>some (True,.int k (k.wrap (a-b)))
   |.mul=>some (True,.int k (k.wrap (a*b)))
   |.quo=>some (b≠0,.int k (k.wrap (a.tdiv b)))
   |.rem=>some (b≠0,.int k (a.tmod b))
   |.and=>some (True,.int k (k.wrap ((BitVec.ofInt k.bits a &&& BitVec.ofInt k.bits b).toNat)))
   |.or=>some (True,.int k (k.wrap ((BitVec.ofInt k.bits a ||| BitVec.ofInt k.bits b).toNat)))
   |.xor=>some (True,.int k (k.wrap ((BitVec.ofInt k.bits a ^^^ BitVec.ofInt k.bits b).toNat)))
   |.andNot=>some (True,.int k (k.wrap ((BitVec.ofInt k.bits a &&& ~~~ BitVec.ofInt k.bits b).toNat)))
   |.eql=>some (True,.bool (decide (a=b)))
   |.neq=>some (True,.bool (!decide (a=b)))
   |.lss=>some (True,.bool (decide (a<b)))
   |.leq=>some (True,.bool (decide (a≤b)))
   |.gtr=>some (True,.bool (decide (b<a)))
   |.geq=>some (True,.bool (decide (b≤a)))
   |_=>none
   else none
 |.str a,.str b=>match op with
  |.add=>some (a.length+b.length≤9223372036854775807,.str (a++b))
  |.eql=>some (True,.bool (decide (a=b)))
  |.neq=>some (True,.bool (!decide (a=b)))
  |_=>none
 |_,_=>none
theorem bin_shl{k k':IntKind}{a b:Int}(hb:0≤b):Yk6 P .shl t ox oy (.int k a) (.int k' b)=some (.int k (k.wrap (a*2^(min b.toNat k.bits)))):=by
 have:(do eqGuard .shl t ox oy (.int k a) (.int k' b);binOp .shl t (.int k a) (.int k' b):Sem Value)=Op.shift .shl k a k' b:=rfl;unfold Yk6;simp only[Yjn,Xj,this];unfold Op.shift;rw[if_neg (by omega)];rfl
theorem bin_shr{k k':IntKind}{a b:Int}(hb:0≤b):Yk6 P .shr t ox oy (.int k a) (.int k' b)=some (.int k (a.fdiv (2^(min b.toNat k.bits)))):=by
 have:(do eqGuard .shr t ox oy (.int k a) (.int k' b);binOp .shr t (.int k a) (.int k' b):Sem Value)=Op.shift .shr k a k' b:=rfl;unfold Yk6;simp only[Yjn,Xj,this];unfold Op.shift;rw[if_neg (by omega)];rfl
theorem str_beq(a b:List UInt8):(a==b)=decide (a=b):=by
 by_cases h:a=b
 ·simp[h]
 ·simp[h]
theorem Yr2 {P : Program} {op : BinOp} {t : TypeId} {ox oy : Operand} {x y v : AV} {p : Prop} (h : Yod op x y = some (p, v)) (hp : p) : Yk6 P op t ox oy x y = some v := by
 cases x with
 | int k a =>
  cases y with
  | int k' b =>
   by_cases hk : k = k'
   ·subst hk;cases op <;> simp only [Yod, if_true, Option.some.injEq, Prod.mk.injEq] at h <;> obtain ⟨rfl, rfl⟩ := h <;>
     first
     | exact bin_shl hp
     | exact bin_shr hp
     | skip
    all_goals simp only [Yk6, Yjn, Xj]
    all_goals first
     | rfl
     | (show ((spr P (if k ≠ k then _ else Op.intDiv _ k a b)).bind ofv) = _
        rw [if_neg (by simp)];unfold Op.intDiv;rw [if_neg hp];rfl)
     | (show ((spr P (if k ≠ k then _ else _)).bind ofv) = _
        rw [if_neg (by simp)];rfl)
     | trace_state
   ·cases op <;> simp only [Yod, if_neg hk, Option.some.injEq, Prod.mk.injEq, reduceCtorEq] at h <;> obtain ⟨rfl, rfl⟩ := h
    ·exact bin_shl hp
    ·exact bin_shr hp
  | _ => simp [Yod] at h
 | str a =>
  cases y with
  | str b =>
   cases op <;> simp only [Yod, Option.some.injEq, Prod.mk.injEq, reduceCtorEq] at h <;> obtain ⟨rfl, rfl⟩ := h <;>
     simp only [Yk6, Yjn, Xj]
   ·show ((spr P (Op.stringOp .add ⟨a.toArray⟩ ⟨b.toArray⟩)).bind ofv) = _;unfold Op.stringOp;simp only;rw [if_neg]
    ·show some (AV.str ((⟨a.toArray⟩ : ByteArray) ++ ⟨b.toArray⟩).data.toList) = _;simp
    ·simp only [ByteArray.size, List.size_toArray, IntKind.max, IntKind.signed, IntKind.bits];omega
   ·show ((spr P (Op.stringOp .eql ⟨a.toArray⟩ ⟨b.toArray⟩)).bind ofv) = _;unfold Op.stringOp;simp only [ByteArray.toList_mk, str_beq];rfl
   ·show ((spr P (Op.stringOp .neq ⟨a.toArray⟩ ⟨b.toArray⟩)).bind ofv) = _;unfold Op.stringOp;simp only [ByteArray.toList_mk, str_beq];rfl
  | _ => simp [Yod] at h
 | _ => simp [Yod] at h
def Yps:List AV→Nat→AV→Option (List AV)
 |_::l,0,v=>some (v::l)
 |a::l,i+1,v=>match Yps l i v with
  |some r=>some (a::r)
  |none=>none
 |[],_,_=>none
def putL:List AV→Nat→List AV→Option (List AV)
 |cs,_,[]=>some cs
 |cs,o,v::vs=>match Yps cs o v with
  |some r=>putL r (o+1) vs
  |none=>none
def Ybt (E:Lk):List AV→List (Nat×Nat×SX)→Option (List AV)
 |cs,[]=>some cs
 |cs,(o,s,x)::r=>match ev E x with
  |none=>none
  |some v=>match v with
   |.agg vs=>if vs.length=s∧0<s then(match putL cs o vs with
    |some cs=>Ybt E cs r
    |none=>none) else none
   |v=>if s=1 then(match Yps cs o v with
    |some cs=>Ybt E cs r
    |none=>none) else none
def evS (E:Lk):List SX→Option (List AV)
 |[]=>some []
 |x::l=>match ev E x,evS E l with
  |some a,some r=>some (a::r)
  |_,_=>none
def evI (E:Lk) (d:Int):Option SX→Option Int
 |none=>some d
 |some x=>match ev E x with
  |some (.int _ n)=>some n
  |_=>none
def mnxI (mx:Bool) (k:IntKind):Int→List AV→Option Int
 |m,[]=>some m
 |m,.int k' b::l=>if k=k' then mnxI mx k (if mx then max m b else min m b) l else none
 |_,_::_=>none
def eqC:Nat→AV→AV→Option Bool
 |0,.int k a,.int k' b=>if k=k' then some (a==b) else none
 |1,.str a,.str b=>some (a==b)
 |2,.bool a,.bool b=>some (a==b)
 |_,_,_=>none
def Yas (cs ds:List AV):List (Nat×Nat)→Option Bool
 |[]=>some true
 |(o,t)::r=>match cs[o]?,ds[o]? with
  |some a,some b=>(match eqC t a b with
   |some true=>Yas cs ds r
   |some false=>some false
   |none=>none)
  |_,_=>none
def scal:AV→Bool
 |.int _ _ | .str _ | .bool _=>true
 |_=>false
def sv (E:Lk):SK→Option (Prop×AV)
 |.mif t x=>match ev E x with
  |some v=>some (True,.ifc t v)
  |none=>none
 |.tas t ok x=>match ev E x with
  |some (.ifc u w)=>if u=t then some (True,if ok then .tup [w,.bool true] else w) else none
  |_=>none
 |.eqs neg offs x y=>match ev E x,ev E y with
  |some (.agg cs),some (.agg ds)=>if cs.all scal&&ds.all scal then(match Yas cs ds offs with
   |some b=>some (True,.bool (if neg then !b else b))
   |none=>none) else none
  |_,_=>none
 |.mv x=>match ev E x with
  |some a=>some (True,a)
  |none=>none
 |.pick c a b=>match ev E c with
  |some (.bool true)=>(match ev E a with
   |some v=>some (True,v)
   |none=>none)
  |some (.bool false)=>(match ev E b with
   |some v=>some (True,v)
   |none=>none)
  |_=>none
 |.bin op x y=>match ev E x,ev E y with
  |some a,some b=>Yod op a b
  |_,_=>none
 |.beq neg x y=>match ev E x,ev E y with
  |some (.bool a),some (.bool b)=>some (True,.bool (if neg then !(a==b) else a==b))
  |_,_=>none
 |.isnil neg k x=>match ev E x with
  |some v=>match Yak v,Yox v with
   |some b,some k'=>if k'=k then some (True,.bool (if neg then !b else b)) else none
   |_,_=>none
  |none=>none
 |.un op x=>match op,ev E x with
  |.neg,some (.int k n)=>some (True,.int k (k.wrap (0-n)))
  |.xor,some (.int k n)=>some (True,.int k (k.wrap ((BitVec.ofInt k.bits (if k.signed then -1 else k.max) ^^^ BitVec.ofInt k.bits n).toNat)))
  |.not,some (.bool b)=>some (True,.bool (!b))
  |_,_=>none
 |.fa x o=>match ev E x with
  |some (.tptr cs k)=>some (True,.tptr cs (k+o))
  |some (.ptr id k)=>some (True,.ptr id (k+o))
  |_=>none
 |.ia x i n s=>match ev E x,ev E i,n with
  |some (.tptr cs k),some (.int _ i),some n=>some (0≤i∧i<n,.tptr cs (k+i.toNat*s))
  |some (.ptr id k),some (.int _ i),some n=>some (0≤i∧i<n,.ptr id (k+i.toNat*s))
  |some (.tsl cs len),some (.int _ i),none=>some (0≤i∧i<len,.tptr cs (i.toNat*s))
  |some (.sl id off len sz),some (.int _ i),none=>some (s=sz∧0≤i∧i<len,.ptr id (off+i.toNat*sz))
  |_,_,_=>none
 |.ld x none=>match ev E x with
  |some (.tptr cs o)=>(match cs[o]? with
   |some v=>some (True,v)
   |none=>none)
  |_=>none
 |.ld x (some n)=>match ev E x with
  |some (.tptr cs o)=>(match Yp cs o n with
   |some l=>some (True,.agg l)
   |none=>none)
  |_=>none
 |.fld x o none=>match ev E x with
  |some (.agg cs)=>(match cs[o]? with
   |some v=>some (True,v)
   |none=>none)
  |_=>none
 |.fld x o (some n)=>match ev E x with
  |some (.agg cs)=>(match Yp cs o n with
   |some l=>some (True,.agg l)
   |none=>none)
  |_=>none
 |.ixs x i=>match ev E x,ev E i with
  |some (.str t),some (.int _ i)=>some (0≤i∧i<t.length,.int .u8 (t.getD i.toNat 0).toNat)
  |_,_=>none
 |.ixa x i n s none=>match ev E x,ev E i with
  |some (.agg cs),some (.int _ i)=>some (0≤i∧i<n∧i.toNat*s<cs.length,cs.getD (i.toNat*s) .undef)
  |_,_=>none
 |.ixa x i n s (some m)=>match ev E x,ev E i with
  |some (.agg cs),some (.int _ i)=>some (0≤i∧i<n∧i.toNat*s+m≤cs.length,.agg ((cs.drop (i.toNat*s)).take m))
  |_,_=>none
 |.ext x i=>match ev E x with
  |some (.tup vs)=>(match vs[i]? with
   |some v=>some (True,v)
   |none=>none)
  |_=>none
 |.len x (some n)=>match ev E x with
  |some _=>some (True,.int .i64 n)
  |none=>none
 |.lens x=>match ev E x with
  |some (.str s)=>some (True,.int .i64 s.length)
  |_=>none
 |.len x none=>match ev E x with
  |some (.nil .sl)=>some (True,.int .i64 0)
  |some (.sl _ _ n _)=>some (True,.int .i64 n)
  |some (.tsl _ n)=>some (True,.int .i64 n)
  |_=>none
 |.cv k x=>match ev E x with
  |some (.int _ n)=>some (True,.int k (k.wrap n))
  |_=>none
 |.ss x=>match ev E x with
  |some (.str s)=>some (True,.str s)
  |_=>none
 |.chk x=>match ev E x with
  |some v=>match Yak v with
   |some false=>some (True,v)
   |_=>none
  |none=>none
 |.bld z ps=>match Ybt E z ps with
  |some cs=>some (True,.agg cs)
  |none=>none
 |.mkf f a b=>match evS E a,evS E b with
  |some a,some b=>some (True,.fn f a b)
  |_,_=>none
 |.slt x lo hi s=>match ev E x with
  |some (.nil .sl)=>(match evI E 0 lo,evI E 0 hi with
   |some l,some h=>some (l=0∧h=0,.nil .sl)
   |_,_=>none)
  |some (.tsl cs len)=>(match evI E 0 lo,evI E len hi with
   |some l,some h=>some (0≤l∧l≤h∧h≤len,.tsl ((cs.take (h.toNat*s)).drop (l.toNat*s)) (h.toNat-l.toNat))
   |_,_=>none)
  |some (.sl id off len sz)=>(match evI E 0 lo,evI E len hi with
   |some l,some h=>some (s=sz∧0≤l∧l≤h∧h≤len,.sl id (off+l.toNat*sz) (h.toNat-l.toNat) sz)
   |_,_=>none)
  |_=>none
 |.sls x lo hi=>match ev E x with
  |some (.str t)=>(match evI E 0 lo,evI E t.length hi with
   |some l,some h=>some (0≤l∧l≤h∧h≤t.length,.str ((t.take h.toNat).drop l.toNat))
   |_,_=>none)
  |_=>none
 |.b2s x=>match ev E x with
  |some (.nil .sl)=>some (True,.str [])
  |some (.tsl cs len)=>(match Yp cs 0 len with
   |some l=>(match Yae l with
    |some b=>some (True,.str b)
    |none=>none)
   |none=>none)
  |_=>none
 |.box x=>match ev E x with
  |some v=>match v with
   |.agg cs=>some (cs.all AV.one=true,.tptr cs 0)
   |v=>some (v.one=true,.tptr [v] 0)
  |none=>none
 |.mnx mx l=>match evS E l with
  |some (.int k a::r)=>(match mnxI mx k a r with
   |some m=>some (True,.int k m)
   |none=>none)
  |_=>none
 |.bsl z s len ps=>match Ybt E z ps with
  |some cs=>some (cs.length=len*s∧cs.all AV.one=true,.tsl cs len)
  |none=>none
 |_=>none
theorem Yoj:∀{cs:List AV} {o:Nat} {v:AV} {r:List AV},Yps cs o v=some r→o<cs.length∧r=cs.set o v
 |[],_,_,_,h=>by simp[Yps]at h
 |a::l,0,v,r,h=>by simp only[Yps,Zs]at h;subst h;simp
 |a::l,i+1,v,r,h=>by
  simp only[Yps]at h;split at h
  ·rename_i r' h';simp only[Zs]at h;subst h;obtain⟨h1,rfl⟩:=Yoj h';simp[h1]
  ·cases h
theorem Ya4{cs:List AV}{o:Nat}(h:o<cs.length):Ql cs o [v]=some (cs.set o v):=by
 unfold Ql;simp only[length_singleton];rw[if_pos (by omega)];rw[set_eq_take_append_cons_drop,if_pos h];simp
theorem putL_eq:∀{vs cs:List AV} {o:Nat} {r:List AV},putL cs o vs=some r→(vs=[]∧r=cs)∨Ql cs o vs=some r
 |[],cs,o,r,h=>by simp only[putL,Zs]at h;exact .inl ⟨rfl,h.symm⟩
 |v::vs,cs,o,r,h=>by
  simp only[putL]at h;split at h
  ·rename_i r1 h1;obtain⟨ho,rfl⟩:=Yoj h1;right;rcases putL_eq h with ⟨rfl,rfl⟩|h2
   ·exact Ya4 ho
   ·unfold Ql at h2 ⊢;split at h2
    ·rename_i hl;simp only[length_set]at hl;simp only[length_cons];rw[if_pos (by omega)];simp only[Zs]at h2 ⊢;rw[←h2];have e1:(cs.set o v).take (o+1)=cs.take o++[v]:=by
      rw[set_eq_take_append_cons_drop,if_pos ho,take_append];simp[Nat.min_eq_left (Nat.le_of_lt ho)];exact Zk (by simp;omega)
     have e2:(cs.set o v).drop (o+1+vs.length)=cs.drop (o+(vs.length+1)):=by
      rw[drop_set_of_lt (by omega)]
      congr 1
      omega
     rw[e1,e2];simp
    ·cases h2
  ·cases h
section
variable {P:Program} {A:Ann} {f:Nat} {E:Lk} {rg:Nat→AV} {h:Ya}
theorem J6{place:Nat→Option (Nat×Nat)}(hs:Sat E rg):∀{l:List (Nat×Operand)} {ps:List (Nat×Nat×SX)} {cs r:List AV},Yc3 A place l=some ps→Ybt E cs ps=some r→
  ∃vs,J7 (Qb A rg) l=some vs∧Ygs place cs vs=some r
 |[],ps,cs,r,hp,hf=>by
  simp only[Yc3,Zs]at hp;subst hp;simp only[Ybt,Zs]at hf;subst hf;exact⟨[],rfl,rfl⟩
 |(i,x)::l,ps,cs,r,hp,hf=>by
  simp only[Yc3]at hp;split at hp
  ·rename_i o s a r' h1 h2 h3;simp only[Zs]at hp;subst hp;simp only[Ybt]at hf;split at hf
   ·cases hf
   ·rename_i v hv;have hx:=Yg hs h2 hv;have one:∀w:AV,w=v→(∀vs,w≠ .agg vs)→(if s=1 then(match Yps cs o w with|some cs=>Ybt E cs r'|none=>none) else none)=some r→∃vs,J7 (Qb A rg) ((i,x)::l)=some vs∧Ygs place cs vs=some r:=by
     clear hf;intro w hw hna hg;subst hw;split at hg
     ·rename_i hs1;split at hg
      ·rename_i cs1 hc;obtain⟨ho,rfl⟩:=Yoj hc;obtain⟨vs,e1,e2⟩:=J6 hs h3 hg;have hcells:w.cells=[w]:=by
        cases w<;>first|rfl|exact absurd rfl (hna _)
       refine⟨(i,w)::vs,by simp[J7,hx,e1],?_⟩;simp only[Ygs,h1,hcells,length_singleton,hs1,if_true,Ya4 ho];exact e2
      ·cases hg
     ·cases hg
    cases v with
    |agg vs=>
     simp only at hf;split at hf
     ·rename_i hl;split at hf
      ·rename_i cs1 hc;obtain⟨us,e1,e2⟩:=J6 hs h3 hf;refine⟨(i,.agg vs)::us,by simp[J7,hx,e1],?_⟩;rcases putL_eq hc with ⟨rfl,rfl⟩|hc
       ·have:=hl.2;simp at hl;omega
       ·simp only[Ygs,h1,AV.cells,hl.1,if_true,hc];exact e2
      ·cases hf
     ·cases hf
    |_=>exact one _ rfl (by simp) hf
  ·cases hp
theorem J0(hs:Sat E rg):∀{l:List Operand} {ys:List SX} {vs:List AV},Yq8 A l=some ys→evS E ys=some vs→evs (Qb A rg) l=some vs
 |[],ys,vs,h1,h2=>by
  simp only[Yq8,Zs]at h1;subst h1;simpa[evS,evs]using h2
 |x::l,ys,vs,h1,h2=>by
  simp only[Yq8]at h1;split at h1
  ·rename_i a r ha hr;simp only[Zs]at h1;subst h1;simp only[evS]at h2;split at h2
   ·rename_i v us hv hu;simp only[Zs]at h2;subst h2;simp[evs,Yg hs ha hv,J0 hs hr hu]
   ·cases h2
  ·cases h1
end
end Go.Abs
