import Derived.Test.YtibdecjfdpmfoaaGreatImVal12
namespace Go.Vm
open List
open Go.Img
instance (k n:Int):Decidable (Yme k n):=by unfold Yme;infer_instance
abbrev Val:=Bool×Int
structure Hp where
 n:Int
 w:List Int
 st:List Bool
structure Fm where
 k:Int
 pc:Int
 room:Int
 loc:List Val
 stk:List Val
 m:Mth
 init:Int
 need:Int
structure Vm where
 hp:Hp
 stat:List Val
 at':List Int
 inp:List Int
 acts:List Fm
 steps:Int
 out:List Int
 fin:Int
 code:Int
 cls:B
def Hp.new (n:Int):Hp:=⟨min (max n 0) 1048576,[],[]⟩
def Hp.make (h:Hp) (k n:Int):Option (Hp×Int):=
 if Yme k n∧n+2≤h.n-h.w.length then some (⟨h.n,(h.w++[k,n])++List.replicate n.toNat 0,(h.st++[true])++List.replicate (n+1).toNat false⟩,h.w.length) else none
def Hp.has (h:Hp) (a:Int):Bool:=if 0≤a∧a<h.w.length then h.st.getD a.toNat false else false
def Hp.kind (h:Hp) (a:Int):Int:=if h.has a=true then h.w.getD a.toNat 0 else -1
def Hp.len (h:Hp) (a:Int):Int:=if h.has a=true then h.w.getD (a+1).toNat 0 else 0
def Hp.get (h:Hp) (a i:Int):Int:=if 0≤i∧i<h.len a then h.w.getD (a+2+i).toNat 0 else 0
def Hp.put (h:Hp) (a i x:Int):Hp:=if 0≤i∧i<h.len a then{h with w:=h.w.set (a+2+i).toNat x} else h
def Fm.of (k locals stack:Int) (args:List Val) (m:Mth) (init:Int):Fm:=⟨k,0,stack,args++List.replicate (locals.toNat-args.length) (false,0),[],m,init,-1⟩
def Fm.load (f:Fm) (i:Int):Val:=if 0≤i∧i<f.loc.length then f.loc.getD i.toNat (false,0) else(false,0)
def Fm.store (f:Fm) (i:Int) (v:Val):Fm:=if 0≤i∧i<f.loc.length then{f with loc:=f.loc.set i.toNat v} else f
def Fm.fits (f:Fm) (n:Int):Bool:=decide (n≤f.room-f.stk.length)
def Fm.push (f:Fm) (l:List Val):Fm:=if f.fits l.length=true then{f with stk:=f.stk++l} else f
def Fm.top (f:Fm) (n:Nat):List Val:=f.stk.drop (f.stk.length-n)
def Fm.pop (f:Fm) (n:Nat):Fm:={f with stk:=f.stk.take (f.stk.length-n)}
def Jh (l:List Val):List Int:=(l.filter (·.1)).map fun v=>v.2-1
def Fm.refs (f:Fm):List Int:=Jh f.loc++Jh f.stk
def Yg7:List Val→List Int→List Val
 |[],_=>[]
 |(true,_)::vs,a::l=>(true,w32 (a+1))::Yg7 vs l
 |v::vs,[]=>v::vs
 |(false,x)::vs,l=>(false,x)::Yg7 vs l
def Fm.setRefs (f:Fm) (l:List Int):Fm:={f with loc:=Yg7 f.loc (l.take (Jh f.loc).length),stk:=Yg7 f.stk (l.drop (Jh f.loc).length)}
structure Cp where
 to:Hp
 mp:List (Int×Int)
 ord:List Int
def Cp.place (h:Hp) (c:Cp) (a:Int):Cp×Int:=
 if h.has a=false then(c,-1) else match c.mp.lookup a with
  |some t=>(c,t)
  |none=>match c.to.make (h.kind a) (h.len a) with
   |some (u,t)=>(⟨u,c.mp++[(a,t)],c.ord++[a]⟩,t)
   |none=>(⟨c.to,c.mp++[(a,-1)],c.ord++[a]⟩,-1)
def Cp.all (h:Hp):Cp→List Int→Cp×List Int
 |c,[]=>(c,[])
 |c,a::l=>let(c',t):=c.place h a;let(c'',ts):=c'.all h l;(c'',t::ts)
def Cp.word (h:Hp) (rf:Int→Int→Bool) (a:Int) (c:Cp) (k:Int):Cp:=
 let p:=if rf (h.kind a) k=true then(fun(q:Cp×Int)=>(q.1,w32 (q.2+1))) (c.place h (h.get a k-1)) else(c,h.get a k)
 {p.1 with to:=p.1.to.put ((p.1.mp.lookup a).getD 0) k p.2}
def Cp.row (h:Hp) (rf:Int→Int→Bool) (a:Int) (n:Nat) (c:Cp):Cp:=(List.range n).foldl (fun(c:Cp) (k:Nat)=>c.word h rf a k) c
def Cp.run (h:Hp) (rf:Int→Int→Bool):Nat→Nat→Cp→Cp
 |0,_,c=>c
 |n+1,i,c=>if i<c.ord.length then Cp.run h rf n (i+1) (c.row h rf (c.ord.getD i 0) (h.len (c.ord.getD i 0)).toNat) else c
def copy (h:Hp) (rf:Int→Int→Bool) (roots:List Int):Hp×List Int:=
 let p:=Cp.all h ⟨.new h.n,[],[]⟩ roots
 ((Cp.run h rf (h.w.length+1) 0 p.1).to,p.2)
def bv (n:Int):BitVec 32:=BitVec.ofInt 32 n
def two (op a b:Int):Option Int:=
 if op=8 then some (w32 (a+b)) else if op=9 then some (w32 (a-b)) else if op=10 then some (w32 (a*b)) else
 if op=11 then(if b=0 then none else some (w32 (a.tdiv b))) else
 if op=12 then(if b=0 then none else some (a.tmod b)) else
 if op=14 then some (bv a &&& bv b).toInt else if op=15 then some (bv a ||| bv b).toInt else if op=16 then some (bv a ^^^ bv b).toInt else
 if op=17 then some (w32 (a*2^(b%32).toNat)) else if op=18 then some (a.fdiv (2^(b%32).toNat)) else
 if op=19 then some (w32 ((a%4294967296).fdiv (2^(b%32).toNat))) else none
def goes (op a b:Int):Bool:=
 let o:=if 21≤op∧op≤26 then op+6 else op
 let b:=if 21≤op∧op≤26 then 0 else b
 if o=27 then decide (a=b) else if o=28 then !decide (a=b) else if o=29 then decide (a<b) else if o=30 then decide (b≤a) else if o=31 then decide (b<a) else if o=32 then decide (a≤b) else false
section
variable (im:Image)
def Yjd (k i:Int):Bool:=if 0≤k∧k<im.classes.length then Jf (cAt im k) i.toNat else false
def isOf (a b:Int):Bool:=decide (b∈(cAt im a).subs)
def Vm.ends (x:Vm) (e:Int):Vm:={x with fin:=e}
def Vm.top (x:Vm) (f:Fm):Vm:={x with acts:=f::x.acts.tail}
def Vm.roots (x:Vm):List Int:=Jh x.stat++x.acts.reverse.flatMap Fm.refs
def setA:List Fm→List Int→List Fm
 |[],_=>[]
 |f::fs,l=>f.setRefs (l.take f.refs.length)::setA fs (l.drop f.refs.length)
def Vm.collect (x:Vm):Vm:=
 let p:=copy x.hp (Yjd im) x.roots
 {x with hp:=p.1,stat:=Yg7 x.stat (p.2.take (Jh x.stat).length),acts:=(setA x.acts.reverse (p.2.drop (Jh x.stat).length)).reverse}
def Vm.make (x:Vm) (k n:Int):Vm×Option Int:=
 let n:=if(cAt im k).array=0 then((cAt im k).refs.length:Int) else n
 match x.hp.make k n with
 |some (h,a)=>({x with hp:=h},some a)
 |none=>let y:=x.collect im
  match y.hp.make k n with
  |some (h,a)=>({y with hp:=h},some a)
  |none=>(y.ends 4,none)
def refer (a:Int):Val:=(true,w32 (a+1))
def trapOf (f:Fm) (c:Int):Option Kr:=f.m.traps.find? fun t=>decide (t.1≤f.pc)&&decide (f.pc<t.2.1)&&(decide (t.2.2.2<0)||isOf im c t.2.2.2)
def Vm.throw:Nat→Vm→Int→Vm
 |0,x,_=>x
 |n+1,x,a=>match x.acts with
  |[]=>{x with fin:=2,cls:=(cAt im (x.hp.kind a)).name}
  |f::fs=>match trapOf im f (x.hp.kind a) with
   |some t=>
    let f1:Fm:={f with stk:=[],pc:=t.2.2.1,need:= -1};let y:=x.top (f1.push [refer a])
    if f1.fits 1=true then y else y.ends 6
   |none=>
    let y:={x with acts:=fs}
    if f.init<0 then Vm.throw n y a else
     match({y with at':=y.at'.set f.init.toNat 2}).make im (im.given.getD 8 0) 0 with
     |(z,none)=>z
     |(z,some b)=>Vm.throw n z b
def Vm.raise (x:Vm) (i:Nat):Vm:=match x.make im (im.given.getD i 0) 0 with
 |(y,none)=>y
 |(y,some a)=>y.throw im (y.acts.length+1) a
def Vm.lay (x:Vm) (k init:Int) (args:List Val):Vm×Bool:=
 if 64≤x.acts.length then(x.ends 5,false) else
 if ¬HasC' k∨(args.length:Int)≠(mAt im k).args then(x.ends 6,false) else
 ({x with acts:=Fm.of k (mAt im k).locals (mAt im k).stack args (mAt im k) init::x.acts},true)
where HasC' (k:Int):Bool:=decide (0≤k∧k<im.methods.length∧0<(mAt im k).code.length)
def supers:Nat→Int→List Int
 |0,_=>[]
 |n+1,k=>if 0≤k then k::supers n (cAt im k).super else []
def Vm.ask (c:Int) (x:Vm):List Int→Vm×Bool
 |[]=>(x,true)
 |k::l=>match Vm.ask c x l with
  |(y,false)=>(y,false)
  |(y,true)=>
   if y.at'.getD k.toNat 0=2 then(({y with at':=y.at'.set c.toNat 2}).raise im 9,false) else
   if y.at'.getD k.toNat 0=0 then((({y with at':=y.at'.set k.toNat 1}).lay im (cAt im k).init k []).1,false) else(y,true)
def Vm.needs (x:Vm) (c:Int):Vm×Bool:=x.ask im c (supers im (im.classes.length+1) c)
def Vm.guard (x:Vm) (c:Int):Vm×Bool:=if c<0 then(x,true) else x.needs im c
def Vm.swap (x:Vm) (n:Nat) (l:List Val):Vm:=match x.acts with
 |[]=>x
 |f::_=>if f.stk.length<n then x.ends 6 else if(f.pop n).fits l.length=false then(x.top (f.pop n)).ends 6 else x.top {(f.pop n).push l with pc:=f.pc+1}
def Vm.topV (x:Vm) (n:Nat):Option (List Val):=match x.acts with
 |[]=>none
 |f::_=>if f.stk.length<n then none else some (f.top n)
def Vm.peek (x:Vm) (rs:List Bool):Vm×Option (List Val):=match x.topV rs.length with
 |none=>(x.ends 6,none)
 |some l=>if l.map (·.1)=rs then(x,some l) else(x.ends 6,none)
def Vm.any (x:Vm) (n:Nat):Vm×Option (List Val):=match x.topV n with
 |none=>(x.ends 6,none)
 |some l=>(x,some l)
def Vm.some' (x:Vm) (v:Val):Vm×Option Int:=if v.2=0 then(x.raise im 2,none) else(x,some (v.2-1))
def Vm.call (x:Vm) (k:Int) (n:Nat):Vm:=match x.any n with
 |(y,none)=>y
 |(y,some l)=>match y.lay im k (-1) l with
  |(z,false)=>z
  |(z,true)=>match z.acts with
   |a::f::fs=>{z with acts:=a::f.pop n::fs}
   |_=>z
def Vm.receiver (x:Vm) (n:Nat):Vm×Option Int:=match x.any n with
 |(y,none)=>(y,none)
 |(y,some l)=>if(l.getD 0 (false,0)).1=false then(y.ends 6,none) else y.some' im (l.getD 0 (false,0))
def Vm.back (x:Vm) (l:List Val):Vm:=match x.acts with
 |[]=>x
 |f::fs=>let y:={x with acts:=fs}
  match fs with
  |[]=>y.ends 1
  |_=>if f.init<0 then y.swap 0 l else y
def Vm.object (x:Vm) (i:Kr):Vm:=match x.guard im i.2.2.2 with
 |(y,false)=>y
 |(y,true)=>match y.make im i.2.2.1 0 with
  |(z,none)=>z
  |(z,some a)=>z.swap 0 [refer a]
def Vm.move (x:Vm) (i:Kr):Vm:=
 match x.any (if i.1=4∨i.1=5∨i.1=6 then 1 else if i.1=7 then 2 else 0) with
 |(y,none)=>y
 |(y,some l)=>match y.acts with
  |[]=>y
  |f::_=>
   if i.1=1 then y.swap 0 [(false,w32 i.2.1)] else if i.1=2 then y.swap 0 [(true,0)] else
   if i.1=3 then y.swap 0 [f.load i.2.1] else if i.1=4 then(y.top (f.store i.2.1 (l.getD 0 (false,0)))).swap 1 [] else
   if i.1=5 then y.swap 1 [] else if i.1=6 then y.swap 0 [l.getD 0 (false,0)] else
   if i.1=7 then y.swap 2 [l.getD 1 (false,0),l.getD 0 (false,0)] else y
def n0 (l:List Val) (k:Nat):Int:=(l.getD k (false,0)).2
def Vm.one (x:Vm) (i:Kr):Vm:=match x.peek [false]with
 |(y,none)=>y
 |(y,some l)=>y.swap 1 [(false,if i.1=13 then w32 (-n0 l 0) else 0)]
def Vm.two (x:Vm) (i:Kr):Vm:=match x.peek [false,false]with
 |(y,none)=>y
 |(y,some l)=>match _root_.Go.Vm.two i.1 (n0 l 0) (n0 l 1) with
  |none=>y.raise im 4
  |some n=>y.swap 2 [(false,n)]
def Vm.goTo (x:Vm) (pc:Int):Vm:=match x.acts with
 |[]=>x
 |f::_=>x.top {f with pc:=pc}
def Vm.hop (x:Vm) (i:Kr) (n:Nat) (yes:Bool):Vm:=if yes=true then(x.swap n []).goTo i.2.1 else x.swap n []
def Vm.jump (x:Vm) (i:Kr):Vm:=
 if 21≤i.1∧i.1≤26 then match x.peek [false]with
  |(y,none)=>y
  |(y,some l)=>y.hop i 1 (goes i.1 (n0 l 0) 0)
 else if 27≤i.1∧i.1≤32 then match x.peek [false,false]with
  |(y,none)=>y
  |(y,some l)=>y.hop i 2 (goes i.1 (n0 l 0) (n0 l 1))
 else if i.1=33∨i.1=34 then match x.peek [true]with
  |(y,none)=>y
  |(y,some l)=>y.hop i 1 (decide (n0 l 0=0)==decide (i.1=33))
 else if i.1=35∨i.1=36 then match x.peek [true,true]with
  |(y,none)=>y
  |(y,some l)=>y.hop i 2 (decide (n0 l 0=n0 l 1)==decide (i.1=35))
 else x.hop i 0 true
def Vm.field (x:Vm) (i:Kr):Vm:=match x.peek (if i.1=39 then [true,decide (i.2.2.2=1)] else [true]) with
 |(y,none)=>y
 |(y,some l)=>match y.some' im (l.getD 0 (false,0)) with
  |(z,none)=>z
  |(z,some a)=>
   if(cAt im (z.hp.kind a)).array≠0∨z.hp.len a≤i.2.2.1∨Yjd im (z.hp.kind a) i.2.2.1≠decide (i.2.2.2=1) then z.ends 6 else
   if i.1=38 then z.swap 1 [(decide (i.2.2.2=1),z.hp.get a i.2.2.1)] else
   ({z with hp:=z.hp.put a i.2.2.1 (n0 l 1)}).swap 2 []
def Vm.static (x:Vm) (i:Kr):Vm:=match x.guard im i.2.2.2 with
 |(y,false)=>y
 |(y,true)=>if i.1=40 then y.swap 0 [y.stat.getD i.2.2.1.toNat (false,0)] else
  match y.peek [(y.stat.getD i.2.2.1.toNat (false,0)).1]with
  |(z,none)=>z
  |(z,some l)=>({z with stat:=z.stat.set i.2.2.1.toNat ((z.stat.getD i.2.2.1.toNat (false,0)).1,n0 l 0)}).swap 1 []
def Vm.calls (x:Vm) (i:Kr):Vm:=match x.guard im i.2.2.2 with
 |(y,false)=>y
 |(y,true)=>y.call im i.2.2.1 (mAt im i.2.2.1).args.toNat
def Vm.callx (x:Vm) (i:Kr):Vm:=match x.receiver im i.2.2.2.toNat with
 |(y,none)=>y
 |(y,some _)=>y.call im i.2.2.1 i.2.2.2.toNat
def Vm.callv (x:Vm) (i:Kr):Vm:=match x.receiver im i.2.2.2.toNat with
 |(y,none)=>y
 |(y,some a)=>if((cAt im (y.hp.kind a)).slots.length:Int)≤i.2.2.1 then y.ends 6 else y.call im ((cAt im (y.hp.kind a)).slots.getD i.2.2.1.toNat 0) i.2.2.2.toNat
def Vm.calli (x:Vm) (i:Kr):Vm:=match x.receiver im i.2.2.2.toNat with
 |(y,none)=>y
 |(y,some a)=>match(cAt im (y.hp.kind a)).faces.find? fun p=>decide (p.1=i.2.2.1) with
  |some p=>y.call im p.2 i.2.2.2.toNat
  |none=>y.raise im 9
def Vm.ret (x:Vm) (i:Kr):Vm:=match x.acts with
 |[]=>x
 |f::_=>if f.m.gives≠decide (i.1≠46) then x.ends 6 else
  if i.1=46 then x.back [] else match x.peek [decide (i.1=48)]with
  |(y,none)=>y
  |(y,some l)=>y.back l
def Vm.array (x:Vm) (i:Kr):Vm:=match x.peek [false]with
 |(y,none)=>y
 |(y,some l)=>if n0 l 0<0∨1000<n0 l 0 then y.raise im 6 else match y.make im i.2.2.1 (n0 l 0) with
  |(z,none)=>z
  |(z,some a)=>z.swap 1 [refer a]
def Vm.length (x:Vm) (_:Kr):Vm:=match x.peek [true]with
 |(y,none)=>y
 |(y,some l)=>match y.some' im (l.getD 0 (false,0)) with
  |(z,none)=>z
  |(z,some a)=>if(cAt im (z.hp.kind a)).array=0 then z.ends 6 else z.swap 1 [(false,w32 (z.hp.len a))]
def Vm.element (x:Vm) (i:Kr):Vm:=
 let r:=decide (i.1=54∨i.1=55);let s:=decide (i.1=53∨i.1=55)
 match x.peek (if s=true then [true,false,r] else [true,false]) with
 |(y,none)=>y
 |(y,some l)=>match y.some' im (l.getD 0 (false,0)) with
  |(z,none)=>z
  |(z,some a)=>
   if(cAt im (z.hp.kind a)).array≠(if r=true then 2 else 1) then z.ends 6 else
   if n0 l 1<0∨z.hp.len a≤n0 l 1 then z.raise im 3 else
   if s=false then z.swap 2 [(r,z.hp.get a (n0 l 1))] else
   if r=true∧n0 l 2≠0∧isOf im (z.hp.kind (n0 l 2-1)) (cAt im (z.hp.kind a)).elem=false then z.raise im 7 else
   ({z with hp:=z.hp.put a (n0 l 1) (n0 l 2)}).swap 3 []
def Vm.cast (x:Vm) (i:Kr):Vm:=match x.peek [true]with
 |(y,none)=>y
 |(y,some l)=>
  let so:=decide (n0 l 0≠0);let is:=so&&isOf im (y.hp.kind (n0 l 0-1)) i.2.2.1
  if i.1=57 then y.swap 1 [(false,if is=true then 1 else 0)] else if so=true∧is=false then y.raise im 5 else y.swap 0 []
def Vm.throws (x:Vm) (_:Kr):Vm:=match x.peek [true]with
 |(y,none)=>y
 |(y,some l)=>match y.some' im (l.getD 0 (false,0)) with
  |(z,none)=>z
  |(z,some a)=>if(cAt im (z.hp.kind a)).thrown=false then z.ends 6 else z.throw im (z.acts.length+1) a
def Vm.hears (x:Vm) (_:Kr):Vm:=({x with inp:=x.inp.tail}).swap 0 [(false,x.inp.getD 0 (-1))]
def Vm.tells (x:Vm) (_:Kr):Vm:=match x.peek [false]with
 |(y,none)=>y
 |(y,some l)=>({y with out:=y.out++[n0 l 0]}).swap 1 []
def Vm.exit (x:Vm) (_:Kr):Vm:=match x.peek [false]with
 |(y,none)=>y
 |(y,some l)=>{y with code:=n0 l 0,fin:=1}
def Vm.does (x:Vm) (i:Kr):Vm:=
 if i.1≤7 then x.move i else if i.1=13 then x.one i else if i.1≤19 then x.two im i else if i.1≤36 then x.jump i else
 if i.1=37 then x.object im i else if i.1≤39 then x.field im i else if i.1≤41 then x.static im i else if i.1=42 then x.calls im i else
 if i.1=43 then x.callv im i else if i.1=44 then x.callx im i else if i.1=45 then x.calli im i else if i.1≤48 then x.ret i else
 if i.1≤50 then x.array im i else if i.1=51 then x.length im i else if i.1≤55 then x.element im i else if i.1≤57 then x.cast im i else
 if i.1=58 then x.throws im i else if i.1=59 then x.hears i else if i.1=60 then x.tells i else x.exit i
def Vm.step1 (x:Vm):Vm:=match x.acts with
 |[]=>x
 |f::_=>match(if 0≤f.need then x.needs im f.need else(x,true)) with
  |(y,false)=>y
  |(y,true)=>match y.acts with
   |[]=>y
   |f::_=>
    let z:=y.top {f with need:= -1}
    if f.pc<0∨(f.m.code.length:Int)≤f.pc then z.ends 6 else z.does im (f.m.code.getD f.pc.toNat (0,0,0,0))
def Vm.step (x:Vm):Vm:=if x.fin≠0 then x else Vm.step1 im {x with steps:=x.steps+1}
structure Tr where
 out:List Int
 fin:Int
 code:Int
 cls:B
 deriving DecidableEq
def Vm.run:Nat→Vm→Vm×Tr
 |0,x=>(x,⟨x.out,3,0,[]⟩)
 |n+1,x=>let y:=x.step im;if y.fin≠0 then(y,⟨y.out,y.fin,y.code,y.cls⟩) else Vm.run n y
def Vm.live (x:Vm):Int:=(copy x.hp (Yjd im) x.roots).1.w.length
end
end Go.Vm
