import Derived.Test.YtibdecjfdpmfoaaGreatAbsLocalB
namespace Go.Abs
open List hiding map
section
variable {P:Program} {A:Ann} {call:Nat→List AV→AM AV} {f:Nat}
def sliceAt (h:Ya) (p:Nat×Nat×Nat):Option (List AV):=match h p.1 with
 |some (.cells cs)=>Yp cs p.2.1 p.2.2
 |_=>none
theorem Yei{α β:Type}(a:α)(g:α→AM β):AM.bind (AM.lift (some a)) g=g a:=by
 funext h n;simp only[AM.bind,AM.lift,AM.pure];cases g a h n with
 |none=>rfl
 |some x=>obtain⟨b,h',n',lg⟩:=x;simp
theorem loadT_at{t:TypeId}{id off m:Nat}(hc:Yqs P t=some m):∃g:List AV→Option AV,∀h n,Kq P t (.ptr id off) h n=(sliceAt h (id,off,m)).bind fun l=>(g l).map fun v=>(v,h,n,(([id],[]):Log)):=by
 unfold Yqs at hc;have key:∀(agg:Bool) (k:Nat),(if agg then k else 1)=m→∀h n,(AM.bind (Xt (.ptr id off) (if agg then k else 1)) fun cs=>AM.lift (X9 agg cs)) h n=(sliceAt h (id,off,m)).bind fun l=>(X9 agg l).map fun v=>(v,h,n,(([id],[]):Log)):=by
  intro agg k hk h n;rw[hk];unfold sliceAt;simp only[Xt,AM.bind,AM.get];cases h id with
  |none=>rfl
  |some o=>
   cases o with
   |map es=>rfl
   |cells cs=>
    simp only;cases Yp cs off m with
    |none=>rfl
    |some l=>
     simp only[AM.lift,AM.pure,Option.bind_some];cases X9 agg l<;>rfl
 split at hc
 ·rename_i k h1 h2;simp only[Zs]at hc;refine⟨X9 true,fun h n=>?_⟩;unfold Kq;rw[h1,Yei,h2,Yei];exact key true k hc h n
 ·rename_i k h1 h2;simp only[Zs]at hc;refine⟨X9 false,fun h n=>?_⟩;unfold Kq;rw[h1,Yei,h2,Yei];exact key false k hc h n
 ·cases hc
theorem ld_opV{ops:Array Oper}{o:Oper}{fr:Fr}{p:Nat×Nat×Nat}(hp:Yij P A f ops o fr=some p):Yy ops o fr.regs=some true∧∀{h h':Ya} {n n':Nat} {v:AV} {lg:Log},opV call P A f o fr.regs h n=some (v,h',n',lg)→
  h'=h∧n'=n∧lg=([p.1],[])∧∀X N,sliceAt X p=sliceAt h p→opV call P A f o fr.regs X N=some (v,X,N,([p.1],[])):=by
 unfold Yij at hp;split at hp
 ·rename_i t a hop hro hw;split at hp
  ·rename_i id off m hev hc;simp only[Zs]at hp;subst hp;refine⟨hw,?_⟩;obtain⟨g,hg⟩:=loadT_at (id:=id) (off:=off) hc;have hv:opV call P A f o fr.regs=Kq P t (.ptr id off):=by
    unfold opV;rw[hop];simp only[hro,Zf,if_false,opM,hev,Yei]
   intro h h' n n' v lg e;rw[hv,hg]at e;cases hs:sliceAt h (id,off,m) with
   |none=>rw[hs]at e;cases e
   |some l=>
    rw[hs,Option.bind_some]at e;cases hgl:g l with
    |none=>rw[hgl]at e;cases e
    |some w=>
     rw[hgl]at e;simp only[Option.map_some,Zs,Zp]at e;obtain⟨rfl,rfl,rfl,rfl⟩:=e;refine⟨rfl,rfl,rfl,fun X N hx=>?_⟩;rw[hv,hg,hx,Option.bind_some,hgl];rfl
  ·cases hp
 ·cases hp
def Ycg (h:Ya):Pl→Option (List AV)
 |none=>none
 |some p=>sliceAt h p
end
end Go.Abs
