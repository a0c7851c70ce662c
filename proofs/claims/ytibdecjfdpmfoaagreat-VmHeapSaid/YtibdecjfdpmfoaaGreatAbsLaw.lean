import Derived.Test.YtibdecjfdpmfoaaGreatAbsCall
import Derived.OpenShut
import Derived.Carry
import Derived.Lib.LaidTab
open Go.RowKit (Below)
namespace Go.Abs
open List hiding Mem cons nil
variable {args:Array Value} {ps:List MemPlace} {M:Mem} {base k:Nat} {α:Type} {v:Value}
open Go.ChangeShapes Go.WideShapes
def TyC (P:Program):Nat→TypeId→List AV→Prop
 |0,_,_=>False
 |k+1,t,cs=>match P.underlying t with
  |some .bool=>∃b,cs=[.bool b]
  |some (.int i)=>∃n,cs=[.int i n]∧(Lit.int i n).wf=true
  |some .string=>∃s:List UInt8,cs=[.str s]∧s.length≤maxLen
  |some (.slice e)=>cs=[.nil .sl]∨∃ls:List (List AV),cs=[.tsl ls.flatten ls.length]∧ls.length≤maxLen∧∀l∈ls,l.length=P.cellsOf e∧TyC P k e l
  |some (.struct fs)=>cs.length=P.cellsOf t∧∀f∈fs.toList,TyC P k f.type ((cs.drop f.offset).take (P.cellsOf f.type))
  |some (.array n e)=>cs.length=P.cellsOf t∧∀i∈List.range n,TyC P k e ((cs.drop (i*P.cellsOf e)).take (P.cellsOf e))
  |_=>False
def TyV (P:Program) (k:Nat) (t:TypeId) (a:AV):Prop:=
 match P.underlying t with
 |some (.struct _)|some (.array _ _)=>∃cs,a= .agg cs∧TyC P k t cs
 |_=>TyC P k t [a]
def TyVs (P:Program) (k:Nat):List TypeId→List AV→Prop
 |[],as=>as=[]
 |t::ts,as=>∃a r,as=a::r∧TyV P k t a∧TyVs P k ts r
def Ydp:Nat→List (Nat×Nat)→Option Nat
 |n,[]=>some n
 |n,x::r=>if x.1=n then Ydp (n+x.2) r else none
def Ybj (P:Program):Nat→TypeId→Bool
 |0,_=>false
 |k+1,t=>match P.underlying t with
  |some .bool|some (.int _)|some .string=>true
  |some (.slice e)=>decide (0<P.cellsOf e)&&Ybj P k e
  |some (.struct fs)=>Ydp 0 (fs.toList.map fun f=>(f.offset,P.cellsOf f.type))==some (P.cellsOf t)&&fs.toList.all fun f=>Ybj P k f.type
  |some (.array n e)=>Ydp 0 ((List.range n).map fun i=>(i*P.cellsOf e,P.cellsOf e))==some (P.cellsOf t)&&Ybj P k e
  |_=>false
theorem Yk2:∀{l:List (Nat×Nat)} {n m:Nat},Ydp n l=some m→n≤m
 |[],n,m,h=>by simp[Ydp]at h;omega
 |x::r,n,m,h=>by
  simp only[Ydp]at h;split at h
  ·have:=Yk2 h;omega
  ·cases h
theorem glue{μ:Mu}{ι:Type}(off sz:ι→Nat)(Q:ι→List AV→Prop){cs:List Value}:∀(l:List ι) (n m:Nat),Ydp n (l.map fun i=>(off i,sz i))=some m→cs.length=m→
  (∀i∈l,∃a,VRs μ M a ((cs.drop (off i)).take (sz i))∧Q i a)→
  ∃avs,VRs μ M avs (cs.drop n)∧∀pre:List AV,pre.length=n→∀i∈l,Q i (((pre++avs).drop (off i)).take (sz i))
 |[],n,m,h,hl,_=>by
  simp only[map_nil,Ydp,Zs]at h;refine⟨[],?_,by simp⟩;rw[drop_eq_nil_of_le (by omega)];exact .nil
 |i::r,n,m,h,hl,hq=>by
  simp only[map_cons,Ydp]at h;split at h
  ·rename_i ho;have hle:=Yk2 h;obtain⟨a,ha,hqa⟩:=hq i (by simp);obtain⟨b,hb,hqb⟩:=glue off sz Q r _ m h hl (fun j hj=>hq j (by simp[hj]));have hal:a.length=sz i:=by
    rw[ha.1];simp;omega
   refine⟨a++b,?_,?_⟩
   ·have:cs.drop n=(cs.drop (off i)).take (sz i)++cs.drop (n+sz i):=by
     rw[ho,←drop_drop,take_append_drop]
    rw[this];exact ha.append hb
   ·intro pre hpre j hj;rcases mem_cons.1 hj with rfl|hj
    ·have:((pre++(a++b)).drop (off j)).take (sz j)=a:=by
      rw[ho,←hpre,drop_left,←hal,take_left]
     rw[this];exact hqa
    ·have:=hqb (pre++a) (by simp;omega) j hj;rwa[append_assoc]at this
  ·cases h
theorem Yjo{Q:Nat→α→Prop}:∀(n:Nat),(∀i,i<n→∃a,Q i a)→∃l:List α,l.length=n∧∀i a,l[i]?=some a→Q i a
 |0,_=>⟨[],rfl,by simp⟩
 |n+1,h=>by
  obtain⟨l,hl,hq⟩:=Yjo n (fun i hi=>h i (by omega));obtain⟨a,ha⟩:=h n (by omega);refine⟨l++[a],by simp[hl],fun i b hb=>?_⟩;rw[getElem?_append]at hb;split at hb
  ·exact hq i b hb
  ·rename_i hi;have:i-l.length=0:=by
    have:=(Zi.1 hb).1;simp at this;omega
   rw[this]at hb;simp at hb;have:i=n:=by omega
   subst this hb;exact ha
theorem Yjj{s:Nat}:∀{ls:List (List α)} {j:Nat} {c:α},(∀l∈ls,l.length=s)→ls.flatten[j]?=some c→∃l,ls[j/s]?=some l∧l[j%s]?=some c
 |[],j,c,_,h=>by simp at h
 |l::r,j,c,hl,h=>by
  have hls:l.length=s:=hl l (by simp);rw[flatten_cons,getElem?_append]at h;split at h
  ·rename_i hj;rw[hls]at hj;refine⟨l,by rw[Nat.div_eq_of_lt hj];rfl,by rw[Nat.mod_eq_of_lt hj];exact h⟩
  ·rename_i hj;obtain⟨l',h1,h2⟩:=Yjj (fun x hx=>hl x (by simp[hx])) h;have hs:0<s:=by
    rcases Nat.eq_zero_or_pos s with h0|h0
    ·have hm:=mem_of_getElem? h1;have:=hl l' (by simp[hm]);have h3:=(Zi.1 h2).1;omega
    ·exact h0
   rw[hls]at hj h1 h2;refine⟨l',?_,?_⟩
   ·have:j/s=(j-s)/s+1:=by
     rw[←Nat.add_div_right _ hs];congr 1;omega
    rw[this];simpa using h1
   ·have:j%s=(j-s)%s:=by
     rw[←Nat.add_mod_right (j-s) s];congr 1;omega
    rw[this];exact h2
theorem add_add(a:Addr)(m n:Nat):(a.add m).add n=a.add (m+n):=by
 unfold Addr.add;by_cases hm:m=0
 ·simp[hm]
 ·by_cases hn:n=0
  ·simp[hn]
  ·simp[hm,hn,Nat.add_assoc]
theorem Yiq{H:Type}{enc:TypeId×Value→H}{P:Program}{w:World}{spare:Nat→Bool}{held:Bool}:∀{ts:List TypeId} {vs:List Value} {ds:List (DataW H)} {ps:List MemPlace},
  DataW.TrodAll enc P w base spare held ts vs ds ps→ds.length=ts.length
 |[],_,_,_,h=>by
  obtain⟨_,rfl,_⟩:=trodAll_nil h;rfl
 |_::_,_,_,_,h=>by
  obtain⟨v,vs1,d,ds1,a,b,rfl,rfl,rfl,h1,h2⟩:=trodAll_cons h;simp[Yiq h2]
def Yh5 (W:World):Mem:=fun b o=>W.cell? ⟨b,o,none⟩
section
variable {H:Type} {enc:TypeId×Value→H} {P:Program} {W:World} {μ:Mu}
theorem Yfd:∀(k:Nat) (t:TypeId) (cs:List Value) (fuel:Nat) (x:DataW H×List MemPlace),Ybj P k t=true→DataW.trod enc P W 0 (fun _=>true) true fuel t cs=some x→
  ∃avs,VRs μ (Yh5 W) avs cs∧TyC P k t avs
 |0,_,_,_,_,h,_=>by simp[Ybj]at h
 |k+1,t,cs,fuel,x,hp,h=>by
  cases ht:P.underlying t with
  |none=>simp[Ybj,ht]at hp
  |some d=>
   cases d with
   |bool=>
    obtain⟨b,rfl,_⟩:=DataW.trod_bool ht h;exact⟨[.bool b],.cons (.bool b) .nil,by simp[TyC,ht]⟩
   |int i=>
    obtain⟨n,rfl,_,hw⟩:=DataW.trod_int ht h;exact⟨[.int i n],.cons (.int i n) .nil,by simp[TyC,ht,hw]⟩
   |string=>
    obtain⟨s,rfl,_,hs⟩:=DataW.trod_string ht h;exact⟨[.str s.data.toList],.cons (.str s) .nil,by simp only[TyC,ht];exact⟨_,rfl,by simpa using hs⟩⟩
   |slice e=>
    simp only[Ybj,ht,Za,decide_eq_true_eq]at hp;rcases DataW.trod_slice ht h with ⟨rfl,_⟩|⟨a,len,cap,elems,rest,n,_,rfl,_,_,hlc,hcap,hel,hat,_,_⟩
    ·exact⟨[.nil .sl],.cons .nilsl .nil,by simp[TyC,ht]⟩
    ·have each:∀i,i<len→∃l:List AV,l.length=P.cellsOf e∧TyC P k e l∧∀o c,l[o]?=some c→∃v,W.cell? (a.add (i*P.cellsOf e+o))=some v∧VR μ (Yh5 W) c v:=by
      intro i hi;have hx:=hat i hi;rw[Zg (by omega)]at hx;obtain⟨csi,hcsi,hd⟩:=Option.bind_eq_some_iff.1 hx;obtain⟨l,hl,hty⟩:=Yfd k e csi n _ hp.2 hd;unfold World.cells? at hcsi;rw[if_pos (Nat.zero_le _)]at hcsi;have hlen:csi.length=P.cellsOf e:=by simpa using Lib.mapM_length hcsi
      refine⟨l,by rw[hl.1,hlen],hty,fun o c hc=>?_⟩;obtain⟨v,hv,hvr⟩:=hl.get hc;have ho:o<P.cellsOf e:=hlen▸(Zi.1 hv).1;obtain⟨b,hb,hf⟩:=Lib.mapM_at hcsi o o (by simp[ho]);rw[hv]at hb;cases hb;refine⟨v,?_,hvr⟩;rwa[add_add]at hf
     obtain⟨ls,hll,hls⟩:=Yjo len each;have hmem:∀l∈ls,l.length=P.cellsOf e∧TyC P k e l:=fun l hl=>by
      obtain⟨i,hi,rfl⟩:=getElem_of_mem hl;obtain⟨h1,h2,_⟩:=hls i _ (Zg hi);exact⟨h1,h2⟩
     have hcell:∀(j:Nat) (c:AV),ls.flatten[j]?=some c→∃v,W.cell? (a.add j)=some v∧VR μ (Yh5 W) c v:=by
      intro j c hc;obtain⟨l,h1,h2⟩:=Yjj (fun l hl=>(hmem l hl).1) hc;obtain⟨_,_,h3⟩:=hls _ _ h1;obtain⟨v,hv,hr⟩:=h3 _ _ h2;refine⟨v,?_,hr⟩;rwa[Nat.mul_comm,Nat.div_add_mod]at hv
     have hspot:∀(j:Nat) (c:AV),ls.flatten[j]?=some c→a.spot=none:=by
      intro j c hc;have h0:∃c:AV,ls.flatten[0]?=some c:=by
       have:=(Zi.1 hc).1;exact⟨ls.flatten[0],Zg (by omega)⟩
      obtain⟨c0,hc0⟩:=h0;obtain⟨v,hv,_⟩:=hcell 0 c0 hc0;unfold World.cell? at hv;split at hv
      ·split at hv
       ·cases hv
       ·rename_i hs;simpa[Addr.add]using hs
      ·cases hv
     have hcell':∀(j:Nat) (c:AV),ls.flatten[j]?=some c→Yh5 W a.block (a.off+j)=some ((W.cell? (a.add j)).getD undef)∧VR μ (Yh5 W) c ((W.cell? (a.add j)).getD undef):=by
      intro j c hc;obtain⟨v,hv,hr⟩:=hcell j c hc;rw[hv];refine⟨?_,hr⟩;have ha:a.add j=⟨a.block,a.off+j,none⟩:=by
       have hs:=hspot j c hc;unfold Addr.add;by_cases hj:j=0
       ·cases a;simp_all
       ·simp[hj]
      rw[ha]at hv;exact hv
     refine⟨[.tsl ls.flatten len],.cons (.tsl ls.flatten len cap a (fun j=>(W.cell? (a.add j)).getD undef) hlc ?_ (fun i c hc=>(hcell' i c hc).1) (fun i c hc=>(hcell' i c hc).2)) .nil,?_⟩
     ·intro hne;have:∃c,ls.flatten[0]?=some c:=by
       cases hf:ls.flatten with
       |cons c r=>exact⟨c,rfl⟩
       |nil=>
        exfalso;rcases hne with h0|h0
        ·have h1:0<ls.length:=by omega
         have:=(hmem ls[0] (getElem_mem h1)).1;have h2:ls[0]=[]:=by
          rw[flatten_eq_nil_iff]at hf;exact hf _ (getElem_mem h1)
         rw[h2]at this;simp at this;omega
        ·exact h0 hf
      obtain⟨c,hc⟩:=this;exact hspot 0 c hc
     ·simp only[TyC,ht];exact Or.inr ⟨ls,by rw[hll],by omega,hmem⟩
   |struct fs=>
    simp only[Ybj,ht,Za,beq_iff_eq,all_eq_true]at hp;obtain⟨xs,n,_,_,hl,hxl,hf⟩:=DataW.trod_struct ht h;have:=glue (μ:=μ) (M:=Yh5 W) (fun f:Field=>f.offset) (fun f=>P.cellsOf f.type) (fun f a=>TyC P k f.type a) fs.toList 0 _ hp.1 hl (fun f hfm=>by
     obtain⟨i,hi,rfl⟩:=getElem_of_mem hfm;have hi':i<fs.size:=by simpa using hi
     have h1:=hf i _ (Array.getElem?_eq_getElem hi');rw[Zg (by omega)]at h1;exact Yfd k _ _ n _ (hp.2 _ hfm) h1)
    obtain⟨avs,h1,h2⟩:=this;refine⟨avs,by simpa using h1,?_⟩;simp only[TyC,ht];exact⟨by rw[h1.1];simpa using hl,fun f hfm=>by simpa using h2 [] rfl f hfm⟩
   |array n e=>
    simp only[Ybj,ht,Za,beq_iff_eq]at hp;obtain⟨xs,m,_,_,hl,hxl,hf⟩:=DataW.trod_array ht h;have:=glue (μ:=μ) (M:=Yh5 W) (fun i:Nat=>i*P.cellsOf e) (fun _=>P.cellsOf e) (fun _ a=>TyC P k e a) (List.range n) 0 _ hp.1 hl (fun i him=>by
     have hi:i<n:=by simpa using him
     have h1:=hf i hi;rw[Zg (by omega)]at h1;exact Yfd k _ _ m _ hp.2 h1)
    obtain⟨avs,h1,h2⟩:=this;refine⟨avs,by simpa using h1,?_⟩;simp only[TyC,ht];exact⟨by rw[h1.1];simpa using hl,fun i him=>by simpa using h2 [] rfl i him⟩
   |_=>simp[Ybj,ht]at hp
theorem Yo7{k base:Nat}{t:TypeId}{v:Value}{d:DataW H}{ps:List MemPlace}(hp:Ybj P k t=true)(hv:Value.okWide P W .any base t v)(h:DataW.Trod enc P W 0 (fun _=>true) true t v d ps) :
  ∃a,VR μ (Yh5 W) a v∧TyV P k t a:=by
 obtain⟨fuel,h⟩:=h;obtain⟨avs,h1,h2⟩:=Yfd k t _ fuel _ hp h;have one:(∀cs,v≠ .agg cs)→∃a,VR μ (Yh5 W) a v∧TyC P k t [a]:=by
  intro hne;have hc:v.cells = #[v]:=by
   cases v<;>first|rfl|exact absurd rfl (hne _)
  rw[hc]at h1;have hl:avs.length=1:=by simpa using h1.1
  obtain⟨a,rfl⟩:=length_eq_one_iff.1 hl;exact⟨a,h1.2 0 a v rfl rfl,h2⟩
 unfold TyV;unfold Value.okWide at hv;cases ht:P.underlying t with
 |none=>cases k<;>simp[Ybj,ht]at hp
 |some d=>
  rw[ht]at hv;cases d with
  |struct fs=>
   obtain⟨cs,rfl,_,_⟩:=hv;exact⟨.agg avs,by simpa[Value.cells]using VR.agg' h1,avs,rfl,h2⟩
  |array n e=>
   obtain⟨cs,rfl,_,_⟩:=hv;exact⟨.agg avs,by simpa[Value.cells]using VR.agg' h1,avs,rfl,h2⟩
  |bool=>exact one (fun cs e=>by subst e;simp[Cell.okWide,Cell.ok,ht]at hv)
  |int i=>exact one (fun cs e=>by subst e;simp[Cell.okWide,Cell.ok,ht]at hv)
  |string=>exact one (fun cs e=>by subst e;simp[Cell.okWide,Cell.ok,ht]at hv)
  |slice e=>exact one (fun cs e=>by subst e;simp[Cell.okWide,Cell.ok,ht]at hv)
  |_=>cases k<;>simp[Ybj,ht]at hp
theorem Yjp:∀{ts:List TypeId} {vs:List Value} {ds:List (DataW H)} {ps:List MemPlace},(ts.all fun t=>Ybj P k t)=true→
  (∀(j:Nat) t v,ts[j]?=some t→vs[j]?=some v→Value.okWide P W .any base t v)→DataW.TrodAll enc P W 0 (fun _=>true) true ts vs ds ps→
  ∃as,VRs μ (Yh5 W) as vs∧TyVs P k ts as
 |[],vs,ds,ps,_,_,h=>by
  obtain⟨rfl,_,_⟩:=trodAll_nil h;exact⟨[],.nil,rfl⟩
 |t::ts,vs,ds,ps,hp,hv,h=>by
  obtain⟨v,vs1,d,ds1,a,b,rfl,rfl,rfl,h1,h2⟩:=trodAll_cons h;simp only[all_cons,Za]at hp;obtain⟨x,hx,hxt⟩:=Yo7 (μ:=μ) hp.1 (hv 0 t v rfl rfl) h1;obtain⟨r,hr,hrt⟩:=Yjp hp.2 (fun j t v hj hvj=>hv (j+1) t v (by simpa using hj) (by simpa using hvj)) h2;exact⟨x::r,.cons hx hr,x,r,rfl,hxt,hrt⟩
theorem Yof{a:AV}(h:Xj a=some v):VR μ M a v:=by
 cases a<;>simp[Xj]at h
 ·subst h;exact .bool _
 ·subst h;exact .int _ _
 ·subst h;exact .str ⟨_⟩
def GlobIn (W:World) (A:Ann):Prop:=∀g cs,A.glob g=some cs→∀i a,cs[i]?=some a→∃v,Xj a=some v∧W.cell? ⟨g,i,none⟩=some v
theorem law_calls{A:Ann}{f:Nat}{ts:List TypeId}{ds:List (DataW H)}(hm:P.follows .mixedOrders=true)(hok:Yp0 P=true)
  (hp:(ts.all fun t=>Ybj P k t)=true)(hval:∀(j:Nat) t v,ts[j]?=some t→args.toList[j]?=some v→Value.okWide P W .any base t v)
  (hT:DataW.TrodAll enc P W 0 (fun _=>true) true ts args.toList ds ps)(hg:GlobIn W A)
  (run:∀as,TyVs P k ts as→∃n h' n' lg,Xg P A n f as (fun _=>none) 0=some (.bool true,h',n',lg))(hx:ExtOK P A)(hbody:((P.funcs[f]?).bind (·.body)).isSome=true) :
  Calls P f args W fun e W'=>e= .returned (.bool true)∧Below W.heap.size W W':=by
 obtain⟨as,h1,h2⟩:=Yjp (μ:=fun _=>none) hp hval hT;obtain⟨n,h',n',lg,hrun⟩:=run as h2;have sim:=callN_sim (A:=A) hm hok hx n W.heap.size ⟨W,fun _=>False,W⟩ f as (fun _=>none) 0 (.bool true) h' n' lg (fun _=>none) (Yh5 W) W args (Zl _)
  (fun _ _=>rfl) hrun
  ⟨Below.refl _ _,fun b o v hv=>hv,by simp,by simp,by simp,by simp,by simp,by simp,by simp,fun b hb c t lo hi e0=>by
   have:=(Array.getElem?_eq_some_iff.1 e0).1;exact absurd (show b<W.heap.size from this) (by omega),by simp⟩ ?_ (fun _ _ _=>rfl) h1
 ·rcases sim with ⟨_,sim⟩|⟨cv,w',hr,_⟩
  ·refine sim.mono ?_;rintro e W' ⟨cv,μ',M',rfl,sr,_,_,_,hv⟩;cases hv;exact⟨rfl,sr.below⟩
  ·exfalso;cases hfn:P.funcs[f]? with
   |none=>rw[hfn]at hbody;cases hbody
   |some fn=>
    rw[hfn]at hbody;cases hbd:fn.body with
    |none=>simp[hbd]at hbody
    |some c=>
     by_cases hname:fn.name = "runtime.NumGoroutine"
     ·simp[callFunc,hfn,hname]at hr
     ·simp[callFunc,hfn,hname,hbd]at hr
 ·intro g cs hgc μ;refine .tptr cs 0 g 0 (fun i=>(W.cell? ⟨g,i,none⟩).getD undef) ?_ ?_
  ·intro i a ha;obtain⟨v,_,hc⟩:=hg g cs hgc i a ha;simp[Yh5,hc]
  ·intro i a ha;obtain⟨v,hv,hc⟩:=hg g cs hgc i a ha;simp only[hc,Option.getD_some];exact Yof hv
theorem law_post{fn:Func}{s:ChangeSpec}{apart fresh handsOn again:Bool}{W':World}{ds gs:List (DataW H)}{before:List MemPlace}{tb:TypeId}
  (hl:laidOutB P=true)(hrec:(fn.params.toList.all fun t=>P.readableRec t&&decide (t<P.types.size))=true)(hvars:s.vars=[])(hrt:fn.resultTypes = #[tb])(htb:P.underlying tb=some .bool)
  (hspec:∀ds:List (DataW H),ds.length=fn.params.size→s.fn H ds={results:=[.lit (.bool true)],args:=ds})
  (hW:DataW.Whole enc P fn.params.toList s.vars apart W args.toList ds gs before)(hb:Below W.heap.size W W') :
  s.post enc P fn apart fresh handsOn again W args (.bool true) W':=by
 have hlt:∀p∈before,p.block<W.heap.size:=fun p hp=>hW.lt p hp;have hW0:=hW;obtain⟨pa,pv,hA,hV,hps,hz,hn⟩:=hW;rw[hvars]at hV;have hV':gs=[]∧pv=[]:=by
  cases gs with
  |nil=>exact⟨rfl,hV⟩
  |cons _ _=>exact hV.elim
 obtain⟨rfl,rfl⟩:=hV';simp only[append_nil]at hps;subst hps;have hlen:ds.length=fn.params.size:=by simpa using Yiq hA
 have hs:=hspec ds hlen;have hargs:∀sp:Nat→Bool,(∀p∈before,sp p.block=true)→DataW.TrodAll enc P W' 0 sp true fn.params.toList args.toList ds before:=by
  intro sp hsp;have gen:∀{ts:List TypeId} {vs:List Value} {ds:List (DataW H)} {ps:List MemPlace},(ts.all fun t=>P.readableRec t&&decide (t<P.types.size))=true→
    (∀p∈ps,p.block<W.heap.size∧sp p.block=true)→DataW.TrodAll enc P W 0 (fun _=>true) true ts vs ds ps→DataW.TrodAll enc P W' 0 sp true ts vs ds ps:=by
   intro ts
   induction ts with
   |nil=>
    intro vs ds ps _ _ h;obtain⟨rfl,rfl,rfl⟩:=trodAll_nil h;rfl
   |cons t ts ih=>
    intro vs ds ps hr hq h;obtain⟨v,vs1,d,ds1,a,b,rfl,rfl,rfl,h1,h2⟩:=trodAll_cons h;simp only[all_cons,Za,decide_eq_true_eq]at hr;exact⟨a,b,WideElems.Trod_stays hl hr.1.1 hr.1.2 h1 (fun p hp=>hb.same (hq p (by simp[hp])).1) (fun p hp=>(hq p (by simp[hp])).2),
     ih (by simpa using hr.2) (fun p hp=>hq p (by simp[hp])) h2,rfl⟩
  exact gen hrec (fun p hp=>⟨hlt p hp,hsp p hp⟩) hA
 have hres:∀(b:Nat) (sp:Nat→Bool) (hd:Bool),DataW.TrodAll enc P W' b sp hd fn.resultTypes.toList ((Value.bool true).resultList fn.resultTypes.size) [.lit (.bool true)] []:=by
  intro b sp hd;rw[hrt];exact trodAll_cons_mk (Go.RowKit.shut_bool htb _) trodAll_mk0
 have hold:∀p∈before,(fun b=>decide (b<W.heap.size)) p.block=true:=fun p hp=>by simpa using hlt p hp
 refine⟨ds,[],before,[],before,[],hW0,?_,?_,?_,hb.frame _,fun _=>⟨Go.RowKit.ok_one hrt rfl (Go.RowKit.okWide_bool_mk htb _),[.lit (.bool true)]++ds,[],before,?_,?_⟩⟩
 ·rw[append_nil,hs];exact hres _ _ _
 ·rw[append_nil,hs];exact hargs _ hold
 ·rw[append_nil,hs,hvars];rfl
 ·refine⟨before,[],?_,?_,by simp,?_,fun ha=>by simpa using hn ha⟩
  ·have:=trodAll_append (hargs (fun _=>true) (fun _ _=>rfl)) (hres 0 (fun _=>true) true);simpa using this
  ·rw[hvars];rfl
  ·intro b off hp;rw[hb.frozen (p:=⟨b,off,none⟩) (hlt _ hp)];exact hz b off hp
 ·intro p hp _;simpa using hp
end
end Go.Abs
