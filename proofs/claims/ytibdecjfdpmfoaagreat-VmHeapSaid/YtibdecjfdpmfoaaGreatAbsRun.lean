import Derived.Test.YtibdecjfdpmfoaaGreatAbsFrame
open Go.RowKit (Below)
namespace Go.Abs
open List hiding Mem cons map nil
variable {v:AV} {a:Act} {K:Act→World→Prop} {A:Ann} {ops:Array Oper} {Q:Exit→Act→World→Prop} {fr':Fr} {lg:Log} {M:Mem} {μ:Mu} {f id n' nt:Nat} {regs:Nat→AV} {p:Nat→Bool} {o:Oper} {P:Program} {α:Type} {t:TypeId} {cv:Value} {w:World} {h':Ya} {x:Option α} {b:α}
def GlobOK (A:Ann) (M:Mem):Prop:=∀g cs,A.glob g=some cs→∀μ,VR μ M (.tptr cs 0) (.pointer (some ⟨g,0,none⟩))
theorem GlobOK.mono{M':Mem}(h:GlobOK A M)(hM:M.le M'):GlobOK A M':=fun g cs e μ=>(h g cs e μ).mono (.refl _) hM
structure RegR (μ:Mu) (M:Mem) (nt:Nat) (regs:Nat→AV) (a:Act):Prop where
 size:a.tmps.size=nt
 defers:a.defers=[]
 val:∀t,VR μ M (regs t) (a.tmps.getD t undef)
theorem RegR.mono{μ':Mu}{M':Mem}(h:RegR μ M nt regs a)(hμ:μ.le μ')(hM:M.le M'):RegR μ' M' nt regs a:=
 ⟨h.size,h.defers,fun t=>(h.val t).mono hμ hM⟩
def putR (dst:Option Tmp) (v:AV) (regs:Nat→AV):Nat→AV:=match dst with|none=>regs|some d=>upd regs d v
def dstOk (nt:Nat):Option Tmp→Bool
 |none=>true
 |some d=>decide (d<nt)
theorem RegR.put(h:RegR μ M nt regs a){dst:Option Tmp}(hd:dstOk nt dst=true)(hv:VR μ M v cv) :
  RegR μ M nt (putR dst v regs) (a.put dst cv):=by
 cases dst with
 |none=>exact h
 |some d=>
  simp only[dstOk,decide_eq_true_eq]at hd;refine⟨by simp[Act.put,h.size],by simp[Act.put,h.defers],fun t=>?_⟩;simp only[Act.put,putR,upd];have hs:=h.size;by_cases e:t=d
  ·subst e;rw[if_pos rfl];have:(a.tmps.setIfInBounds t cv).getD t undef=cv:=by
    simp[Array.getD_eq_getD_getElem?,hs,hd]
   rw[this];exact hv
  ·rw[if_neg e];have:(a.tmps.setIfInBounds d cv).getD t undef=a.tmps.getD t undef:=by
    simp[Array.getD_eq_getD_getElem?,Ne.symm e]
   rw[this];exact h.val t
theorem evR(h:RegR μ M nt regs a)(hg:GlobOK A M):EvR μ M (Qb A regs) a.eval:=by
 intro x v e;cases x with
 |tmp t=>simp only[Qb,Zs]at e;subst e;exact h.val t
 |const c=>exact Ycl e
 |global g=>
  simp only[Qb]at e;obtain⟨cs,hcs,rfl⟩:=Yjy e;exact hg g cs hcs μ
 |func f=>
  simp only[Qb,Zs]at e;subst e;exact .fn f [] [] #[] #[] rfl rfl (by simp) (by simp)
def Ended (B:Nat) (w0:Anchor) (μ:Mu) (M:Mem) (n n':Nat) (h':Ya) (v:AV) (e:Ending) (w':World):Prop:=
 ∃cv μ' M',e= .returned cv∧SR B w0 μ' M' h' w'∧μ.le μ'∧M.le M'∧(∀id,¬(n≤id∧id<n')→μ' id=μ id)∧VR μ' M' v cv
def CallRes (P:Program) (f:Nat) (args:Array Value) (w:World) (R:Ending→World→Prop):Prop:=
 ((callFunc f args).run P w= .ok (.enter f args) w∧Calls P f args w R)∨∃cv w',(callFunc f args).run P w= .ok (.value cv) w'∧R (.returned cv) w'
theorem CallRes.mono{args:Array Value}{R R':Ending→World→Prop}(c:CallRes P f args w R)(h:∀e w',R e w'→R' e w'):CallRes P f args w R':=by
 rcases c with ⟨a,b⟩|⟨cv,w',a,b⟩
 ·exact .inl ⟨a,b.mono h⟩
 ·exact .inr ⟨cv,w',a,h _ _ b⟩
def Yce (P:Program) (A:Ann) (call:Nat→List AV→AM AV):Prop:=
 ∀(B:Nat) (w0:Anchor) (f:Nat) (vs:List AV) (h:Ya) (n:Nat) (v:AV) (h':Ya) (n':Nat) (lg:Log) (μ:Mu) (M:Mem) (w:World) (args:Array Value),
  B≤w0.w.heap.size→Qt h n→call f vs h n=some (v,h',n',lg)→SR B w0 μ M h w→GlobOK A M→(∀id,n≤id→id<n'→μ id=none)→VRs μ M vs args.toList→
  CallRes P f args w (Ended B w0 μ M n n' h' v)
section
variable {P:Program} {A:Ann} {call:Nat→List AV→AM AV} {B:Nat} {w0:Anchor} {w:World} {μ:Mu} {M:Mem} {g ht ht':Ya} {n n' nt:Nat} {lg:Log}
theorem frz1_n{v':AV}{h:Ya}(e:Yfh v h n=some (v',h',n',lg)):n'=n:=by
 have plain:Yfh v=AM.pure v→n'=n:=by
  intro hp;rw[hp]at e;obtain⟨_,_,rfl⟩:=Yh e;rfl
 cases v with
 |sl id off len sz=>
  unfold Yfh at e;simp only at e;obtain⟨o1,_,_,_,_,q1,q2,_⟩:=bind_some e;obtain⟨_,rfl,rfl⟩:=Q6 q1;cases o1 with
  |map es=>exact(Yc q2).elim
  |cells cs=>
   obtain⟨_,_,_,_,_,q3,q4,_⟩:=bind_some q2;obtain⟨_,rfl,rfl⟩:=Ye q3;obtain⟨_,_,_,_,_,q5,q6,_⟩:=bind_some q4;obtain⟨rfl,rfl⟩:=Ycr q5;obtain⟨_,_,rfl⟩:=Yh q6;rfl
 |ptr id off=>
  unfold Yfh at e;simp only at e;obtain⟨o1,_,_,_,_,q1,q2,_⟩:=bind_some e;obtain⟨_,rfl,rfl⟩:=Q6 q1;cases o1 with
  |map es=>exact(Yc q2).elim
  |cells cs=>
   obtain⟨_,_,_,_,_,q5,q6,_⟩:=bind_some q2;obtain⟨rfl,rfl⟩:=Ycr q5;obtain⟨_,_,rfl⟩:=Yh q6;rfl
 |_=>exact plain (by unfold Yfh;rfl)
theorem frz1_sim{v':AV}{h:Ya}(e:Yfh v h n=some (v',h',n',lg))(sr:SR B w0 μ M h w)(hv:VR μ M v cv) :
  n'=n∧∃M',SR B w0 μ M' h' w∧M.le M'∧VR μ M' v' cv:=by
 have plain:Yfh v=AM.pure v→n'=n∧∃M',SR B w0 μ M' h' w∧M.le M'∧VR μ M' v' cv:=by
  intro hp;rw[hp]at e;obtain⟨rfl,rfl,rfl⟩:=Yh e;exact⟨rfl,M,sr,.refl _,hv⟩
 cases v with
 |sl id off len sz=>
  unfold Yfh at e;simp only at e;obtain⟨o,h1,n1,_,_,e1,f1,_⟩:=bind_some e;obtain⟨ho,rfl,rfl⟩:=Q6 e1;cases o with
  |map es=>exact(Yc f1).elim
  |cells cs=>
   obtain⟨cs1,_,_,_,_,e2,f2,_⟩:=bind_some f1;obtain⟨hs,rfl,rfl⟩:=Ye e2;obtain⟨u,_,_,_,_,e3,f3,_⟩:=bind_some f2;obtain⟨rfl,rfl⟩:=Ycr e3;obtain⟨rfl,rfl,rfl⟩:=Yh f3;cases hv with
   |sl _ _ _ _ cap r a hr hlc hcap=>
    obtain⟨r',g1,_,_,g4,_,vs0,g6,g7⟩:=sr.cellsOf ho;rw[hr]at g1;cases g1;obtain⟨s1,s2⟩:=sr.freeze ho hr;have hcs1:=(Ye0 hs g6).mono (.refl _) s2;have hlen:=Jb hs;refine⟨rfl,_,s1,s2,?_⟩;have hpos:∀{i:Nat} {c:AV},cs1[i]?=some c→i<len*sz∧0<cap:=by
     intro i c hc;have:=(Zi.1 hc).1;refine⟨by omega,?_⟩;rcases Nat.eq_zero_or_pos len with h0|h0
     ·subst h0;rw[Nat.zero_mul]at hlen;omega
     ·omega
    refine .tsl cs1 len cap a (fun i=>vs0.getD (off+i) undef) hlc ?_ ?_ ?_
    ·intro hne;have:0<cap:=by
      rcases hne with h0|h0
      ·omega
      ·cases cs1 with
       |nil=>exact absurd rfl h0
       |cons c l=>exact(hpos (i:=0) (c:=c) rfl).2
     obtain⟨rfl,_⟩:=hcap this;rfl
    ·intro i c hc;obtain⟨hi,hc0⟩:=hpos hc;obtain⟨rfl,_⟩:=hcap hc0;have hadd:Ycz M w r cs.length r.b (r.o+off+i)=w.cell? ⟨r.b,r.o+off+i,none⟩:=by
      unfold Ycz;rw[if_pos ⟨rfl,by omega,by omega⟩]
     refine hadd.trans ?_;have hlt:off+i<vs0.length:=by rw[←g6.1];omega
     rw[Zd,Zg hlt];simp only[Option.getD_some];rw[Nat.add_assoc];exact g7 _ _ (Zg hlt)
    ·intro i c hc;obtain⟨hi,_⟩:=hpos hc;have hlt:off+i<vs0.length:=by rw[←g6.1];omega
     refine hcs1.2 i c _ hc ?_;rw[getElem?_take,if_pos hi,getElem?_drop,Zd,Zg hlt];rfl
 |ptr id off=>
  unfold Yfh at e;simp only at e;obtain⟨o,h1,n1,_,_,e1,f1,_⟩:=bind_some e;obtain⟨ho,rfl,rfl⟩:=Q6 e1;cases o with
  |map es=>exact(Yc f1).elim
  |cells cs=>
   obtain⟨u,_,_,_,_,e3,f3,_⟩:=bind_some f1;obtain⟨rfl,rfl⟩:=Ycr e3;obtain⟨rfl,rfl,rfl⟩:=Yh f3;cases hv with
   |ptr _ _ r hr=>
    obtain⟨r',g1,_,_,g4,_,vs0,g6,g7⟩:=sr.cellsOf ho;rw[hr]at g1;cases g1;obtain⟨s1,s2⟩:=sr.freeze ho hr;have hcs1:=g6.mono (.refl μ) s2;refine⟨rfl,_,s1,s2,?_⟩;refine .tptr cs off r.b r.o (fun i=>vs0.getD i undef) ?_ ?_
    ·intro i c hc;have hi:=(Zi.1 hc).1;have hadd:Ycz M w r cs.length r.b (r.o+i)=w.cell? ⟨r.b,r.o+i,none⟩:=by
      unfold Ycz;rw[if_pos ⟨rfl,by omega,by omega⟩]
     refine hadd.trans ?_;have hlt:i<vs0.length:=by rw[←g6.1];omega
     rw[Zd,Zg hlt];simp only[Option.getD_some];exact g7 _ _ (Zg hlt)
    ·intro i c hc;have hi:=(Zi.1 hc).1;have hlt:i<vs0.length:=by rw[←g6.1];omega
     refine hcs1.2 i c _ hc ?_;rw[Zd,Zg hlt];rfl
 |bool b=>exact plain (by unfold Yfh;rfl)
 |int k n=>exact plain (by unfold Yfh;rfl)
 |str s=>exact plain (by unfold Yfh;rfl)
 |nil k=>exact plain (by unfold Yfh;rfl)
 |agg cs=>exact plain (by unfold Yfh;rfl)
 |tup cs=>exact plain (by unfold Yfh;rfl)
 |tptr cs off=>exact plain (by unfold Yfh;rfl)
 |tsl cs len=>exact plain (by unfold Yfh;rfl)
 |map id=>exact plain (by unfold Yfh;rfl)
 |fn f a b=>exact plain (by unfold Yfh;rfl)
 |ifc t a=>exact plain (by unfold Yfh;rfl)
theorem Yf8{i:TypeInfo}(h:P.info? t=some i):(typeInfo t).run P w= .ok i w:=by
 simp[typeInfo,h]
theorem wrapNil{a:Addr}{s1 s2:String}{ts:Array TypeId}:Builtin.ssaWrapNilChk_ ts t #[.pointer (some a),strVal s1,strVal s2]=pure (.pointer (some a)):=rfl
theorem Yp7{name:String}{oe:Option TypeId}{cr:Value}(h:Yrh P t name=some (f,oe))
  (hl:match oe with
   |none=>cr=cv
   |some e=>∃b o,cv= .pointer (some ⟨b,o,none⟩)∧(loadVar e ⟨b,o,none⟩).run P w= .ok cr w):(method (P.types.size+Made.depth) t cv name).run P w= .ok (f,cr) w:=by
 obtain⟨k,hk⟩:∃k,P.types.size+Made.depth=k+1:=⟨P.types.size+Made.depth-1,by unfold Made.depth;omega⟩;rw[hk];unfold Yrh at h;split at h
 ·cases h
 ·rename_i i hi;split at h
  ·cases h
  ·rename_i m hm;split at h
   ·rename_i hp;have hp:m.path = #[]:=by
     apply Array.ext';simpa using hp
    split at h
    ·rename_i f' el hf hu;simp only[Zs,Zp]at h;obtain⟨rfl,rfl⟩:=h;simp only at hl;subst hl;simp[method,Yf8 hi,hm,hp,follow,hf,receiverAt,run_underlying hu,Place.get]
    ·rename_i f' el hf hu;simp only[Zs,Zp]at h;obtain⟨rfl,rfl⟩:=h;obtain⟨b,o,rfl,hrun⟩:=hl;simp[method,Yf8 hi,hm,hp,follow,hf,receiverAt,run_underlying hu,Place.get,wrapNil,asAddr,hrun]
    ·cases h
   ·cases h
theorem Ykt{h:Ya}{n:Nat}{h2:Ya}{n2:Nat}(e:AM.lift x h n=some (b,h2,n2,lg)):lg=([],[]):=by
 cases x with
 |none=>cases e
 |some a=>
  simp only[AM.lift,AM.pure,Zs,Zp]at e;exact e.2.2.2.symm
theorem Yov{p:AV}{h:Ya}{n:Nat}(e:Kq P t p h n=some (v,h',n',lg)):lg.2=[]:=by
 unfold Kq at e;obtain⟨agg,h1,n1,l1,l2,e1,f1,rfl⟩:=bind_some e;obtain⟨m,h2,n2,l3,l4,e2,f2,rfl⟩:=bind_some f1;obtain⟨cs,h3,n3,l5,l6,e3,f3,rfl⟩:=bind_some f2;have a1:=Ykt e1;have a2:=Ykt e2;have a3:=Ykt f3;have a4:l5.2=[]:=by
  cases p with
  |ptr id off=>
   simp only[Xt]at e3;obtain⟨ob,h4,n4,l7,l8,e4,f4,rfl⟩:=bind_some e3;have b1:l7.2=[]:=by
    unfold AM.get at e4;cases hid:h2 id with
    |none=>rw[hid]at e4;cases e4
    |some o=>rw[hid]at e4;simp only[Zs,Zp]at e4;rw[←e4.2.2.2]
   have b2:l8=([],[]):=by
    cases ob with
    |cells cs=>exact Ykt f4
    |map es=>cases f4
   simp[b1,b2]
  |tptr cs off=>rw[Ykt e3]
  |_=>cases e3
 simp[a1,a2,a3,a4]
theorem opV_sim(hc:Yce P A call)(hl:∀f vs,Local (call f vs))(hB:B≤w0.w.heap.size)(hf:Qt ht n){f0:Nat}{r0:Nat→AV}(e:opV call P A f0 o r0 ht n=some (v,ht',n',lg))
  (ha:Yjs g ht n n' lg)(hr:∀t,Operand.tmp t∈o.op.operands→regs t=r0 t)(sr:SR B w0 μ M g w)(hg:GlobOK A M)(hfree:∀id,n≤id→id<n'→μ id=none)(rr:RegR μ M nt regs a)
 
  (hK:∀cv w' μ' M',SR B w0 μ' M' (Yda g ht' n n' lg.2) w'→μ.le μ'→M.le M'→(∀id,¬(n≤id∧id<n')→μ' id=μ id)→VR μ' M' v cv→K (a.put o.dst cv) w'):o.wp P a w K Q:=by
 have hlop:=Ycp P A f0 hl o r0;obtain⟨hfc,ec⟩:=local_cut hlop hf e ha;have hev:∀x∈o.op.operands,Qb A r0 x=Qb A regs x:=by
  intro x hx;cases x with
  |tmp t=>simp only[Qb];rw[hr t (by simpa using hx)]
  |_=>rfl
 have evr:=evR rr hg;have scut:=sr.cut (lg:=lg);obtain⟨m,hm⟩:∃m,m=opV call P A f0 o r0:=⟨_,rfl⟩;rw[←hm]at ec;unfold opV at hm;split at hm
 ·rename_i x args ts hop;subst hm;cases hx:Qb A r0 x with
  |none=>rw[hx]at ec;exact(Yc ec).elim
  |some fv=>
   rw[hx]at ec;cases fv with
   |fn f first cap=>
    simp only at ec;obtain⟨vs,h1,n1,l1,l2,e1,e2,hlg⟩:=bind_some ec;obtain⟨hvs,rfl,rfl⟩:=Ye e1;have hl1:l1=([],[]):=by
     rw[hvs]at e1;simp only[AM.lift,AM.pure,Zs,Zp]at e1;exact e1.2.2.2.symm
    subst hl1;simp only[nil_append]at hlg;subst hlg;have hmx:x∈o.op.operands:=by rw[hop];simp[Op.operands,Call.operands]
    have hfx:=evr x _ (by rw[←hev x hmx];exact hx);have hargs:VRs μ M vs (args.toList.map a.eval):=by
     refine Yhk evr ?_;rw[←hvs];exact(Ycw (fun y hy=>hev y (by rw[hop];simp[Op.operands,Call.operands];right;simpa using hy))).symm
    generalize hfe:a.eval x=fval at hfx;cases hfx with
    |fn _ _ _ fvs cvs q1 q2 q3 q4=>
     have hfv:VRs μ M first fvs.toList:=⟨by simpa using q1,fun i y z hy hz=>q3 i y z hy (by simpa using hz)⟩
     have hcv:VRs μ M cap cvs.toList:=⟨by simpa using q2,fun i y z hy hz=>q4 i y z hy (by simpa using hz)⟩;rcases hc B (w0.with g μ (l2.1,l2.2) w) f (first++vs++cap) _ _ v _ n' _ μ M w (fvs++args.map a.eval++cvs) hB hfc e2 scut hg hfree (by simpa using(hfv.append hargs).append hcv) with ⟨k1,k2⟩|⟨cv,w',k1,k2⟩;rotate_left
     ·unfold Oper.wp;have hrun:(execOp a.eval o).run P w= .ok (.value cv) w':=by
       unfold execOp;rw[hop];simp only[resolve,hfe,Deferred.ofValue,Sem.run_bind,Sem.run_pure,Result.andThen_ok,invoke];exact k1
      rw[hrun,Oper.upon_value];obtain⟨cv,μ',M',h0,s1,s2,s3,s4,s5⟩:=k2;cases h0;exact hK cv w' μ' M' (sr.uncut s1 s2 s3) s2 s3 s4 s5
     unfold Oper.wp;have hrun:(execOp a.eval o).run P w= .ok (.enter f (fvs++args.map a.eval++cvs)) w:=by
      unfold execOp;rw[hop];simp only[resolve,hfe,Deferred.ofValue,Sem.run_bind,Sem.run_pure,Result.andThen_ok,invoke];exact k1
     rw[hrun,Oper.upon_enter];refine k2.mono ?_;rintro e' w' ⟨cv,μ',M',rfl,s1,s2,s3,s4,s5⟩;exact hK cv w' μ' M' (sr.uncut s1 s2 s3) s2 s3 s4 s5
   |_=>exact(Yc ec).elim
 ·rename_i x name args ts hop;subst hm;cases hx:Qb A r0 x with
  |none=>rw[hx]at ec;exact(Yc ec).elim
  |some fv=>
   rw[hx]at ec;cases fv with
   |ifc t v1=>
    simp only at ec;cases hmt:Yrh P t name with
    |none=>rw[hmt]at ec;exact(Yc ec).elim
    |some ge=>
     rw[hmt]at ec;obtain⟨f,oe⟩:=ge;have hmx:x∈o.op.operands:=by rw[hop];simp[Op.operands,Call.operands]
     have hfx:=evr x _ (by rw[←hev x hmx];exact hx);generalize hfe:a.eval x=fval at hfx;cases hfx with
     |ifc _ _ cv hcv=>
      have key:∃rv cr l1 l2,VR μ M rv cr∧AM.bind (AM.lift (evs (Qb A r0) args.toList)) (fun vs=>call f (rv::vs)) (Yer g lg) n=some (v,Yda (Yer g lg) ht' n n' lg.2,n',l2)∧lg=(l1++l2.1,l2.2) ∧
        (method (P.types.size+Made.depth) t cv name).run P w= .ok (f,cr) w:=by
       cases oe with
       |none=>exact⟨v1,cv,[],lg,hcv,ec,by simp,Yp7 hmt rfl⟩
       |some el=>
        simp only at ec;obtain⟨u,h1,n1,l1,l2,e1,e2,hlg⟩:=bind_some ec;have hq:=Yov e1;obtain⟨rfl,rfl,b,ob,cu,hpv,hvr,hrun⟩:=Yja scut hcv e1;exact⟨u,cu,l1.1,l2,hvr,e2,by rw[hlg,hq];rfl,Yp7 hmt ⟨b,ob,hpv,hrun⟩⟩
      obtain⟨rv,cr,l1,l2,hrv,e0,hlg,hmeth⟩:=key;obtain⟨vs,h1,n1,l3,l4,e1,e2,hlg2⟩:=bind_some e0;obtain⟨hvs,rfl,rfl⟩:=Ye e1;have hl3:=Ykt e1;subst hl3;simp only[nil_append]at hlg2;have hl24:l2=l4:=hlg2;subst hl24;have hargs:VRs μ M vs (args.toList.map a.eval):=by
       refine Yhk evr ?_;rw[←hvs];exact(Ycw (fun y hy=>hev y (by rw[hop];simp[Op.operands,Call.operands];right;simpa using hy))).symm
      have hrun0:(execOp a.eval o).run P w=(callFunc f (#[cr]++args.map a.eval)).run P w:=by
       unfold execOp;rw[hop];have hx0:(#[Value.iface t cv]++args.map a.eval)[0]?=some (.iface t cv):=by rw[Array.getElem?_append_left (by simp)];rfl
       have hx1:(#[Value.iface t cv]++args.map a.eval).extract 1 (#[Value.iface t cv]++args.map a.eval).size=args.map a.eval:=by
        apply Array.ext';simp[List.extract];exact Zk (by simp)
       simp only[resolve,hfe,Sem.run_bind,Sem.run_pure,Result.andThen_ok,invoke,hx0,hx1,callMethod,run_program,hmeth]
      unfold Oper.wp;rw[hrun0];rcases hc B (w0.with g μ lg w) f (rv::vs) _ _ v _ n' _ μ M w (#[cr]++args.map a.eval) hB hfc e2 scut hg hfree (by simpa using VRs.cons hrv hargs) with ⟨k1,k2⟩|⟨cv,w',k1,k2⟩;rotate_left
      ·rw[k1,Oper.upon_value];obtain⟨cv,μ',M',h0,s1,s2,s3,s4,s5⟩:=k2;cases h0;exact hK cv w' μ' M' (sr.uncut s1 s2 s3) s2 s3 s4 s5
      have hrun:=k1;rw[hrun,Oper.upon_enter];refine k2.mono ?_;rintro e' w' ⟨cv2,μ',M',rfl,s1,s2,s3,s4,s5⟩;exact hK cv2 w' μ' M' (sr.uncut s1 s2 s3) s2 s3 s4 s5
   |_=>exact(Yc ec).elim
 ·rename_i hno hno2;subst hm;rw[opM_congr o.op hev]at ec;by_cases hro:Yg1 A f0 o.dst=true
  ·rw[if_pos hro]at ec;unfold Yr9 hush at ec;split at ec
   ·cases ec
   ·rename_i v1 h1 n1 lg1 ec1;simp only[Zs,Zp]at ec;obtain⟨rfl,rfl,rfl,_⟩:=ec;obtain⟨v0,h2,n2,l2,l3,e2,e3,_⟩:=bind_some ec1;have hn:n1=n2:=frz1_n e3;subst hn;obtain⟨μ',w',nx,cv,k1,k2,k3,k4,k5,k6⟩:=opM_sim (o:=o) scut hB hfree evr e2;obtain⟨_,M',t1,t2,t3⟩:=frz1_sim e3 k3 k6;unfold Oper.wp;rw[k1];have:=sr.uncut t1 k4 t2;rcases k2 with rfl|⟨rfl,rfl⟩
    ·rw[Oper.upon_value];exact hK cv w' μ' M' this k4 t2 k5 t3
    ·rw[Oper.upon_skip];exact hK undef w' μ' M' this k4 t2 k5 t3
  ·rw[if_neg hro]at ec;obtain⟨μ',w',nx,cv,k1,k2,k3,k4,k5,k6⟩:=opM_sim (o:=o) scut hB hfree evr ec;unfold Oper.wp;rw[k1];have:=sr.uncut k3 k4 (.refl _);rcases k2 with rfl|⟨rfl,rfl⟩
   ·rw[Oper.upon_value];exact hK cv w' μ' M this k4 (.refl _) k5 k6
   ·rw[Oper.upon_skip];exact hK undef w' μ' M this k4 (.refl _) k5 k6
theorem Yka{b:Bool}(rr:RegR μ M nt regs a)(e:Yy ops o regs=some b):Region.wanted o (yielded ops a.tmps)=b:=by
 unfold Yy at e;unfold Region.wanted;cases hg:o.guard with
 |none=>rw[hg]at e;simp only[Zs]at e;subst e;rfl
 |some jw=>
  obtain⟨j,want⟩:=jw;rw[hg]at e;simp only at e ⊢;cases hd:(ops[j]?).bind (·.dst) with
  |none=>rw[hd]at e;cases e
  |some d=>
   rw[hd]at e;simp only at e;cases hr:regs d with
   |bool c=>
    rw[hr]at e;simp only[Zs]at e;subst e;have hv:=rr.val d;rw[hr]at hv;have hv':a.tmps.getD d undef= .bool c:=by
     generalize a.tmps.getD d undef=y at hv;cases hv;rfl
    have hy:yielded ops a.tmps j=some c:=by
     unfold yielded;rw[hd];simp only[Option.bind_some];cases ht:a.tmps[d]? with
     |none=>rw[Array.getD_eq_getD_getElem?,ht]at hv';simp[undef]at hv'
     |some u=>rw[Array.getD_eq_getD_getElem?,ht]at hv';simp at hv';subst hv';rfl
    rw[hy];simp
   |tup l=>
    cases l with
    |cons x l=>rw[hr]at e;cases e
    |nil=>
     rw[hr]at e;simp only[Zs]at e;subst e;have hv:=rr.val d;rw[hr]at hv;have hy:yielded ops a.tmps j=none:=by
      unfold yielded;rw[hd];simp only[Option.bind_some];cases ht:a.tmps[d]? with
      |none=>rfl
      |some u=>
       rw[Array.getD_eq_getD_getElem?,ht]at hv;simp only[Option.getD_some]at hv;cases hv;rfl
     rw[hy];rfl
   |_=>rw[hr]at e;cases e
structure OpDone (call:Nat→List AV→AM AV) (P:Program) (A:Ann) (f nt:Nat) (ops:Array Oper) (o:Oper) (fr:Fr) (ht:Ya) (n:Nat) (fr':Fr) (ht':Ya) (n':Nat) (lg:Log) (v:AV):Prop where
 step:Qd call P A f nt ops o fr ht n=some (fr',ht',n',lg)
 regs:fr'.regs=putR o.dst v fr.regs
 dst:dstOk nt o.dst=true
 kind:(Yy ops o fr.regs=some true∧opV call P A f o fr.regs ht n=some (v,ht',n',lg))∨(Yy ops o fr.regs=some false∧v= .undef∧ht'=ht∧n'=n∧lg=([],[]))
theorem Yp8{h:Ya}{n:Nat}{h2:Ya}{n2:Nat}(e:AM.lift x h n=some (b,h2,n2,lg)):lg=([],[]):=by
 cases x with
 |none=>cases e
 |some a=>
  simp only[AM.lift,AM.pure,Zs,Zp]at e;exact e.2.2.2.symm
theorem Ykc{fr:Fr}(e:Qd call P A f nt ops o fr ht n=some (fr',ht',n',lg)):∃v,OpDone call P A f nt ops o fr ht n fr' ht' n' lg v:=by
 have e0:=e;unfold Qd at e;cases hw:Yy ops o fr.regs with
 |none=>rw[hw]at e;exact(Yc e).elim
 |some b=>
  rw[hw]at e;cases b with
  |true=>
   simp only at e;obtain⟨v,h1,n1,l1,l2,e1,e2,rfl⟩:=bind_some e;have hl2:=Yp8 e2;subst hl2;obtain⟨hp,rfl,rfl⟩:=Ye e2;refine⟨v,e0,?_,?_,.inl ⟨hw,by simpa using e1⟩⟩
   ·unfold Yh4 at hp;cases hd:o.dst with
    |none=>rw[hd]at hp;simp only[Zs]at hp;subst hp;rfl
    |some d=>
     rw[hd]at hp;simp only at hp;split at hp
     ·simp only[Zs]at hp;subst hp;rfl
     ·cases hp
   ·unfold Yh4 at hp;cases hd:o.dst with
    |none=>rfl
    |some d=>
     rw[hd]at hp;simp only at hp;split at hp
     ·simpa[dstOk]
     ·cases hp
  |false=>
   simp only at e;have hlg:=Yp8 e;obtain⟨hp,rfl,rfl⟩:=Ye e;refine⟨.undef,e0,?_,?_,.inr ⟨hw,rfl,rfl,rfl,hlg⟩⟩
   ·cases hd:o.dst with
    |none=>rw[hd]at hp;simp only[Zs]at hp;subst hp;rfl
    |some d=>
     rw[hd]at hp;simp only at hp;split at hp
     ·simp only[Zs]at hp;subst hp;rfl
     ·cases hp
   ·cases hd:o.dst with
    |none=>rfl
    |some d=>
     rw[hd]at hp;simp only at hp;split at hp
     ·simpa[dstOk]
     ·cases hp
theorem OpDone.sim(hc:Yce P A call)(hl:∀f vs,Local (call f vs))(hB:B≤w0.w.heap.size)(hf:Qt ht n){fr:Fr}(d:OpDone call P A f nt ops o fr ht n fr' ht' n' lg v)
  {i:Nat}(hi:ops[i]?=some o)(ha:Yjs g ht n n' lg)(hr:∀t,t∈o.looksAt ops→regs t=fr.regs t)(sr:SR B w0 μ M g w)(hg:GlobOK A M)(hfree:∀id,n≤id→id<n'→μ id=none)(rr:RegR μ M nt regs a)
 
  (hK:∀a' w' μ' M',SR B w0 μ' M' (Yda g ht' n n' lg.2) w'→μ.le μ'→M.le M'→(∀id,¬(n≤id∧id<n')→μ' id=μ id)→RegR μ' M' nt (putR o.dst v regs) a'→K a' w'):wpOp P ops Q i K a w:=by
 have hops:∀t,Operand.tmp t∈o.op.operands→regs t=fr.regs t:=fun t ht'=>hr t (by
  unfold Oper.looksAt;refine mem_append_left _ (mem_filterMap.2 ⟨.tmp t,by simpa using ht',rfl⟩))
 have hwant:Yy ops o regs=Yy ops o fr.regs:=by
  unfold Yy;cases hgd:o.guard with
  |none=>rfl
  |some jw=>
   obtain⟨j,want⟩:=jw;simp only;cases hd:(ops[j]?).bind (·.dst) with
   |none=>rfl
   |some t=>
    simp only;rw[hr t (by
     unfold Oper.looksAt;refine mem_append_right _ ?_;rw[hgd];simp only;rw[hd];simp)]
 unfold wpOp;rw[hi];simp only;rcases d.kind with ⟨hw,hv⟩|⟨hw,rfl,rfl,rfl,rfl⟩
 ·rw[Yka rr (hwant.trans hw)];simp only[if_true];refine .inl (opV_sim hc hl hB hf hv ha hops sr hg hfree rr ?_);intro cv w' μ' M' s1 s2 s3 s4 s5;exact hK _ w' μ' M' s1 s2 s3 s4 ((rr.mono s2 s3).put d.dst s5)
 ·rw[Yka rr (hwant.trans hw)];simp only[Zf,if_false];refine hK _ w μ M ?_ (.refl _) (.refl _) (fun _ _=>rfl) (rr.put d.dst .undef);rw[Ygc];exact sr
end
theorem Ym6{h:Ya}{n:Nat}(st:Step h n h' n' lg):Yda h h' n n' lg.2=h':=by
 funext id;unfold Yda;by_cases hc:id∈lg.2∨(n≤id∧id<n')
 ·rw[if_pos hc]
 ·rw[if_neg hc];exact(st.same id (fun h=>hc (.inl h)) (fun h=>hc (.inr h))).symm
section
variable {P:Program} {A:Ann} {call:Nat→List AV→AM AV} {B:Nat} {w0:Anchor} {nt f:Nat}
theorem Yke(hc:Yce P A call)(hl:∀f vs,Local (call f vs))(hB:B≤w0.w.heap.size):∀(l:List Oper) (k:Nat),ops.toList.drop k=l→∀{fr fr':Fr} {h h':Ya} {n n':Nat} {lg:Log} {μ:Mu} {M:Mem} {w:World} {a:Act},
  Qt h n→Ybx call P A f nt ops l fr h n=some (fr',h',n',lg)→SR B w0 μ M h w→GlobOK A M→(∀id,n≤id→id<n'→μ id=none)→RegR μ M nt fr.regs a→
  (∀a' w' μ' M',SR B w0 μ' M' h' w'→μ.le μ'→M.le M'→(∀id,¬(n≤id∧id<n')→μ' id=μ id)→RegR μ' M' nt fr'.regs a'→Q .normal a' w')→
  wpOps P ops Q (List.range' k l.length) a w
 |[],k,hk,fr,fr',h,h',n,n',lg,μ,M,w,a,hf,e,sr,hg,hfree,rr,hQ=>by
  obtain⟨rfl,rfl,rfl⟩:=Yh e;exact hQ a w μ M sr (.refl _) (.refl _) (fun _ _=>rfl) rr
 |o::l,k,hk,fr,fr',h,h',n,n',lg,μ,M,w,a,hf,e,sr,hg,hfree,rr,hQ=>by
  unfold Ybx at e;obtain⟨fr1,h1,n1,l1,l2,e1,e2,rfl⟩:=bind_some e;obtain⟨st1,_⟩:=Qk P A f nt hl ops o fr h n fr1 h1 n1 l1 hf e1;obtain⟨st2,_⟩:=Yeh P A f nt hl ops l fr1 h1 n1 fr' h' n' l2 st1.fresh e2;obtain⟨v,hd⟩:=Ykc e1;have hle1:=st1.le;have hle2:=st2.le;have hk':ops.toList.drop (k+1)=l:=by
   rw[←drop_drop,hk];rfl
  have ho:ops[k]?=some o:=by
   have:(ops.toList.drop k)[0]?=some o:=by rw[hk];rfl
   rw[getElem?_drop]at this;simpa using this
  rw[length_cons,range'_succ,wpOps_cons];refine hd.sim hc hl hB hf ho (fun _ _=>rfl) (fun _ _=>rfl) sr hg (fun id h1 h2=>hfree id h1 (by omega)) rr ?_;intro a' w' μ' M' s1 s2 s3 s4 s5;rw[Ym6 st1]at s1;rw[←hd.regs]at s5;refine Yke hc hl hB l (k+1) hk' st1.fresh e2 s1 (hg.mono s3) (fun id g1 g2=>by rw[s4 id (by omega)];exact hfree id (by omega) g2) s5 ?_;intro a2 w2 μ2 M2 t1 t2 t3 t4 t5;exact hQ a2 w2 μ2 M2 t1 (s2.trans t2) (s3.trans t3) (fun id hid=>by rw[t4 id (by omega),s4 id (by omega)]) t5
structure Rec where
 o:Oper
 fr:Fr
 h:Ya
 n:Nat
 fr':Fr
 h':Ya
 n':Nat
 lg:Log
 v:AV
def Rec.ok (call:Nat→List AV→AM AV) (P:Program) (A:Ann) (f nt:Nat) (ops:Array Oper) (r:Rec):Prop:=
 OpDone call P A f nt ops r.o r.fr r.h r.n r.fr' r.h' r.n' r.lg r.v∧Qt r.h r.n∧Step r.h r.n r.h' r.n' r.lg
inductive Chain (call:Nat→List AV→AM AV) (P:Program) (A:Ann) (f nt:Nat) (ops:Array Oper):List Rec→Fr→Ya→Nat→Fr→Ya→Nat→Prop where
 |nil (fr h n):Chain call P A f nt ops [] fr h n fr h n
 |cons (r rs fr2 h2 n2):r.ok call P A f nt ops→Chain call P A f nt ops rs r.fr' r.h' r.n' fr2 h2 n2→Chain call P A f nt ops (r::rs) r.fr r.h r.n fr2 h2 n2
theorem Yhu(hl:∀f vs,Local (call f vs)):∀{l:List Oper} {fr fr':Fr} {h h':Ya} {n n':Nat} {lgs:List Yf1},Qt h n→Xo call P A f nt ops l fr h n=some (fr',h',n',lgs)→
  ∃rs:List Rec,Chain call P A f nt ops rs fr h n fr' h' n'∧rs.map (·.o)=l∧rs.map (fun r=>(r.lg,r.n,r.n'))=lgs
 |[],fr,fr',h,h',n,n',lgs,hf,e=>by
  simp only[Xo,Zs,Zp]at e;obtain⟨rfl,rfl,rfl,rfl⟩:=e;exact⟨[],.nil _ _ _,rfl,rfl⟩
 |o::l,fr,fr',h,h',n,n',lgs,hf,e=>by
  unfold Xo at e;cases e1:Qd call P A f nt ops o fr h n with
  |none=>rw[e1]at e;cases e
  |some x=>
   obtain⟨fr1,h1,n1,l1⟩:=x;rw[e1]at e;simp only at e;cases e2:Xo call P A f nt ops l fr1 h1 n1 with
   |none=>rw[e2]at e;cases e
   |some y=>
    obtain⟨fr2,h2,n2,ls⟩:=y;rw[e2]at e;simp only[Zs,Zp]at e;obtain⟨rfl,rfl,rfl,rfl⟩:=e;obtain⟨st1,_⟩:=Qk P A f nt hl ops o fr h n fr1 h1 n1 l1 hf e1;obtain⟨v,hd⟩:=Ykc e1;obtain⟨rs,c1,c2,c3⟩:=Yhu hl st1.fresh e2;exact⟨⟨o,fr,h,n,fr1,h1,n1,l1,v⟩::rs,.cons ⟨o,fr,h,n,fr1,h1,n1,l1,v⟩ rs _ _ _ ⟨hd,hf,st1⟩ c1,by simp[c2],by simp[c3]⟩
abbrev RS:=(Nat→AV)×Ya
variable {s:RS}
def Rec.apply (r:Rec) (s:RS):RS:=(putR r.o.dst r.v s.1,Yda s.2 r.h' r.n r.n' r.lg.2)
def Y6 (p:Nat→Bool):Nat→List Rec→RS→RS
 |_,[],s=>s
 |i,r::rs,s=>Y6 p (i+1) rs (if p i then r.apply s else s)
def Rec.wReg (r:Rec) (t:Nat):Prop:=r.o.dst=some t
def Rec.wId (r:Rec) (id:Nat):Prop:=id∈r.lg.2∨(r.n≤id∧id<r.n')
theorem Yeu{r:Rec}{t:Nat}(h:¬r.wReg t):(r.apply s).1 t=s.1 t:=by
 unfold Rec.apply putR;unfold Rec.wReg at h;cases hd:r.o.dst with
 |none=>rfl
 |some d=>
  rw[hd]at h;simp only[upd];rw[if_neg (fun e=>h (by rw[e]))]
theorem Yb4{r:Rec}{t:Nat}(h:r.wReg t):(r.apply s).1 t=r.v:=by
 unfold Rec.apply putR;unfold Rec.wReg at h;rw[h];simp[upd]
theorem Ydt{r:Rec}(h:¬r.wId id):(r.apply s).2 id=s.2 id:=by
 unfold Rec.apply Yda;exact if_neg h
theorem Ydu{r:Rec}(h:r.wId id):(r.apply s).2 id=r.h' id:=by
 unfold Rec.apply Yda;exact if_pos h
theorem Yfb{t:Nat}{q:Nat→Bool}:∀(rs:List Rec) (i:Nat) (s u:RS),s.1 t=u.1 t→(∀(k:Nat) r,rs[k]?=some r→r.wReg t→p (i+k)=q (i+k))→(Y6 p i rs s).1 t=(Y6 q i rs u).1 t
 |[],_,_,_,h,_=>h
 |r::rs,i,s,u,h,hpq=>by
  unfold Y6;refine Yfb rs (i+1) _ _ ?_ (fun k r hk hw=>by have:=hpq (k+1) r (by simpa using hk) hw;rwa[show i+(k+1)=i+1+k by omega]at this);by_cases hw:r.wReg t
  ·have:=hpq 0 r rfl hw;simp only[Nat.add_zero]at this;rw[this];split
   ·rw[Yb4 hw,Yb4 hw]
   ·exact h
  ·have e1:(if p i then r.apply s else s).1 t=s.1 t:=by split;exact Yeu hw;rfl
   have e2:(if q i then r.apply u else u).1 t=u.1 t:=by split;exact Yeu hw;rfl
   rw[e1,e2,h]
theorem Yep{q:Nat→Bool}:∀(rs:List Rec) (i:Nat) (s u:RS),s.2 id=u.2 id→(∀(k:Nat) r,rs[k]?=some r→r.wId id→p (i+k)=q (i+k))→(Y6 p i rs s).2 id=(Y6 q i rs u).2 id
 |[],_,_,_,h,_=>h
 |r::rs,i,s,u,h,hpq=>by
  unfold Y6;refine Yep rs (i+1) _ _ ?_ (fun k r hk hw=>by have:=hpq (k+1) r (by simpa using hk) hw;rwa[show i+(k+1)=i+1+k by omega]at this);by_cases hw:r.wId id
  ·have:=hpq 0 r rfl hw;simp only[Nat.add_zero]at this;rw[this];split
   ·rw[Ydu hw,Ydu hw]
   ·exact h
  ·have e1:(if p i then r.apply s else s).2 id=s.2 id:=by split;exact Ydt hw;rfl
   have e2:(if q i then r.apply u else u).2 id=u.2 id:=by split;exact Ydt hw;rfl
   rw[e1,e2,h]
theorem Ygp{t:Nat}:∀(rs:List Rec) (i k:Nat) (r:Rec) (s:RS),rs[k]?=some r→p (i+k)=true→r.wReg t→(∀(m:Nat) r',rs[m]?=some r'→k<m→p (i+m)=true→¬r'.wReg t)→(Y6 p i rs s).1 t=r.v
 |[],_,_,_,_,h,_,_,_=>by simp at h
 |r0::rs,i,0,r,s,h,hp,hw,hlast=>by
  simp only[Zc,Zs]at h;subst h;unfold Y6;simp only[Nat.add_zero]at hp;rw[hp];simp only[if_true];rw[Yfb (q:=fun _=>false) (t:=t) rs (i+1) (r0.apply s) (r0.apply s) rfl (fun k r hk hw'=>by
   cases hpk:p (i+1+k) with
   |false=>rfl
   |true=>exact absurd hw' (hlast (k+1) r (by simpa using hk) (by omega) (by rw[←hpk];congr 1;omega)))]
  have:∀(rs:List Rec) (i:Nat) (s:RS),Y6 (fun _=>false) i rs s=s:=by
   intro rs
   induction rs with
   |nil=>intro i s;rfl
   |cons r rs ih=>intro i s;unfold Y6;simp only[Zf,if_false];exact ih _ _
  rw[this];exact Yb4 hw
 |r0::rs,i,k+1,r,s,h,hp,hw,hlast=>by
  unfold Y6;exact Ygp rs (i+1) k r _ (by simpa using h) (by rw[←hp];congr 1;omega) hw (fun m r' hm hlt hpm=>hlast (m+1) r' (by simpa using hm) (by omega) (by rw[←hpm];congr 1;omega))
theorem Yal:∀(rs:List Rec) (i k:Nat) (r:Rec) (s:RS),rs[k]?=some r→p (i+k)=true→r.wId id→(∀(m:Nat) r',rs[m]?=some r'→k<m→p (i+m)=true→¬r'.wId id)→(Y6 p i rs s).2 id=r.h' id
 |[],_,_,_,_,h,_,_,_=>by simp at h
 |r0::rs,i,0,r,s,h,hp,hw,hlast=>by
  simp only[Zc,Zs]at h;subst h;unfold Y6;simp only[Nat.add_zero]at hp;rw[hp];simp only[if_true];rw[Yep (q:=fun _=>false) (id:=id) rs (i+1) (r0.apply s) (r0.apply s) rfl (fun k r hk hw'=>by
   cases hpk:p (i+1+k) with
   |false=>rfl
   |true=>exact absurd hw' (hlast (k+1) r (by simpa using hk) (by omega) (by rw[←hpk];congr 1;omega)))]
  have:∀(rs:List Rec) (i:Nat) (s:RS),Y6 (fun _=>false) i rs s=s:=by
   intro rs
   induction rs with
   |nil=>intro i s;rfl
   |cons r rs ih=>intro i s;unfold Y6;simp only[Zf,if_false];exact ih _ _
  rw[this];exact Ydu hw
 |r0::rs,i,k+1,r,s,h,hp,hw,hlast=>by
  unfold Y6;exact Yal rs (i+1) k r _ (by simpa using h) (by rw[←hp];congr 1;omega) hw (fun m r' hm hlt hpm=>hlast (m+1) r' (by simpa using hm) (by omega) (by rw[←hpm];congr 1;omega))
theorem fold_add{j:Nat}{rs:List Rec}{r:Rec}(hj:rs[j]?=some r)(hpj:p j=false)
  (hreg:∀(m:Nat) r' t,rs[m]?=some r'→j<m→p m=true→r.wReg t→¬r'.wReg t)(hid:∀(m:Nat) r' id,rs[m]?=some r'→j<m→p m=true→r.wId id→¬r'.wId id) :
  Y6 (fun i=>p i||i==j) 0 rs s=r.apply (Y6 p 0 rs s):=by
 apply Prod.ext
 ·funext t;by_cases hw:r.wReg t
  ·rw[Yb4 hw,Ygp rs 0 j r s hj (by simp) hw];intro m r' hm hlt hpm;simp only[Nat.zero_add,Bool.or_eq_true,beq_iff_eq]at hpm;exact hreg m r' t hm hlt (hpm.resolve_right (by omega)) hw
  ·rw[Yeu hw];refine Yfb rs 0 s s rfl (fun k r' hk hw'=>?_);simp only[Nat.zero_add];by_cases e:k=j
   ·subst e;rw[hj]at hk;cases hk;exact absurd hw' hw
   ·simp[e]
 ·funext id;by_cases hw:r.wId id
  ·rw[Ydu hw,Yal rs 0 j r s hj (by simp) hw];intro m r' hm hlt hpm;simp only[Nat.zero_add,Bool.or_eq_true,beq_iff_eq]at hpm;exact hid m r' id hm hlt (hpm.resolve_right (by omega)) hw
  ·rw[Ydt hw];refine Yep rs 0 s s rfl (fun k r' hk hw'=>?_);simp only[Nat.zero_add];by_cases e:k=j
   ·subst e;rw[hj]at hk;cases hk;exact absurd hw' hw
   ·simp[e]
theorem Rec.ok.applies{r:Rec}(h:r.ok call P A f nt ops):r.apply (r.fr.regs,r.h)=(r.fr'.regs,r.h'):=by
 unfold Rec.apply;rw[h.1.regs,Ym6 h.2.2]
theorem Yk4{rs:List Rec}{fr:Fr}{h:Ya}{n:Nat}(c:Chain call P A f nt ops rs fr h n fr' h' n') :
  ∀i,Y6 (fun _=>true) i rs (fr.regs,h)=(fr'.regs,h'):=by
 induction c with
 |nil=>intro i;rfl
 |cons r rs fr2 h2 n2 hok _ ih=>
  intro i;unfold Y6;simp only[if_true];rw[hok.applies];exact ih _
theorem Yad{rs:List Rec}{fr:Fr}{h:Ya}{n:Nat}(c:Chain call P A f nt ops rs fr h n fr' h' n') :
  ∀(i j:Nat) (r:Rec),rs[j]?=some r→Y6 (fun k=>decide (k<i+j)) i rs (fr.regs,h)=(r.fr.regs,r.h)∧r.ok call P A f nt ops∧n≤r.n∧r.n'≤n':=by
 have hle:∀{rs:List Rec} {fr fr':Fr} {h h':Ya} {n n':Nat},Chain call P A f nt ops rs fr h n fr' h' n'→n≤n':=by
  intro rs fr fr' h h' n n' c
  induction c with
  |nil=>exact Zl _
  |cons r rs fr2 h2 n2 hok _ ih=>exact Nat.le_trans hok.2.2.le ih
 have none:∀(rs:List Rec) (i m:Nat) (s:RS),m≤i→Y6 (fun k=>decide (k<m)) i rs s=s:=by
  intro rs
  induction rs with
  |nil=>intro i m s _;rfl
  |cons r rs ih=>
   intro i m s hm;unfold Y6;rw[if_neg (by simp only[decide_eq_true_eq];omega)];exact ih _ _ _ (by omega)
 induction c with
 |nil=>intro i j r hr;simp at hr
 |cons r0 rs fr2 h2 n2 hok hc ih=>
  intro i j r hr;cases j with
  |zero=>
   simp only[Zc,Zs]at hr;subst hr;exact⟨none _ _ _ _ (by omega),hok,Zl _,hle hc⟩
  |succ j=>
   obtain⟨k1,k2,k3,k4⟩:=ih (i+1) j r (by simpa using hr);refine⟨?_,k2,Nat.le_trans hok.2.2.le k3,k4⟩;unfold Y6;rw[if_pos (by simp only[decide_eq_true_eq];omega),hok.applies,show i+(j+1)=i+1+j by omega];exact k1
theorem Kh{rs:List Rec}{fr:Fr}{h:Ya}{n:Nat}(c:Chain call P A f nt ops rs fr h n fr' h' n') :
  ∀(i j:Nat) (r q:Rec),rs[i]?=some r→rs[j]?=some q→i<j→r.n'≤q.n:=by
 induction c with
 |nil=>intro i j r q hr;simp at hr
 |cons r0 rs fr2 h2 n2 hok hc ih=>
  intro i j r q hr hq hij;cases j with
  |zero=>omega
  |succ j=>
   cases i with
   |zero=>
    simp only[Zc,Zs]at hr;subst hr;exact(Yad hc 0 j q (by simpa using hq)).2.2.1
   |succ i=>exact ih i j r q (by simpa using hr) (by simpa using hq) (by omega)
end
end Go.Abs
