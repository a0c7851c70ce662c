import Derived.Test.YtibdecjfdpmfoaaGreatAbsDraw
import Derived.LoopN
open Go.RowKit (Below)
namespace Go.Abs
open List hiding Mem cons map nil
variable {w0:Anchor} {vs:List AV} {M:Mem} {μ:Mu} {B nt:Nat} {w:World}
def Yn1:AX→Exit
 |.norm=> .normal
 |.exit id=> .exit id
 |.ret=> .ret
section
variable {P:Program} {A:Ann} {call:Nat→List AV→AM AV} {B:Nat} {w0:Anchor} {nt f:Nat}
def Goes (P:Program) (A:Ann) (B:Nat) (w0:Anchor) (nt:Nat) (c:Code) (m:Fr→AM (AX×Fr)):Prop:=
 ∀{fr fr':Fr} {x:AX} {h h':Ya} {n n':Nat} {lg:Log} {μ:Mu} {M:Mem} {w:World} {a:Act} {Q:Exit→Act→World→Prop},
  Qt h n→m fr h n=some ((x,fr'),h',n',lg)→SR B w0 μ M h w→GlobOK A M→(∀id,n≤id→id<n'→μ id=none)→RegR μ M nt fr.regs a→
  (∀a' w' μ' M',SR B w0 μ' M' h' w'→μ.le μ'→M.le M'→(∀id,¬(n≤id∧id<n')→μ' id=μ id)→RegR μ' M' nt fr'.regs a'→Q (Yn1 x) a' w')→c.wp P Q a w
theorem loop_goes(hl:∀f vs,Local (call f vs)){b:Code}{k0:Nat}(hb:Goes P A B w0 nt b (fun fr=>Jr call P A f nt k0 b fr)):∀k,Goes P A B w0 nt (.loop b) (Yeg (fun fr=>Jr call P A f nt k0 b fr) k):=by
 intro k fr fr' x h h' n n' lg μ M w a Q hf e sr hg hfree rr hQ;refine wp_loop_rounds k ?_
 induction k generalizing fr h n μ M w a lg with
 |zero=>exact(Yc e).elim
 |succ k ih=>
  unfold Yeg at e;obtain⟨y,h1,n1,l1,l2,e1,e2,_⟩:=bind_some e;obtain⟨x1,fr1⟩:=y;obtain⟨st1,_⟩:=Qo P A f nt hl k0 b fr h n (x1,fr1) h1 n1 l1 hf e1;have hle1:=st1.le;have hle2:n1≤n':=by
   cases x1 with
   |norm=>exact(Yft (fun fr=>Qo P A f nt hl k0 b fr) k fr1 h1 n1 (x,fr') h' n' l2 st1.fresh e2).1.le
   |_=>obtain⟨_,_,rfl⟩:=Yh e2;exact Zl _
  rw[rounds_succ];refine hb hf e1 sr hg (fun id g1 g2=>hfree id g1 (by omega)) rr ?_;intro a' w' μ' M' s1 s2 s3 s4 s5;cases x1 with
  |norm=>
   simp only at e2;refine ih st1.fresh e2 s1 (hg.mono s3) (fun id g1 g2=>by rw[s4 id (by omega)];exact hfree id (by omega) g2) s5 ?_;intro a2 w2 μ2 M2 t1 t2 t3 t4 t5;exact hQ a2 w2 μ2 M2 t1 (s2.trans t2) (s3.trans t3) (fun id hid=>by rw[t4 id (by omega),s4 id (by omega)]) t5
  |exit id=>
   obtain⟨he,rfl,rfl⟩:=Yh e2;cases he;exact hQ a' w' μ' M' s1 s2 s3 s4 s5
  |ret=>
   obtain⟨he,rfl,rfl⟩:=Yh e2;cases he;exact hQ a' w' μ' M' s1 s2 s3 s4 s5
theorem exec_goes(hm:P.follows .mixedOrders=true)(hc:Yce P A call)(hl:∀f vs,Local (call f vs))(hB:B≤w0.w.heap.size)(k:Nat):∀c:Code,Yes c=true→Goes P A B w0 nt c (fun fr=>Jr call P A f nt k c fr):=by
 intro c
 induction c with
 |skip=>
  intro _ fr fr' x h h' n n' lg μ M w a Q hf e sr hg hfree rr hQ;obtain⟨he,rfl,rfl⟩:=Yh e;cases he;exact wp_skip (hQ a w μ M sr (.refl _) (.refl _) (fun _ _=>rfl) rr)
 |ret=>
  intro _ fr fr' x h h' n n' lg μ M w a Q hf e sr hg hfree rr hQ;obtain⟨he,rfl,rfl⟩:=Yh e;cases he;exact wp_ret (hQ a w μ M sr (.refl _) (.refl _) (fun _ _=>rfl) rr)
 |exit id=>
  intro _ fr fr' x h h' n n' lg μ M w a Q hf e sr hg hfree rr hQ;obtain⟨he,rfl,rfl⟩:=Yh e;cases he;exact wp_exit (hQ a w μ M sr (.refl _) (.refl _) (fun _ _=>rfl) rr)
 |region id ops draw=>
  intro hok fr fr' x h h' n n' lg μ M w a Q hf e sr hg hfree rr hQ;simp only[Jr]at e;obtain⟨fr1,h1,n1,l1,l2,e1,e2,_⟩:=bind_some e;obtain⟨he,rfl,rfl⟩:=Yh e2;cases he;cases draw with
  |true=>
   simp only[if_true]at e1;simp only[Yes,Bool.not_true,Bool.false_or]at hok;exact Yol hm hc hl hB hok hf e1 sr hg hfree rr hQ
  |false=>
   simp only[Zf,if_false]at e1;refine wp_region ?_;have:=Yke hc hl hB (Q:=Q) ops.toList 0 rfl hf e1 sr hg hfree rr hQ;rw[range_eq_range'];simpa using this
 |seq c1 c2 ih1 ih2=>
  intro hok fr fr' x h h' n n' lg μ M w a Q hf e sr hg hfree rr hQ;simp only[Yes,Za]at hok;simp only[Jr]at e;obtain⟨y,h1,n1,l1,l2,e1,e2,_⟩:=bind_some e;obtain⟨x1,fr1⟩:=y;obtain⟨st1,_⟩:=Qo P A f nt hl k c1 fr h n (x1,fr1) h1 n1 l1 hf e1;have hle1:=st1.le;have hle2:n1≤n':=by
   cases x1 with
   |norm=>exact(Qo P A f nt hl k c2 fr1 h1 n1 (x,fr') h' n' l2 st1.fresh e2).1.le
   |_=>obtain⟨_,_,rfl⟩:=Yh e2;exact Zl _
  refine wp_seq (ih1 hok.1 hf e1 sr hg (fun id g1 g2=>hfree id g1 (by omega)) rr ?_);intro a' w' μ' M' s1 s2 s3 s4 s5;cases x1 with
  |norm=>
   simp only at e2;show c2.wp P Q a' w';refine ih2 hok.2 st1.fresh e2 s1 (hg.mono s3) (fun id g1 g2=>by rw[s4 id (by omega)];exact hfree id (by omega) g2) s5 ?_;intro a2 w2 μ2 M2 t1 t2 t3 t4 t5;exact hQ a2 w2 μ2 M2 t1 (s2.trans t2) (s3.trans t3) (fun id hid=>by rw[t4 id (by omega),s4 id (by omega)]) t5
  |exit id=>
   obtain⟨he,rfl,rfl⟩:=Yh e2;cases he;exact hQ a' w' μ' M' s1 s2 s3 s4 s5
  |ret=>
   obtain⟨he,rfl,rfl⟩:=Yh e2;cases he;exact hQ a' w' μ' M' s1 s2 s3 s4 s5
 |cond c c1 c2 ih1 ih2=>
  intro hok fr fr' x h h' n n' lg μ M w a Q hf e sr hg hfree rr hQ;simp only[Yes,Za]at hok;simp only[Jr]at e;cases hcv:Qb A fr.regs c with
  |none=>rw[hcv]at e;exact(Yc e).elim
  |some cv=>
   rw[hcv]at e;cases cv with
   |bool t=>
    have hev:=evR rr hg c _ hcv;have hb:a.eval c= .bool t:=by
     generalize a.eval c=y at hev ⊢;cases hev;rfl
    cases t with
    |true=>exact wp_cond_true hb (ih1 hok.1 hf e sr hg hfree rr hQ)
    |false=>exact wp_cond_false hb (ih2 hok.2 hf e sr hg hfree rr hQ)
   |_=>exact(Yc e).elim
 |block id c ih=>
  intro hok fr fr' x h h' n n' lg μ M w a Q hf e sr hg hfree rr hQ;simp only[Yes]at hok;simp only[Jr]at e;obtain⟨y,h1,n1,l1,l2,e1,e2,_⟩:=bind_some e;obtain⟨x1,fr1⟩:=y;obtain⟨he,rfl,rfl⟩:=Yh e2;simp only[Zp]at he;obtain⟨rfl,rfl⟩:=he;refine wp_block (ih hok hf e1 sr hg hfree rr ?_);intro a' w' μ' M' s1 s2 s3 s4 s5;have:=hQ a' w' μ' M' s1 s2 s3 s4 s5;cases x1 with
  |norm=>simpa[Yn1,Exit.inBlock]using this
  |ret=>simpa[Yn1,Exit.inBlock]using this
  |exit id'=>
   by_cases hid:id'=id
   ·simpa[Yn1,Exit.inBlock,hid]using this
   ·simpa[Yn1,Exit.inBlock,hid]using this
 |loop c ih=>
  intro hok;simp only[Yes]at hok;exact loop_goes hl (ih hok) k
 |rangeFunc=>intro _ fr fr' x h h' n n' lg μ M w a Q hf e;exact(Yc (by simpa only[Jr]using e)).elim
 |scope=>intro _ fr fr' x h h' n n' lg μ M w a Q hf e;exact(Yc (by simpa only[Jr]using e)).elim
 |label=>intro _ fr fr' x h h' n n' lg μ M w a Q hf e;exact(Yc (by simpa only[Jr]using e)).elim
 |goto=>intro _ fr fr' x h h' n n' lg μ M w a Q hf e;exact(Yc (by simpa only[Jr]using e)).elim
 |refuse=>intro _ fr fr' x h h' n n' lg μ M w a Q hf e;exact(Yc (by simpa only[Jr]using e)).elim
theorem Ydi{fz:AV→AM AV}(H:∀(v:AV) {M:Mem} {h h':Ya} {n n':Nat} {lg:Log} {v':AV} {cv:Value},fz v h n=some (v',h',n',lg)→SR B w0 μ M h w→VR μ M v cv→
  n'=n∧∃M',SR B w0 μ M' h' w∧M.le M'∧VR μ M' v' cv):∀(l:List AV) {M:Mem} {h h':Ya} {n n':Nat} {lg:Log} {l':List AV} {vs:List Value},Ybm fz l h n=some (l',h',n',lg)→SR B w0 μ M h w→VRs μ M l vs→
  n'=n∧∃M',SR B w0 μ M' h' w∧M.le M'∧VRs μ M' l' vs
 |[],M,h,h',n,n',lg,l',vs,e,sr,hv=>by
  unfold Ybm at e;obtain⟨rfl,rfl,rfl⟩:=Yh e;exact⟨rfl,M,sr,.refl _,hv⟩
 |v::l,M,h,h',n,n',lg,l',vs,e,sr,hv=>by
  unfold Ybm at e;obtain⟨v2,_,_,_,_,e1,f1,_⟩:=bind_some e;obtain⟨l2,_,_,_,_,e2,f2,_⟩:=bind_some f1;obtain⟨rfl,rfl,rfl⟩:=Yh f2;cases vs with
  |nil=>have:=hv.1;simp at this
  |cons c vs=>
   rw[VRs.cons_iff]at hv;obtain⟨rfl,M1,t1,t2,t3⟩:=H v e1 sr hv.1;obtain⟨rfl,M2,u1,u2,u3⟩:=Ydi H l e2 t1 (hv.2.mono (.refl _) t2);exact⟨rfl,M2,u1,t2.trans u2,.cons (t3.mono (.refl _) u2) u3⟩
theorem Ydj:∀(k:Nat) (v:AV) {M:Mem} {h h':Ya} {n n':Nat} {lg:Log} {v':AV} {cv:Value},Xy k v h n=some (v',h',n',lg)→SR B w0 μ M h w→VR μ M v cv→
  n'=n∧∃M',SR B w0 μ M' h' w∧M.le M'∧VR μ M' v' cv
 |0,_,_,_,_,_,_,_,_,_,e,_,_=>by unfold Xy at e;exact(Yc e).elim
 |k+1,v,M,h,h',n,n',lg,v',cv,e,sr,hv=>by
  have plain:Xy (k+1) v=AM.pure v→n'=n∧∃M',SR B w0 μ M' h' w∧M.le M'∧VR μ M' v' cv:=by
   intro hp;rw[hp]at e;obtain⟨rfl,rfl,rfl⟩:=Yh e;exact⟨rfl,M,sr,.refl _,hv⟩
  cases v with
  |sl id off len sz=>
   unfold Xy at e;simp only at e;obtain⟨o,h1,n1,_,_,e1,f1,_⟩:=bind_some e;obtain⟨ho,rfl,rfl⟩:=Q6 e1;cases o with
   |map es=>exact(Yc f1).elim
   |cells cs=>
    obtain⟨cs1,_,_,_,_,e2,f2,_⟩:=bind_some f1;obtain⟨hs,rfl,rfl⟩:=Ye e2;obtain⟨u,_,_,_,_,e3,f3,_⟩:=bind_some f2;obtain⟨rfl,rfl⟩:=Ycr e3;obtain⟨cs2,_,_,_,_,e4,f4,_⟩:=bind_some f3;obtain⟨rfl,rfl,rfl⟩:=Yh f4;cases hv with
    |sl _ _ _ _ cap r a hr hlc hcap=>
     obtain⟨r',g1,_,_,g4,_,vs0,g6,g7⟩:=sr.cellsOf ho;rw[hr]at g1;cases g1;obtain⟨s1,s2⟩:=sr.freeze ho hr;have hcs1:=Ye0 hs g6;have hlen:=Jb hs;obtain⟨rfl,M2,t1,t2,t3⟩:=Ydi (fun v=>Ydj k v) cs1 e4 s1 (hcs1.mono (.refl _) s2);refine⟨rfl,M2,t1,s2.trans t2,?_⟩;have hl2:cs2.length=len*sz:=by
      have h1:=t3.1;have h2:=hcs1.1;omega
     have hpos:∀{i:Nat} {c:AV},cs2[i]?=some c→i<len*sz∧0<cap:=by
      intro i c hc;have:=(Zi.1 hc).1;refine⟨by omega,?_⟩;rcases Nat.eq_zero_or_pos len with h0|h0
      ·subst h0;rw[Nat.zero_mul]at hl2;omega
      ·omega
     refine .tsl cs2 len cap a (fun i=>vs0.getD (off+i) undef) hlc ?_ ?_ ?_
     ·intro hne;have:0<cap:=by
       rcases hne with h0|h0
       ·omega
       ·cases cs2 with
        |nil=>exact absurd rfl h0
        |cons c l=>exact(hpos (i:=0) (c:=c) rfl).2
      obtain⟨rfl,_⟩:=hcap this;rfl
     ·intro i c hc;obtain⟨hi,hc0⟩:=hpos hc;obtain⟨rfl,_⟩:=hcap hc0;refine t2 _ _ _ ?_;have hadd:Ycz M w r cs.length r.b (r.o+off+i)=w.cell? ⟨r.b,r.o+off+i,none⟩:=by
       unfold Ycz;rw[if_pos ⟨rfl,by omega,by omega⟩]
      refine hadd.trans ?_;have hlt:off+i<vs0.length:=by rw[←g6.1];omega
      rw[Zd,Zg hlt];simp only[Option.getD_some];rw[Nat.add_assoc];exact g7 _ _ (Zg hlt)
     ·intro i c hc;obtain⟨hi,_⟩:=hpos hc;have hlt:off+i<vs0.length:=by rw[←g6.1];omega
      refine t3.2 i c _ hc ?_;rw[getElem?_take,if_pos hi,getElem?_drop,Zd,Zg hlt];rfl
  |agg cs=>
   unfold Xy at e;simp only at e;obtain⟨cs2,_,_,_,_,e4,f4,_⟩:=bind_some e;obtain⟨rfl,rfl,rfl⟩:=Yh f4;cases hv with
   |agg _ vs h1 h2=>
    obtain⟨rfl,M2,t1,t2,t3⟩:=Ydi (fun v=>Ydj k v) cs e4 sr (vs:=vs.toList) ⟨by simpa using h1,fun i a v ha hv=>h2 i a v ha (by simpa using hv)⟩;exact⟨rfl,M2,t1,t2,.agg cs2 vs (by simpa using t3.1) (fun i a v ha hv=>t3.2 i a v ha (by simpa using hv))⟩
  |tup cs=>
   unfold Xy at e;simp only at e;obtain⟨cs2,_,_,_,_,e4,f4,_⟩:=bind_some e;obtain⟨rfl,rfl,rfl⟩:=Yh f4;cases hv with
   |tup _ vs h1 h2=>
    obtain⟨rfl,M2,t1,t2,t3⟩:=Ydi (fun v=>Ydj k v) cs e4 sr (vs:=vs.toList) ⟨by simpa using h1,fun i a v ha hv=>h2 i a v ha (by simpa using hv)⟩;exact⟨rfl,M2,t1,t2,.tup cs2 vs (by simpa using t3.1) (fun i a v ha hv=>t3.2 i a v ha (by simpa using hv))⟩
  |bool b=>exact plain (by unfold Xy;rfl)
  |int k n=>exact plain (by unfold Xy;rfl)
  |str s=>exact plain (by unfold Xy;rfl)
  |nil k=>exact plain (by unfold Xy;rfl)
  |ptr id off=>exact plain (by unfold Xy;rfl)
  |tptr cs off=>exact plain (by unfold Xy;rfl)
  |tsl cs len=>exact plain (by unfold Xy;rfl)
  |map id=>exact plain (by unfold Xy;rfl)
  |fn f a b=>exact plain (by unfold Xy;rfl)
  |ifc t a=>exact plain (by unfold Xy;rfl)
theorem Yd9{regs:Nat→AV}{a:Act}(rr:RegR μ M nt regs a):∀(l:List ResultVar) {h h':Ya} {n n':Nat} {lg:Log} {vs:List AV},Qr P regs l h n=some (vs,h',n',lg)→SR B w0 μ M h w→
  h'=h∧n'=n∧∃cvs,(l.mapM (fun | .tmp t=>pure (a.tmps.getD t undef) | .cell c t=>do loadVar t (←asAddr (a.tmps.getD c undef)):ResultVar→Sem Value)).run P w= .ok cvs w∧VRs μ M vs cvs
 |[],h,h',n,n',lg,vs,e,sr=>by
  obtain⟨rfl,rfl,rfl⟩:=Yh e;exact⟨rfl,rfl,[],rfl,.nil⟩
 |.tmp t::l,h,h',n,n',lg,vs,e,sr=>by
  unfold Qr at e;obtain⟨us,_,_,_,_,e1,f1,_⟩:=bind_some e;obtain⟨rfl,rfl,rfl⟩:=Yh f1;obtain⟨rfl,rfl,cvs,hr,hv⟩:=Yd9 rr l e1 sr;refine⟨rfl,rfl,a.tmps.getD t undef::cvs,?_,.cons (rr.val t) hv⟩;rw[mapM_cons];simp only[Sem.run_bind,Sem.run_pure,Result.andThen_ok,hr]
 |.cell c t::l,h,h',n,n',lg,vs,e,sr=>by
  unfold Qr at e;obtain⟨u,_,_,_,_,e0,f0,_⟩:=bind_some e;obtain⟨us,_,_,_,_,e1,f1,_⟩:=bind_some f0;obtain⟨rfl,rfl,rfl⟩:=Yh f1;obtain⟨rfl,rfl,b,o,cv,hp,hcv,hrun⟩:=Yja sr (rr.val c) e0;obtain⟨rfl,rfl,cvs,hr,hv⟩:=Yd9 rr l e1 sr;refine⟨rfl,rfl,cv::cvs,?_,.cons hcv hv⟩;rw[mapM_cons];have has:(asAddr (a.tmps.getD c undef)).run P w= .ok ⟨b,o,none⟩ w:=by rw[hp];rfl
  simp only[Sem.run_bind,has,Sem.run_pure,Result.andThen_ok,hrun,hr]
theorem tupled_vr{cvs:List Value}(h:VRs μ M vs cvs):VR μ M (Yx vs) (if h:cvs.toArray.size=1 then cvs.toArray[0] else .tuple cvs.toArray):=by
 have hl:=h.1;have htup:VR μ M (.tup vs) (.tuple cvs.toArray):= .tup vs cvs.toArray (by simpa using hl) (fun i a v ha hv=>h.2 i a v ha (by simpa using hv))
 match vs,cvs,hl with
 |[],[],_=>simpa[Yx]using htup
 |[a],[b],_=>simpa[Yx]using h.2 0 a b rfl rfl
 |_::_::_,_::_::_,_=>simpa[Yx]using htup
theorem Ynq{args:Array Value}(h:VRs μ M vs args.toList)(hn:vs.length≤nt):RegR μ M nt (Qi vs) {tmps:=args++Array.replicate (nt-args.size) undef,defers:=[]}:=by
 have hl:vs.length=args.size:=by simpa using h.1
 refine⟨by simp;omega,rfl,fun t=>?_⟩;unfold Qi;rw[Array.getD_eq_getD_getElem?,Zd,Array.getElem?_append];by_cases ht:t<args.size
 ·rw[if_pos ht,Zg (by omega),Array.getElem?_eq_getElem ht];exact h.2 t _ _ (Zg (by omega)) (by simp[ht])
 ·rw[if_neg ht,getElem?_eq_none (by omega),Array.getElem?_replicate];simp only[Option.getD_none];split<;>exact .undef
def ExtOK (P:Program) (A:Ann):Prop:=∀f e,A.ext.lookup f=some e→∃fn,P.funcs[f]?=some fn∧(fn.name == "runtime.NumGoroutine")=false∧fn.body.isNone=true∧Extern.findNext fn=none∧Extern.find fn=some e.sem
theorem callO_sim(hm:P.follows .mixedOrders=true)(hok:Yp0 P=true)(hx:ExtOK P A){call:Nat→List AV→AM AV}(k:Nat)(ih:Yce P A call)(hloc:∀g us,Local (call g us)):Yce P A (Ycb call P A k):=by
  intro B w0 f vs h n v h' n' lg μ M w args hB hf e sr hg hfree hargs;unfold Ycb at e;cases e0:body call P A k f vs h n with
  |none=>rw[e0]at e;cases e
  |some y=>
   obtain⟨⟨v1,boxes⟩,h1,n1,l1⟩:=y;rw[e0]at e;simp only[Zs]at e;obtain⟨st,_⟩:=Yhi hloc P A k f vs h n (v1,boxes) h1 n1 l1 hf e0;have hn1:n'=n1∧v=v1:=by
    unfold Ybn at e;dsimp only at e;split at e<;>simp only[Zp]at e<;>exact⟨e.2.2.1.symm,e.1.symm⟩
   obtain⟨rfl,rfl⟩:=hn1;have hsub:∀id o,h' id=some o→h1 id=some o:=by
    unfold Ybn at e;dsimp only at e;split at e
    ·rename_i hp;simp only[Zp]at e;obtain⟨_,rfl,_,_⟩:=e;simp only[Za,isEmpty_iff]at hp;intro id o ho;have hlt:id<n:=by
      rcases Nat.lt_or_ge id n with h|h
      ·exact h
      ·rw[hf id h]at ho;cases ho
     rw[st.same id (fun hin=>by
      have:id∈l1.2.filter (· < n):=mem_filter.2 ⟨hin,by simpa using hlt⟩;rw[hp.2]at this;cases this) (by omega)]
     exact ho
    ·simp only[Zp]at e;obtain⟨_,rfl,_,_⟩:=e;intro id o ho;unfold Q2 at ho;split at ho
     ·cases ho
     ·exact ho
   unfold body at e0;cases hfn:P.funcs[f]? with
   |none=>rw[hfn]at e0;exact(Yc e0).elim
   |some fn=>
    rw[hfn]at e0;simp only at e0;cases hbd:fn.body with
    |none=>
     rw[hbd]at e0;simp only at e0;cases hl:A.ext.lookup f with
     |none=>rw[hl]at e0;exact(Yc e0).elim
     |some ek=>
      rw[hl]at e0;simp only at e0;obtain⟨v2,h2,n2,_,_,e1,f1,_⟩:=bind_some e0;obtain⟨hp,rfl,rfl⟩:=Yh f1;simp only[Zp]at hp;obtain⟨rfl,rfl⟩:=hp;obtain⟨fn',g1,g2,g3,g4,g5⟩:=hx f ek hl;rw[hfn]at g1;cases g1;obtain⟨cv,w',μ',k1,k2,k3,k4,k5⟩:=extA_sim (P:=P) sr hB hfree hargs e1;refine .inr ⟨cv,w',?_,cv,μ',M,rfl,k2.sub hsub,k3,Mem.le.refl _,k4,k5⟩;rw[run_callFunc_extern hfn g2 g3 g4 g5,k1];rfl
    |some c=>
     rw[hbd]at e0;simp only at e0;split at e0
     ·exact(Yc e0).elim
     ·rename_i hcond;simp only[Bool.or_eq_true,decide_eq_true_eq,not_or]at hcond;obtain⟨hname,hsz⟩:=hcond;have hcode:Yes c=true:=by
       unfold Yp0 at hok;rw[all_eq_true]at hok;have:=hok fn (by rw[Array.mem_toList_iff];exact Array.mem_of_getElem? hfn);rw[hbd]at this;exact this
      have hname':¬fn.name = "runtime.NumGoroutine" := by simpa using hname
      refine .inl ⟨by simp[callFunc,hfn,hname',hbd],?_⟩;obtain⟨x,hx,nx,_,_,e1,f1,_⟩:=bind_some e0;obtain⟨x1,fr1⟩:=x;obtain⟨stx,_⟩:=Qo P A f fn.ntmps hloc k c ⟨Qi vs,[]⟩ h n (x1,fr1) hx nx _ hf e1;have hnx:nx≤n':=by
       cases x1 with
       |exit id=>exact(Yc f1).elim
       |_=>
        simp only at f1;exact(Local.bind (Yac P fr1.regs fn.results.toList) (fun vs=>Local.bind (Local.ite (Jm 1000 (Yx vs)) (Local.pure (Yx vs))) (fun v=>Local.pure (v,fr1.boxes))) hx nx _ _ _ _ stx.fresh f1).1.le
      have hlenx:=stx.le;refine calls_of_wp hfn hbd (exec_goes hm ih hloc hB k c hcode hf e1 sr hg (fun id g1 g2=>hfree id g1 (by omega)) (Ynq hargs (by omega)) ?_);intro a' w' μ' M' s1 s2 s3 s4 s5;have fin:∀{hx:Ya} {lx:Log},SR B w0 μ' M' hx w'→AM.bind (Qr P fr1.regs fn.results.toList) (fun vs=>AM.bind (if A.fz f then Xy 1000 (Yx vs) else AM.pure (Yx vs)) fun v=>AM.pure (v,fr1.boxes)) hx nx=some ((v,boxes),h1,n',lx)→
        a'.defers=[]∧∃cv,(results fn a'.tmps).run P w'= .ok cv w'∧Ended B w0 μ M n n' h' v (.returned cv) w':=by
       intro hx lx s1 f1;obtain⟨rs,h2,n2,_,_,e2,f2,_⟩:=bind_some f1;obtain⟨rfl,rfl,cvs,hrun,hvs⟩:=Yd9 (P:=P) s5 fn.results.toList e2 s1;obtain⟨v2,h3,n3,_,_,e3,f3,_⟩:=bind_some f2;obtain⟨hp,rfl,rfl⟩:=Yh f3;simp only[Zp]at hp;obtain⟨rfl,rfl⟩:=hp;refine⟨s5.defers,(if h:cvs.toArray.size=1 then cvs.toArray[0] else .tuple cvs.toArray),?_,?_⟩
       ·unfold results;rw[Sem.run_bind,Array.mapM_eq_mapM_toList,Sem.run_map];refine(congrArg (fun r=>((r:Result (List Value)).andThen fun a w'=>Result.ok a.toArray w').andThen fun a w'=>Sem.run P (pure (if h:a.size=1 then a[0] else Value.tuple a)) w') hrun).trans ?_;rfl
       ·have htv:=tupled_vr hvs;cases hfz:A.fz f with
        |true=>
         rw[hfz]at e3;simp only[if_true]at e3;obtain⟨rfl,M2,t1,t2,t3⟩:=Ydj 1000 _ e3 s1 htv;exact⟨_,μ',M2,rfl,t1.sub hsub,s2,s3.trans t2,fun id hid=>s4 id (by omega),t3⟩
        |false=>
         rw[hfz]at e3;simp only[Zf,if_false]at e3;obtain⟨rfl,rfl,rfl⟩:=Yh e3;exact⟨_,μ',M',rfl,s1.sub hsub,s2,s3,fun id hid=>s4 id (by omega),htv⟩
      cases x1 with
      |exit id=>exact(Yc f1).elim
      |norm=>
       obtain⟨d1,cv,d2,d3⟩:=fin s1 f1;exact⟨d1,cv,d2,d3⟩
      |ret=>
       obtain⟨d1,cv,d2,d3⟩:=fin s1 f1;exact⟨d1,cv,d2,d3⟩
theorem VR.tree{μ':Mu}{a:AV}{v:Value}(h:VR μ M a v):a.tree=true→VR μ' M a v:=by
 have trees_get:∀{l:List AV} {i:Nat} {a:AV},AV.trees l=true→l[i]?=some a→a.tree=true:=by
  intro l
  induction l with
  |nil=>intro i a _ h;simp at h
  |cons x l ih=>
   intro i a ht h;simp only[AV.trees,Za]at ht;cases i with
   |zero=>simp only[Zc,Zs]at h;subst h;exact ht.1
   |succ i=>exact ih ht.2 (by simpa using h)
 induction h with
 |bool b=>exact fun _=> .bool b
 |int k n=>exact fun _=> .int k n
 |str s=>exact fun _=> .str s
 |nilptr=>exact fun _=> .nilptr
 |nilsl=>exact fun _=> .nilsl
 |nilfn=>exact fun _=> .nilfn
 |nilmap=>exact fun _=> .nilmap
 |nilifc=>exact fun _=> .nilifc
 |ptr _ _ _ _=>intro ht;simp[AV.tree]at ht
 |sl _ _ _ _ _ _ _ _ _ _=>intro ht;simp[AV.tree]at ht
 |map _ _ _=>intro ht;simp[AV.tree]at ht
 |tptr cs off b o vs h1 h2 ih=>exact fun ht=> .tptr cs off b o vs h1 (fun i a ha=>ih i a ha (trees_get (by simpa[AV.tree]using ht) ha))
 |tsl cs len cap a vs h1 h2 h3 h4 ih=>exact fun ht=> .tsl cs len cap a vs h1 h2 h3 (fun i c hc=>ih i c hc (trees_get (by simpa[AV.tree]using ht) hc))
 |fn f first cap fv cv h1 h2 h3 h4 ih1 ih2=>
  intro ht;simp only[AV.tree,Za]at ht;exact .fn f first cap fv cv h1 h2 (fun i a v ha hv=>ih1 i a v ha hv (trees_get ht.1 ha)) (fun i a v ha hv=>ih2 i a v ha hv (trees_get ht.2 ha))
 |agg cs vs h1 h2 ih=>exact fun ht=> .agg cs vs h1 (fun i a v ha hv=>ih i a v ha hv (trees_get (by simpa[AV.tree]using ht) ha))
 |tup cs vs h1 h2 ih=>exact fun ht=> .tup cs vs h1 (fun i a v ha hv=>ih i a v ha hv (trees_get (by simpa[AV.tree]using ht) ha))
 |ifc t a v _ ih=>exact fun ht=> .ifc t a v (ih (by simpa[AV.tree]using ht))
theorem VRs.tree{μ':Mu}:∀{l:List AV} {vs:List Value},VRs μ M l vs→AV.trees l=true→VRs μ' M l vs
 |[],vs,h,_=>⟨h.1,fun i a v ha=>by simp at ha⟩
 |a::l,[],h,_=>by have:=h.1;simp at this
 |a::l,v::vs,h,ht=>by
  simp only[AV.trees,Za]at ht;rw[VRs.cons_iff]at h ⊢;exact⟨h.1.tree ht.1,VRs.tree h.2 ht.2⟩
theorem alone_sim{m:Nat→List AV→AM AV}{c:Nat→List AV→Bool}(H:Yce P A m)(ht:∀f vs,c f vs=true→AV.trees vs=true):∀(B:Nat) (w0:Anchor) (f:Nat) (vs:List AV) (h:Ya) (n:Nat) (v:AV) (h':Ya) (n':Nat) (lg:Log) (μ:Mu) (M:Mem) (w:World) (args:Array Value),c f vs=true→
  B≤w0.w.heap.size→Yoa (m f vs) h n=some (v,h',n',lg)→SR B w0 μ M h w→GlobOK A M→VRs μ M vs args.toList→
  CallRes P f args w (Ended B w0 μ M n n' h' v):=by
 intro B w0 f vs h n v h' n' lg μ M w args hc hB e sr hg hargs;obtain⟨rfl,rfl,rfl,hv,h1,n1,l1,e1⟩:=Ycy e;let w1:Anchor:=⟨w,fun r=>w0.fs r∨∃id,h' id≠none∧μ id=some r,w⟩;have sr1:SR B w1 (fun _=>none) M (fun _=>none) w:=by
  refine⟨Below.refl _ _,sr.mem,by simp,by simp,by simp,fun r _=>⟨fun _ _=>rfl,fun _ _=>rfl,fun _ _ _ h=>h⟩,?_,by simp,?_,sr.clean,?_⟩
  ·rintro r (hr|⟨id,hid,hr⟩)
   ·exact sr.fsBlock r hr
   ·cases ho:h' id with
    |none=>exact absurd ho hid
    |some o=>
     obtain⟨r',a,b,c,d⟩:=sr.live id o ho;rw[hr]at a;cases a;exact c
  ·rintro r (hr|⟨id,hid,hr⟩) b o hm
   ·exact sr.fsMem r hr b o hm
   ·exact sr.memApart id r b o hid hr hm
  ·rintro r (hr|⟨id,hid,hr⟩) o ho
   ·exact sr.fsNow hr ho
   ·exact sr.liveNow hid hr ho
 have hBw:B≤w.heap.size:=Nat.le_trans hB sr.below.size;have g1:=H B w1 f vs (fun _=>none) 0 v h1 n1 l1 (fun _=>none) M w args hBw (fun _ _=>rfl) e1 sr1 hg (fun _ _ _=>rfl) (hargs.tree (ht f vs hc));refine g1.mono ?_;rintro e w' ⟨cv,μ',M',rfl,s1,_,s3,_,s5⟩;refine⟨cv,μ,M',rfl,?_,fun _ _ h=>h,s3,fun _ _=>rfl,s5.tree hv⟩;refine⟨sr.below.trans s1.below,s1.mem,?_,sr.apart,?_,?_,?_,sr.fsApart,fun r hr=>s1.fsMem r (.inl hr),s1.clean,sr.fsCell⟩
 ·intro id obj ho;obtain⟨r,a,b,c,d⟩:=sr.live id obj ho;exact⟨r,a,b,Nat.lt_of_lt_of_le c s1.below.size,(d.kept (s1.kept r (.inr ⟨id,by rw[ho];simp,a⟩))).mono (fun _ _ h=>h) s3⟩
 ·intro id r b o hid hr hm;exact s1.fsMem r (.inr ⟨id,hid,hr⟩) b o hm
 ·intro r hr;exact(sr.kept r hr).trans (s1.kept r (.inl hr))
 ·intro r hr;exact Nat.lt_of_lt_of_le (sr.fsBlock r hr) s1.below.size
theorem callN_sim(hm:P.follows .mixedOrders=true)(hok:Yp0 P=true)(hx:ExtOK P A):∀k,Yce P A (Xg P A k):=by
 intro k
 induction k with
 |zero=>intro B w0 f vs h n v h' n' lg μ M w args _ _ e;exact(Yc e).elim
 |succ k ih=>
  have H:=callO_sim hm hok hx k ih (fun g us=>Xa P A k g us);intro B w0 f vs h n v h' n' lg μ M w args hB hf e sr hg hfree hargs;unfold Xg at e;split at e
  ·rename_i hc;exact alone_sim (c:=fun f vs=>A.pure f&&AV.trees vs) H (fun f vs hc=>by simp only[Za]at hc;exact hc.2) B w0 f vs h n v h' n' lg μ M w args hc hB e sr hg hargs
  ·exact H B w0 f vs h n v h' n' lg μ M w args hB hf e sr hg hfree hargs
end
end Go.Abs
