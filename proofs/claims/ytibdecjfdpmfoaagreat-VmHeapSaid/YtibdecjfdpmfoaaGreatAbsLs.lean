import Derived.Test.YtibdecjfdpmfoaaGreatImEqL
section
open Go Go.Abs
namespace Go.Abs
open List hiding nil
variable {v:AV} {w:Bool} {c:Cl} {cs:List AV} {r:List SO} {d e m off s z:Nat} {dst n:Option Nat} {p:Prop} {k:SK} {x y:SX} {α:Type} {l:List α} {R:Ya→List AV→α→Prop}
section
variable {P:Program} {A:Ann} {f nt:Nat} {E:Env} {bx:List Nat} {h:Ya} {Q:AX→Env→List Nat→Ya→Prop} {S:List Nat} {cls:List Cl}
theorem Ya3(he:lk E e=some (.bool w))(H:Xe P A f nt S cls (⟨dst,none,k⟩::r) E bx h Q):Xe P A f nt S cls (⟨dst,some (e,w),k⟩::r) E bx h Q:=by
 intro ops l0 rg hl hs hS;obtain⟨o0,r0,rfl,h1,h2⟩:=Y7 hl;obtain⟨e1,e2,e3⟩:=Xn h1;rcases e3 with ⟨_,e3⟩|⟨j,w',e',g1,g2,g3⟩
 ·cases e3
 ·simp only[Zs,Zp]at g2;obtain⟨rfl,rfl⟩:=g2;have hw':Yy ops o0 rg=some true:=by
   unfold Yy;rw[g1];simp only[g3,hs e _ he];simp
  have hstep:∀call h n,Qd call P A f nt ops o0 ⟨rg,bx⟩ h n=Qd call P A f nt ops {o0 with guard:=none} ⟨rg,bx⟩ h n:=by
   intro call h n;unfold Qd;rw[hw'];rfl
  have hsl:Yjt P A f ops ({o0 with guard:=none}::r0)=some (⟨dst,none,k⟩::r):=by
   simp only[Yjt,slO,h2];simp only at e1 e2;rw[←e2,←e1]
  intro n hn;obtain⟨kk,fr1,h1',n1,lgs,q1,q2,q3⟩:=H ops _ rg hsl hs hS n hn;refine⟨kk,fr1,h1',n1,lgs,?_,q2,q3⟩;rw[←q1];unfold Xo;rw[hstep]
theorem x_skip(hw:∀ops o0 rg,Sat (lk E) rg→slO P A f ops o0=some ⟨dst,some (e,w),k⟩→Yy ops o0 rg=some false)(hd:Y8 nt dst=true)(H:Xe P A f nt S cls r (Qn dst E) bx h Q):Xe P A f nt S (c::cls) (⟨dst,some (e,w),k⟩::r) E bx h Q:=by
 intro ops l0 rg hl hs hS;obtain⟨o0,r0,rfl,h1,h2⟩:=Y7 hl;obtain⟨e1,e2,e3⟩:=Xn h1;have hw:=hw ops o0 rg hs h1;simp only at e1;have key:∃rg1,Sat (lk (Qn dst E)) rg1∧Yf3 nt o0 ⟨rg,bx⟩=some ⟨rg1,bx⟩:=by
  cases dst with
  |none=>exact⟨rg,hs,by unfold Yf3;rw[←e1]⟩
  |some d=>
   simp only[Y8,decide_eq_true_eq]at hd;exact⟨upd rg d .undef,hs.put d .undef,by unfold Yf3;rw[←e1];simp only[hd,if_true]⟩
 obtain⟨rg1,k1,k3⟩:=key;intro n hn;obtain⟨k2,fr2,h2',n2,lgs,q1,q2,q3⟩:=H ops r0 rg1 h2 k1 hS n hn;have hst:Qd (Xg P A k2) P A f nt ops o0 ⟨rg,bx⟩ h n=some (⟨rg1,bx⟩,h,n,([],[])):=by
  unfold Qd;rw[hw];show AM.lift (Yf3 nt o0 ⟨rg,bx⟩) h n=_;rw[k3];rfl
 refine⟨k2,fr2,h2',n2,(([],[]),n,n)::lgs,?_,?_,q3⟩
 ·unfold Xo;rw[hst];simp only;rw[q1]
 ·intro j x hx;cases j with
  |zero=>
   simp only[Zc,Zs]at hx;subst hx;exact⟨Zl _,c,rfl,by cases c<;>simp[Yr8]⟩
  |succ j=>
   obtain⟨a,c2,b1,b2⟩:=q2 j x (by simpa using hx);exact⟨a,c2,by simpa using b1,b2⟩
theorem Ki(he:lk E e=some (.bool (!w)))(hd:Y8 nt dst=true)(H:Xe P A f nt S cls r (Qn dst E) bx h Q):Xe P A f nt S (c::cls) (⟨dst,some (e,w),k⟩::r) E bx h Q:=
 x_skip (fun ops o0 rg hs h1=>by
  obtain⟨e1,e2,e3⟩:=Xn h1;rcases e3 with ⟨_,e3⟩|⟨j,w',e',g1,g2,g3⟩
  ·cases e3
  ·simp only[Zs,Zp]at g2;obtain⟨rfl,rfl⟩:=g2;unfold Yy;rw[g1];simp only[g3,hs e _ he];simp) hd H
theorem Ymj{e:Bool}(hlt:(decide (d<nt))=true)(hv:sv (lk E) k=some (p,.bool e))(hp:p)(H:∀b,b=e→Xe P A f nt S cls r ((d,.bool b)::E) bx h Q):Xe P A f nt S (.A::cls) (⟨some d,none,k⟩::r) E bx h Q:=
 x_v hlt hv hp (H e rfl)
theorem x_ldA{p:AV}(hlt:(decide (d<nt))=true)(hx:ev (lk E) x=some p)(hp:VPtr (Yv S h) p cs)(hv:LdV n cs v)
  (H:Xe P A f nt S cls r ((d,v)::E) bx h Q):Xe P A f nt S (.A::cls) (⟨some d,none,.ld x n⟩::r) E bx h Q:=
 x_A (R:=fun E' bx' h1=>E'=(d,v)::E∧bx'=bx∧h1=Yv S h) (Ji hlt hx hp hv (fun h=>absurd h (by omega)) (X8 ⟨rfl,rfl,rfl,rfl⟩)) (by
  rintro _ _ _ ⟨rfl,rfl,rfl⟩ _;rw[Ya8];exact H)
theorem Yfq{args:List SX}{g:Nat}{first cap vs:List AV}(hlt:(decide (d<nt))=true)(hx:ev (lk E) x=some (.fn g first cap))(ha:evS (lk E) args=some vs)
  (hc:Looks P A g (first++vs++cap) (Yv S h) v)(H:∀h',Ext h h'→Xe P A f nt S cls r ((d,v)::E) bx h' Q):Xe P A f nt S (.A::cls) (⟨some d,none,.call x args⟩::r) E bx h Q:=by
 refine x_A (R:=fun E' bx' h1=>E'=(d,v)::E∧bx'=bx∧Ext (Yv S h) h1) (Yb rfl (by simpa[Y8]using hlt) hx ha hc fun w k q=>?_) ?_
 ·obtain⟨rfl,q⟩:=q;exact X8 ⟨rfl,rfl,rfl,q⟩
 ·rintro _ _ h1 ⟨rfl,rfl,q⟩ hk;refine H _ fun id o e=>?_;unfold Jv;split
  ·exact e
  ·rename_i hc;exact q id o (by unfold Yv;rw[if_neg hc];exact e)
theorem x_lenA(hlt:(decide (d<nt))=true)(hx:ev (lk E) x=some v)(hv:Sl R s h v l)
  (H:Xe P A f nt S cls r ((d,.int .i64 l.length)::E) bx h Q):Xe P A f nt S (.A::cls) (⟨some d,none,.len x none⟩::r) E bx h Q:=by
 obtain⟨cs,h1,h2⟩:=hv;generalize l.length=n at *;cases h1 with
 |nil=>exact x_v (p:=True) hlt (by simp only[sv,hx];rfl) trivial H
 |tsl _ _ _=>exact x_v (p:=True) hlt (by simp only[sv,hx]) trivial H
 |sl id off _ os _ hid hc=>exact x_v (p:=True) hlt (by simp only[sv,hx]) trivial H
theorem Ypd(hlt:(decide (d<nt))=true)(hx:ev (lk E) x=some v)(hv:Sl R s h v l)
  (H:Xe P A f nt S cls r ((d,.int .i64 l.length)::E) bx h Q):Xe P A f nt S (.C::cls) (⟨some d,none,.len x none⟩::r) E bx h Q:=by
 obtain⟨cs,h1,h2⟩:=hv;generalize l.length=n at *;cases h1 with
 |nil=>exact x_vC (p:=True) rfl hlt (by simp only[sv,hx];rfl) trivial H
 |tsl _ _ _=>exact x_vC (p:=True) rfl hlt (by simp only[sv,hx]) trivial H
 |sl id off _ os _ hid hc=>exact x_vC (p:=True) rfl hlt (by simp only[sv,hx]) trivial H
theorem x_stE{id:Nat}{cs':List AV}(hd:Y8 nt dst=true)(hx:ev (lk E) x=some (.ptr id off))(hy:ev (lk E) y=some v)(hm:v.cells.length=m)(ho:v.cells.all AV.one=true)
  (hid:h id=some (.cells cs))(hS0:id∈S)(hs':Ql cs off v.cells=some cs')(H:Xe P A f nt S cls r (Qn dst E) bx (upd h id (some (.cells cs'))) Q):Xe P A f nt S (.E::cls) (⟨dst,none,.st x y m⟩::r) E bx h Q:=by
 intro ops l0 rg hl hs hS;obtain⟨o0,r0,rfl,h1,h2⟩:=Y7 hl;obtain⟨e1,e2,e3⟩:=Xn h1;have hg:o0.guard=none:=by
  rcases e3 with ⟨e,_⟩|⟨_,_,_,_,e,_⟩
  ·exact e
  ·cases e
 obtain⟨t,a,x0,hop,q1,q2,q3,hro⟩:=Xw (Yfa e2 rfl (by simp));have hput:∃rg1,Yh4 A f nt o0 .undef ⟨rg,bx⟩=some ⟨rg1,bx⟩∧Sat (lk (Qn dst E)) rg1:=by
  cases dst with
  |none=>exact⟨rg,Jx e1.symm hd (by rw[hop];rfl),hs⟩
  |some d=>exact⟨upd rg d .undef,Jx e1.symm hd (by rw[hop];rfl),hs.put d .undef⟩
 obtain⟨rg1,hp1,hs1⟩:=hput;refine Ym7 (by unfold Yy;rw[hg]) fun n hn=>?_;refine⟨0,.undef,upd h id (some (.cells cs')),n,([id],[id]),⟨rg1,bx⟩,?_,?_,hp1,?_⟩
 ·unfold opV;rw[hop];simp only[hro,Zf,if_false];simp only[opM,Yg hs q1 hx,Yg hs q2 hy,Yd,Yj,Ykb,q3,hm,if_true,Yaa];simp only[AM.bind,AM.get,AM.set,AM.pure,AM.lift,hid,ho,if_true,hs'];rfl
 ·intro i hi;have:i=id:=by simpa using hi
  rw[this];exact hS0
 ·exact H ops r0 _ h2 hs1 fun i hi=>by
   unfold upd;split
   ·simp
   ·exact hS i hi
theorem x_st1E{id:Nat}(hd:Y8 nt dst=true)(hx:ev (lk E) x=some (.ptr id off))(hy:ev (lk E) y=some v)(ho:v.one=true)
  (hid:h id=some (.cells cs))(hS0:id∈S)(hlt:off<cs.length)(H:Xe P A f nt S cls r (Qn dst E) bx (upd h id (some (.cells (cs.set off v)))) Q):Xe P A f nt S (.E::cls) (⟨dst,none,.st x y 1⟩::r) E bx h Q:=by
 have hc:v.cells=[v]:=by cases v<;>first|rfl|cases ho
 exact x_stE (v:=v) hd hx hy (by rw[hc];rfl) (by rw[hc];simp[ho]) hid hS0 (by rw[hc];exact Ya4 hlt) H
theorem x_as{w:AV}(hlt:(decide (d<nt))=true)(hv:sv (lk E) k=some (p,v))(hp:p)(he:v=w)(H:Xe P A f nt S cls r ((d,w)::E) bx h Q) :
  Xe P A f nt S (.A::cls) (⟨some d,none,k⟩::r) E bx h Q:=by subst he;exact x_v hlt hv hp H
theorem x_asC{w:AV}(hk:Yfg k=false)(hlt:(decide (d<nt))=true)(hv:sv (lk E) k=some (p,v))(hp:p)(he:v=w)(H:Xe P A f nt S cls r ((d,w)::E) bx h Q) :
  Xe P A f nt S (.C::cls) (⟨some d,none,k⟩::r) E bx h Q:=by subst he;exact x_vC hk hlt hv hp H
theorem x_mksC{b:Nat}{z:List AV}{m:Int}(hlt:(decide (d<nt))=true)(hx:ev (lk E) x=some (.int .i64 m))(hy:ev (lk E) y=some (.int .i64 m))(h0m:0≤m)(hbd:m*(b+1)≤2^40)
  (H:∀i,h i=none→Xe P A f nt S cls r ((d,.sl i 0 m.toNat s)::E) bx (upd h i (some (.cells (X6 z (m.toNat*s))))) Q):Xe P A f nt S (.C::cls) (⟨some d,none,.mks false z s b x y⟩::r) E bx h Q:=by
 intro ops l0 rg hl hs hS;obtain⟨o0,r0,rfl,h1,h2⟩:=Y7 hl;obtain⟨e1,e2,e3⟩:=Xn h1;have hg:o0.guard=none:=by
  rcases e3 with ⟨e,_⟩|⟨_,_,_,_,e,_⟩
  ·exact e
  ·cases e
 obtain⟨t,l0',c0,e',zz,hop,hx0,hy0,q1,q2,q3,q4,q5,q6,q7,q8,hro⟩:=Xw (Yfa e2 rfl (by simp));refine Ym7 (by unfold Yy;rw[hg]) fun n hn=>?_;have hi:=hn n (Zl _);refine⟨0,.sl n 0 m.toNat s,upd h n (some (.cells (X6 z (m.toNat*s)))),n+1,([],[]),_,?_,rfl,Jx e1.symm (by simpa[Y8]using hlt) (by rw[hop];rfl),?_⟩
 ·unfold opV;rw[hop];simp only[←hro,Zf,if_false,opM,Yg hs hx0 hx,Yg hs hy0 hy,Yd,Yj,Ya7,q1,q2,q3,q4,i64A];rw[if_pos ⟨trivial,h0m,hbd,q6,by rw[q5];exact q7,by rw[q5];exact q8⟩,q5];rfl
 ·exact H n hi ops r0 _ h2 (hs.put d _) (fun id hid=>by
   unfold upd;split
   ·simp
   ·exact hS id hid)
theorem x_ld1{os:List AV}(hlt:(decide (d<nt))=true)(hx:ev (lk E) x=some (.tptr os off))(hv:os[off]?=some v)
  (H:Xe P A f nt S cls r ((d,v)::E) bx h Q):Xe P A f nt S (.B::cls) (⟨some d,none,.ld x none⟩::r) E bx h Q:=by
 refine Yff hlt hx (.t os [v] off ?_) trivial (.one rfl) H;have hlt:=(Zi.1 hv).1;unfold Yp;rw[length_singleton,if_pos (by omega)]
 congr 1
 rw[drop_eq_getElem_cons hlt,(Zi.1 hv).2];rfl
theorem x_ldm{os l:List AV}(hlt:(decide (d<nt))=true)(hx:ev (lk E) x=some (.tptr os off))(hl:l.length=m)(hv:Yp os off m=some l)
  (H:Xe P A f nt S cls r ((d,.agg l)::E) bx h Q):Xe P A f nt S (.B::cls) (⟨some d,none,.ld x (some m)⟩::r) E bx h Q:=
 Yff hlt hx (.t os l off (by rw[hl];exact hv)) trivial (.many rfl hl) H
theorem x_ldF{p:AV}(hlt:(decide (d<nt))=true)(hx:ev (lk E) x=some p)(hp:VPtr h p cs)(hv:LdV n cs v)
  (H:Xe P A f nt S cls r ((d,v)::E) bx h Q):Xe P A f nt S (.F::cls) (⟨some d,none,.ld x n⟩::r) E bx h Q:=by
 intro ops l0 rg hl hs hS;obtain⟨o0,r0,rfl,h1,h2⟩:=Y7 hl;obtain⟨e1,e2,e3⟩:=Xn h1;obtain⟨t,x0,hop,q1,q2,hro⟩:=Ybz e2;have hg:o0.guard=none:=by
  rcases e3 with ⟨e,_⟩|⟨_,_,_,_,e,_⟩
  ·exact e
  ·cases e
 intro m hn;have hpl:Yh4 A f nt o0 v ⟨rg,bx⟩=some ⟨upd rg d v,bx⟩:=Qw e1.symm (by simpa using hlt) (fun hb=>by rw[hop]at hb;simp[Ycs]at hb);have hld:∃rd,Kq P t p h m=some (v,h,m,(rd,[])):=by
  cases hv with
  |one e=>
   subst e;rcases Xz q2 with ⟨_,e,_,_⟩|⟨_,g1,k,g2⟩
   ·cases e
   cases hp with
   |t os _ off hc=>
    refine⟨[],?_⟩;have hc:Yp os off 1=some [v]:=hc;simp only[Kq,g1,g2,AM.bind,AM.lift,AM.pure,Xt,Zf,if_false,hc,X9];rfl
   |p id off os _ hid hc=>
    refine⟨[id],?_⟩;have hc:Yp os off 1=some [v]:=hc;simp only[Kq,g1,g2,AM.bind,AM.lift,AM.pure,Xt,AM.get,hid,Zf,if_false,hc,X9];rfl
  |@many _ dd k e hk=>
   subst e;rcases Xz q2 with ⟨_,e,g1,g2⟩|⟨e,_⟩
   ·cases e;cases hp with
    |t os _ off hc=>
     refine⟨[],?_⟩;rw[hk]at hc;simp only[Kq,g1,g2,AM.bind,AM.lift,AM.pure,Xt,if_true,hc,X9];rfl
    |p id off os _ hid hc=>
     refine⟨[id],?_⟩;rw[hk]at hc;simp only[Kq,g1,g2,AM.bind,AM.lift,AM.pure,Xt,AM.get,hid,if_true,hc,X9];rfl
   ·cases e
 obtain⟨rd,hld⟩:=hld;obtain⟨k,fr3,h3,n3,lgs3,e4,hd,qq⟩:=H ops r0 _ h2 (hs.put d v) hS m hn;have hst:Qd (Xg P A k) P A f nt ops o0 ⟨rg,bx⟩ h m=some (⟨upd rg d v,bx⟩,h,m,(rd,[])):=by
  unfold Qd;have hw:Yy ops o0 rg=some true:=by unfold Yy;rw[hg]
  simp only[hw];unfold opV;rw[hop];simp only[hro,Zf,if_false,opM,Yg hs q1 hx];unfold AM.bind;simp only[AM.lift,AM.pure,hld,hpl];simp
 refine⟨k,fr3,h3,n3,((rd,[]),m,m)::lgs3,?_,?_,qq⟩
 ·unfold Xo;rw[hst];simp only;rw[e4]
 ·intro j y hy;cases j with
  |zero=>
   simp only[Zc,Zs]at hy;subst hy;exact⟨Zl _,.F,rfl,rfl,rfl⟩
  |succ j=>
   obtain⟨a,c,b1,b2⟩:=hd j y (by simpa using hy);exact⟨a,c,by simpa using b1,b2⟩
theorem x_iaK{i:SX}{k:IntKind}(hlt:(decide (d<nt))=true)(hx:ev (lk E) x=some v)(hi:ev (lk E) i=some (.int k (z:Int)))(hv:Sl R s (Yv S h) v l)(hz:z<l.length)
  (H:∀p c,VPtr (Yv S h) p c→R (Yv S h) c l[z]→c.length=s→Xe P A f nt S cls r ((d,p)::E) bx h Q):Xe P A f nt S (.A::cls) (⟨some d,none,.ia x i none s⟩::r) E bx h Q:=
 x_A (R:=fun E' bx' h1=>∃p c,VPtr (Yv S h) p c∧R (Yv S h) c l[z]∧c.length=s∧E'=(d,p)::E∧bx'=bx∧h1=Yv S h) (Qg hlt hx hi hv hz fun p c h1 h2 h3=>X8 ⟨rfl,p,c,h1,h2,h3,rfl,rfl,rfl⟩) (by
  rintro _ _ _ ⟨p,c,h1,h2,h3,rfl,rfl,rfl⟩ _;rw[Ya8];exact H p c h1 h2 h3)
theorem x_iaGK{g:Ya}{i:SX}{k:IntKind}(hlt:(decide (d<nt))=true)(hx:ev (lk E) x=some v)(hi:ev (lk E) i=some (.int k (z:Int)))(hg:Ext g (Yv S h))(hv:Sl R s g v l)(hz:z<l.length)
  (H:∀p c,VPtr (Yv S h) p c→R g c l[z]→c.length=s→Xe P A f nt S cls r ((d,p)::E) bx h Q):Xe P A f nt S (.A::cls) (⟨some d,none,.ia x i none s⟩::r) E bx h Q:=
 x_A (R:=fun E' bx' h1=>∃p c,VPtr (Yv S h) p c∧R g c l[z]∧c.length=s∧E'=(d,p)::E∧bx'=bx∧h1=Yv S h) (Yjw hlt hx hi hg hv hz fun p c h1 h2 h3=>X8 ⟨rfl,p,c,h1,h2,h3,rfl,rfl,rfl⟩) (by
  rintro _ _ _ ⟨p,c,h1,h2,h3,rfl,rfl,rfl⟩ _;rw[Ya8];exact H p c h1 h2 h3)
theorem x_faK{p:AV}(t:List AV)(hlt:(decide (d<nt))=true)(hx:ev (lk E) x=some p)(hp:VPtr (Yv S h) p cs)(ht:Yp cs m t.length=some t)
  (H:∀p,VPtr (Yv S h) p t→Xe P A f nt S cls r ((d,p)::E) bx h Q):Xe P A f nt S (.A::cls) (⟨some d,none,.fa x m⟩::r) E bx h Q:=
 x_A (R:=fun E' bx' h1=>∃p,VPtr (Yv S h) p t∧E'=(d,p)::E∧bx'=bx∧h1=Yv S h) (Yjx t hlt hx hp ht fun p h1=>X8 ⟨rfl,p,h1,rfl,rfl,rfl⟩) (by
  rintro _ _ _ ⟨p,h1,rfl,rfl,rfl⟩ _;rw[Ya8];exact H p h1)
end
end Go.Abs
end
section
namespace Go.Abs
open List hiding cons nil
variable {o:AObj} {v:AV} {Q Q1:AV→Ya→Prop} {A:Ann} {L:List (Nat×AObj)} {cs vs:List AV} {S:List Nat} {l r:List SO} {args:List SX} {d g i id n off q s:Nat} {dst:Option Nat} {P:Program} {p:Prop} {x y:SX} {h h0 hb:Ya}
theorem upd_swap{j:Nat}{a b:Option AObj}(hij:i≠j):upd (upd h i a) j b=upd (upd h j b) i a:=by
 funext k;unfold upd;by_cases h1:k=j
 ·subst h1;simp[Ne.symm hij]
 ·simp[h1]
theorem hset_in{hb:Ya}{i:Nat}{o:AObj}:∀{L:List (Nat×AObj)},hset hb L i=none→hset (upd hb i (some o)) L=upd (hset hb L) i (some o)∧(Dis hb L→Dis (upd hb i (some o)) L)
 |[],_=>⟨rfl,fun _=>trivial⟩
 |(j,p)::L,h=>by
  have hij:i≠j:=fun e=>by
   subst e;rw[show hset hb ((i,p)::L) i=some p from upd_same]at h;cases h
  have h2:hset hb L i=none:=by rwa[show hset hb ((j,p)::L) i=hset hb L i from Ys hij]at h
  obtain⟨e1,e2⟩:=hset_in (o:=o) h2;refine⟨?_,fun hD=>⟨?_,e2 hD.2⟩⟩
  ·show upd (hset (upd hb i (some o)) L) j (some p)=upd (upd (hset hb L) j (some p)) i (some o);rw[e1,upd_swap hij]
  ·rw[e1,Ys (Ne.symm hij)];exact hD.1
theorem Yje:∀{L:List (Nat×AObj)},hset hb L i=none→hb i=none
 |[],h=>h
 |(j,p)::L,h=>by
  by_cases hij:i=j
  ·subst hij;rw[show hset hb ((i,p)::L) i=some p from upd_same]at h;cases h
  ·exact Yje (L:=L) (by rwa[show hset hb ((j,p)::L) i=hset hb L i from Ys hij]at h)
section
variable {P:Program} {A:Ann} {f nt:Nat} {E:Env} {bx:List Nat} {G:Ya} {L:List (Nat×AObj)} {Q:AX→Env→List Nat→Ya→Prop} {h0:Ya} {q:Nat}
theorem Ydw{z:List AV}{ps:List (Nat×Nat×SX)}(hD:Dis G L)(hlt:(decide (d<nt))=true)(hf:Ybt (lk E) z ps=some cs)(ho:cs.all AV.one=true)
  (H:∀i,G i=none→Dis (upd G i (some (.cells cs))) L→Yu P A f nt h0 (q-1) r ((d,.sl i 0 n s)::E) bx (hset (upd G i (some (.cells cs))) L) Q):Yu P A f nt h0 q (⟨some d,none,.hbs z s n ps⟩::r) E bx (hset G L) Q:=
 Ync hlt hf ho fun i hi=>by
  obtain⟨e1,e2⟩:=hset_in (o:= .cells cs) hi;rw[←e1];exact H i (Yje hi) (e2 hD)
end
theorem tA{q:Prop}(x:q)(h:q→p:=by intro x;(repeat (first
 |((with_reducible apply Ym9);exact rfl;exact rfl;exact rfl;exact trivial)
 |(with_reducible first|apply K5|apply Yf5|apply Yci|apply Ybg|apply Yf6|apply Ylf|apply X8|apply X0|apply Yau|apply Yc0|apply Yc7|apply Yax|apply Yc6|apply Yav|apply Yc1|apply Jl|apply Yaw|apply jqB_exit|apply Ydh|apply jq_exit|apply Ygj)
 |((with_reducible apply Ybf);exact rfl)|((with_reducible apply Yb6);exact rfl)|((with_reducible apply Yay);exact rfl;exact rfl)|((with_reducible apply Ydd);exact rfl;exact rfl)|((with_reducible apply Ydc);exact rfl;exact rfl)|((with_reducible apply Ybw);exact rfl)));exact x):p:=h x
theorem Kz:∀{L:List (Nat×AObj)} {id:Nat},id∉L.map Prod.fst→hset hb L id=hb id
 |[],_,_=>rfl
 |(i,o)::L,id,h=>by
  simp only[map_cons,mem_cons,not_or]at h;simp only[hset,upd,if_neg h.1,Kz h.2]
theorem Yqc{o:Option AObj}:∀{L:List (Nat×AObj)},i∉L.map Prod.fst→hset (upd hb i o) L=upd (hset hb L) i o
 |[],_=>rfl
 |(j,_)::L,h=>by
  simp only[map_cons,mem_cons,not_or]at h;simp only[hset,Yqc h.2];rw[upd_comm h.1]
theorem Ybo:∀{L:List (Nat×AObj)},Dis hb L→∀id∈L.map Prod.fst,hb id=none
 |[],_,_,h=>by cases h
 |(i,o)::L,hD,id,h=>by
  rcases mem_cons.1 h with rfl|h
  ·exact Yje hD.1
  ·exact Ybo hD.2 id h
theorem Yap:∀{L:List (Nat×AObj)},Dis hb L→(L.map Prod.fst).Nodup
 |[],_=>nodup_nil
 |(i,o)::L,hD=>by
  refine nodup_cons.2 ⟨fun h=>?_,Yap hD.2⟩;obtain⟨⟨j,o'⟩,hj,rfl⟩:=mem_map.1 h;obtain⟨k,hk⟩:=mem_iff_getElem?.1 hj;have:=Xp hD.2 hk;rw[hD.1]at this;cases this
theorem Yk0:∀{L:List (Nat×AObj)},(L.map Prod.fst).Nodup→(∀id∈L.map Prod.fst,hb id=none)→Dis hb L
 |[],_,_=>trivial
 |(i,o)::L,hN,h=>by
  have hN:=nodup_cons.1 hN;exact⟨by rw[Kz hN.1];exact h i (.head _),Yk0 hN.2 fun id hid=>h id (.tail _ hid)⟩
theorem Yk(hD:Dis hb L)(h:(id,o)∈L):hset hb L id=some o:=by
 obtain⟨k,hk⟩:=mem_iff_getElem?.1 h;exact Xp hD hk
theorem X5{L':List (Nat×AObj)}(p:L.Perm L')(hD:Dis hb L):hset hb L=hset hb L'∧Dis hb L':=by
 have hD':Dis hb L':=Yk0 ((p.map _).nodup (Yap hD)) fun id hid=>Ybo hD id ((p.map _).mem_iff.2 hid);refine⟨funext fun id=>?_,hD'⟩;by_cases h:id∈L.map Prod.fst
 ·obtain⟨⟨j,o⟩,hj,rfl⟩:=mem_map.1 h;rw[Yk hD hj,Yk hD' (p.mem_iff.1 hj)]
 ·rw[Kz h,Kz fun h'=>h ((p.map _).mem_iff.2 h')]
theorem Kw(hD:Dis hb L):Yv (L.map Prod.fst) (hset hb L)=hb:=by
 funext id;unfold Yv;by_cases h:id∈L.map Prod.fst
 ·rw[if_pos (by simpa using h),Ybo hD id h]
 ·rw[if_neg (by simpa using h),Kz h]
theorem Yno{G:Ya}:Jv (L.map Prod.fst) (hset h L) G=hset G L:=by
 funext id;unfold Jv;by_cases e:id∈L.map Prod.fst
 ·rw[if_pos (by simpa using e)]
  induction L with
  |nil=>cases e
  |cons x L ih=>
   obtain⟨i,o⟩:=x;simp only[hset,upd];by_cases hi:id=i
   ·rw[if_pos hi,if_pos hi]
   ·rw[if_neg hi,if_neg hi];exact ih (by rcases mem_cons.1 e with h|h;exact absurd h hi;exact h)
 ·rw[if_neg (by simpa using e),Kz e]
theorem dis_set{k:Nat}{o':AObj}(_hD:Dis hb L)(h:L[k]?=some (id,o)):(L.set k (id,o')).map Prod.fst=L.map Prod.fst:=by
 apply ext_getElem?;intro n;simp only[getElem?_map,getElem?_set];split
 ·rename_i e;subst e;rw[h];split
  ·rfl
  ·rename_i hlt;rw[getElem?_eq_none (by omega)]at h;cases h
 ·rfl
theorem HCallC.frame(hS:∀id∈S,h id≠none)(H:HCallC P A g vs (Yv S h) Q):HCallC P A g vs h fun v h'=>∃h1,Q v h1∧(∀id∈S,h1 id=none)∧h'=Jv S h h1:=by
 intro n hn;have hlt:∀id∈S,id<n:=fun id hid=>by
  rcases Nat.lt_or_ge id n with hlt|hge
  ·exact hlt
  ·exact absurd (hn id hge) (hS id hid)
 have hfr:Qt (Yv S h) n:=fun id hid=>by
  unfold Yv;split
  ·rfl
  ·exact hn id hid
 obtain⟨k,v,h2,n2,lg,e,q⟩:=H n hfr;obtain⟨st,loc⟩:=Xa P A k g vs _ n _ _ _ _ hfr e;have hout:∀id,id∈lg.1∨id∈lg.2→id∉S:=by
  intro id hid hc;refine st.live id hid (hlt id hc) ?_;unfold Yv;rw[if_pos (by simpa using hc)]
 have key:=loc h (fun id hid=>by
  have:id∉S:=by
   rcases hid with hid|hid|hid
   ·exact hout id (.inl hid)
   ·exact hout id (.inr hid)
   ·intro hc;have:=hlt id hc;omega
  unfold Yv;rw[if_neg (by simpa using this)])
 have hov:Yda h h2 n n2 lg.2=Jv S h h2:=by
  funext id;unfold Yda Jv;by_cases hc:id∈S
  ·have c1:id∉lg.2:=fun hid=>hout id (.inr hid) hc;have:=hlt id hc;rw[if_neg (by intro hx;rcases hx with hx|hx;exact c1 hx;omega),if_pos (by simpa using hc)]
  ·rw[if_neg (c:=S.contains id=true) (by simpa using hc)];split
   ·rfl
   ·rename_i hx;simp only[not_or]at hx;rw[st.same id hx.1 hx.2];unfold Yv;rw[if_neg (by simpa using hc)]
 rw[hov]at key;refine⟨k,v,_,n2,lg,key,h2,q,fun id hid=>?_,rfl⟩;rw[st.same id (fun hx=>hout id (.inr hx) hid) (by have:=hlt id hid;omega)];unfold Yv;rw[if_pos (by simpa using hid)]
theorem HCallC.beside(hD:Dis hb L)(H:HCallC P A g vs hb Q):HCallC P A g vs (hset hb L) fun v h'=>∃h1,Q v h1∧Dis h1 L∧h'=hset h1 L:=by
 refine(HCallC.frame (S:=L.map Prod.fst) (fun id hid=>?_) (by rw[Kw hD];exact H)).mono ?_
 ·obtain⟨⟨j,o⟩,hj,rfl⟩:=mem_map.1 hid;obtain⟨k,hk⟩:=mem_iff_getElem?.1 hj;rw[Xp hD hk];simp
 ·rintro v _ ⟨h1,q,hn,rfl⟩;exact⟨h1,q,Yk0 (Yap hD) hn,Yno⟩
section
variable {P:Program} {A:Ann} {f nt:Nat} {E:Env} {bx:List Nat} {hb:Ya} {L:List (Nat×AObj)} {Q:AX→Env→List Nat→Ya→Prop} {cls:List Cl}
theorem Ymv{ps:List (Nat×Nat)}(cls:List Cl)(hD:Dis hb L)(H:Xe P A f nt (L.map Prod.fst) cls l E bx (hset hb L) Q)(hps:ps.all (fun p=>match cls[p.1]?,cls[p.2]? with|some a,some b=>okCl a b|_,_=>false)=true:=by rfl):Yb5 P A f nt (.reg ps l) E bx (hset hb L) Q:=by
 refine Ybe (L.map Prod.fst) cls (fun id hid=>?_) hps H;obtain⟨⟨j,o⟩,hj,rfl⟩:=mem_map.1 hid;obtain⟨k,hk⟩:=mem_iff_getElem?.1 hj;rw[Xp hD hk];simp
theorem x_AL{o:SO}{R:Env→List Nat→Ya→Prop}(hD:Dis hb L)(H1:Yu P A f nt hb 0 [o] E bx hb fun x E' bx' h1=>x= .norm∧R E' bx' h1)
  (H2:∀E' bx' h1,R E' bx' h1→Dis h1 L→Xe P A f nt (L.map Prod.fst) cls l E' bx' (hset h1 L) Q):Xe P A f nt (L.map Prod.fst) (.A::cls) (o::l) E bx (hset hb L) Q:=by
 refine x_A (R:=R) (by rw[Kw hD];exact H1) fun E' bx' h1 hR hn=>?_;rw[Yno];exact H2 E' bx' h1 hR (Yk0 (Yap hD) hn)
theorem x_callL{first cap:List AV}(hD:Dis hb L)(hlt:(decide (d<nt))=true)(hx:ev (lk E) x=some (.fn g first cap))(ha:evS (lk E) args=some vs)
  (hc:HCallC P A g (first++vs++cap) hb Q1)(H:∀v h1,Q1 v h1→Dis h1 L→Xe P A f nt (L.map Prod.fst) cls r ((d,v)::E) bx (hset h1 L) Q):Xe P A f nt (L.map Prod.fst) (.A::cls) (⟨some d,none,.call x args⟩::r) E bx (hset hb L) Q:=by
 refine x_AL (R:=fun E' bx' h1=>∃v,E'=(d,v)::E∧bx'=bx∧Q1 v h1) hD (Yb rfl (by simpa[Y8]using hlt) hx ha hc fun w k q=>X8 ⟨rfl,w,rfl,rfl,q⟩) ?_;rintro _ _ h1 ⟨v,rfl,rfl,q⟩ hD';exact H v h1 q hD'
theorem Yqz(k:Nat)(hD:Dis hb L)(hlt:(decide (d<nt))=true)(hx:ev (lk E) x=some (.ptr id off))(hk:L[k]?=some (id,.cells cs))(hv:cs[off]?=some v)
  (H:Xe P A f nt (L.map Prod.fst) cls r ((d,v)::E) bx (hset hb L) Q):Xe P A f nt (L.map Prod.fst) (.B::cls) (⟨some d,none,.ld x none⟩::r) E bx (hset hb L) Q:=
 x_ld hlt hx (Xp hD hk) (mem_map.2 ⟨_,mem_iff_getElem?.2 ⟨k,hk⟩,rfl⟩) hv H
theorem x_ldnL{m:Nat}{l:List AV}(k:Nat)(hD:Dis hb L)(hlt:(decide (d<nt))=true)(hx:ev (lk E) x=some (.ptr id off))(hk:L[k]?=some (id,.cells cs))(hv:Yp cs off m=some l)
  (H:Xe P A f nt (L.map Prod.fst) cls r ((d,.agg l)::E) bx (hset hb L) Q):Xe P A f nt (L.map Prod.fst) (.B::cls) (⟨some d,none,.ld x (some m)⟩::r) E bx (hset hb L) Q:=
 Yff (v:= .agg l) hlt hx (.p id off cs l (Xp hD hk) (by rw[(Yfs hv).1];exact hv)) (mem_map.2 ⟨_,mem_iff_getElem?.2 ⟨k,hk⟩,rfl⟩) (.many rfl (Yfs hv).1) H
theorem x_stL{m:Nat}{cs':List AV}(k:Nat)(hD:Dis hb L)(hd:Y8 nt dst=true)(hx:ev (lk E) x=some (.ptr id off))(hk:L[k]?=some (id,.cells cs))(hy:ev (lk E) y=some v)(hm:v.cells.length=m)(ho:v.cells.all AV.one=true)
  (hs':Ql cs off v.cells=some cs')(H:Dis hb (L.set k (id,.cells cs'))→Xe P A f nt ((L.set k (id,.cells cs')).map Prod.fst) cls r (Qn dst E) bx (hset hb (L.set k (id,.cells cs'))) Q):Xe P A f nt (L.map Prod.fst) (.D::cls) (⟨dst,none,.st x y m⟩::r) E bx (hset hb L) Q:=by
 obtain⟨e1,e2⟩:=Ygl (o':= .cells cs') hD hk;have e3:=dis_set (o':= .cells cs') hD hk;refine x_D (R:=fun E' bx' k'=>E'=Qn dst E∧bx'=bx∧k'=upd (hset hb L) id (some (.cells cs'))) (Ybr rfl hd hx hy hm ho (Xp hD hk) hs' (X8 ⟨rfl,rfl,rfl,rfl⟩)) ?_;rintro _ _ _ ⟨rfl,rfl,rfl⟩;rw[e1,←e3];refine⟨fun i hi=>?_,H e2⟩;obtain⟨⟨j,o⟩,hj,rfl⟩:=mem_map.1 hi;obtain⟨n,hn⟩:=mem_iff_getElem?.1 hj;rw[Xp e2 hn];simp
theorem Yj9(k:Nat)(hD:Dis hb L)(hd:Y8 nt dst=true)(hx:ev (lk E) x=some (.ptr id off))(hk:L[k]?=some (id,.cells cs))(hy:ev (lk E) y=some v)(ho:v.one=true)
  (hlt:off<cs.length)(H:Dis hb (L.set k (id,.cells (cs.set off v)))→Xe P A f nt ((L.set k (id,.cells (cs.set off v))).map Prod.fst) cls r (Qn dst E) bx (hset hb (L.set k (id,.cells (cs.set off v)))) Q):Xe P A f nt (L.map Prod.fst) (.D::cls) (⟨dst,none,.st x y 1⟩::r) E bx (hset hb L) Q:=by
 have hc:v.cells=[v]:=by cases v<;>first|rfl|cases ho
 exact x_stL (v:=v) k hD hd hx hk hy (by rw[hc];rfl) (by rw[hc];simp[ho]) (by rw[hc];exact Ya4 hlt) H
theorem Yr(hD:Dis hb L):Ext hb (hset hb L):=fun id o e=>by
 rw[Kz fun h=>by rw[Ybo hD id h]at e;cases e];exact e
theorem OSl.ones(H:OSl hb s v cs n h):v.one=true:=by
 rcases H.own with ⟨rfl,_⟩|⟨_,rfl,_⟩<;>rfl
theorem OSl.upE{h':Ya}(H:OSl hb s v cs n h)(hx:Ext h h'):OSl hb s v cs n h':=
 ⟨H.ext.trans hx,H.own.imp id fun⟨i,h1,h2,h3,h4⟩=>⟨i,h1,h2,hx _ _ h3,h4⟩⟩
theorem Yna(k:Nat)(hD:Dis hb L)(hq:q=0)(hd:Y8 nt dst=true)(hx:ev (lk E) x=some (.ptr id off))(hk:L[k]?=some (id,.cells cs))(hy:ev (lk E) y=some v)(ho:v.one=true)
  (hlt:off<cs.length)(H:Dis hb (L.set k (id,.cells (cs.set off v)))→Yu P A f nt h0 0 r (Qn dst E) bx (hset hb (L.set k (id,.cells (cs.set off v)))) Q):Yu P A f nt h0 q (⟨dst,none,.st x y 1⟩::r) E bx (hset hb L) Q:=by
 have hc:v.cells=[v]:=by cases v<;>first|rfl|cases ho
 exact Ju (v:=v) k hD hq hd hx hk hy (by rw[hc];rfl) (by rw[hc];simp[ho]) (by rw[hc];exact Ya4 hlt) H
theorem Q5{first cap:List AV}(hD:Dis hb L)(hq:q=0)(hd:Y8 nt dst=true)(hx:ev (lk E) x=some (.fn g first cap))(ha:evS (lk E) args=some vs)
  (hc:HCallC P A g (first++vs++cap) hb Q1)(H:∀v h1,Q1 v h1→Dis h1 L→Yu P A f nt h0 0 r (Ysa dst v E) bx (hset h1 L) Q):Yu P A f nt h0 q (⟨dst,none,.call x args⟩::r) E bx (hset hb L) Q:=
 Yb hq hd hx ha (hc.beside hD) fun v h' ⟨h1,q,hD',e⟩=>by subst e;exact H v h1 q hD'
theorem Ype{g:Ya}{b:Nat}{vx vy:AV}{old new:List AV}{l:Nat}(hD:Dis hb L)(hlt:(decide (d<nt))=true)(hx:ev (lk E) x=some vx)(hy:ev (lk E) y=some vy)(H0:OSl g s vx old l hb)(hsrc:Yaf s hb vy=some (new,n))
  (hlen:new.length=n*s)(hone:new.all AV.one=true)(hbd:(l+n)*(b+1)≤2^44)(H:∀v h1,OSl (Ya0 hb vx) s v (old++new) (l+n) h1→Ext g (Ya0 hb vx)→Dis h1 L→Xe P A f nt (L.map Prod.fst) cls r ((d,v)::E) bx (hset h1 L) Q):Xe P A f nt (L.map Prod.fst) (.A::cls) (⟨some d,none,.app s b x y⟩::r) E bx (hset hb L) Q:=by
 obtain⟨g1,g2⟩:=H0.has;refine x_AL (R:=fun E' bx' h1=>∃v,E'=(d,v)::E∧bx'=bx∧OSl (Ya0 hb vx) s v (old++new) (l+n) h1) hD
  (o_app hlt hx hy g1 hsrc hlen hone hbd (.inl rfl) (fun h=>by omega) fun v h1 hv=>X8 ⟨rfl,v,rfl,rfl,.of_has hv .refl⟩) ?_
 rintro _ _ h1 ⟨v,rfl,rfl,q⟩ hD';exact H v h1 q g2 hD'
theorem x_vM{k:SK}(_hk:reckK k=true)(hlt:(decide (d<nt))=true)(hv:sv (lk E) k=some (p,v))(hp:p)(H:Xe P A f nt S cls r ((d,v)::E) bx h Q):Xe P A f nt S (.A::cls) (⟨some d,none,k⟩::r) E bx h Q:=x_v hlt hv hp H
theorem tZ{q:Prop}(x:q)(h:q→p:=by intro x;(repeat (first
 |((with_reducible apply x_vM);exact rfl;exact rfl;exact rfl;exact trivial)
 |((with_reducible apply Ya3);exact rfl)|((with_reducible apply Ki);exact rfl;exact rfl)|((with_reducible apply x_gU);exact rfl;exact rfl)|(with_reducible apply Yba)));exact x):p:=h x
end
end Go.Abs
end
