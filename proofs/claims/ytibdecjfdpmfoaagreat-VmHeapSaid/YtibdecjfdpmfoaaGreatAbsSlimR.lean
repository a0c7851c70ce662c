import Derived.Test.YtibdecjfdpmfoaaGreatAbsSlimX
namespace Go.Abs
open List hiding cons nil
variable {v:AV} {ops:Array Oper} {ro:Bool} {l:List ResultVar} {r:List SO} {d i q:Nat} {rg:Nat→AV} {op:Op} {o:Oper} {p:Prop} {b:SC} {k:SK} {x:SX} {h0:Ya}
section
variable (P:Program) (A:Ann) (f nt:Nat)
def cq (Q:AX→Env→List Nat→Ya→Prop):AX→Fr→Ya→Prop:=fun x fr h=>∃E,Sat (lk E) fr.regs∧Q x E fr.boxes h
def Yb5 (c:SC) (E:Env) (bx:List Nat) (h:Ya) (Q:AX→Env→List Nat→Ya→Prop):Prop:=
 ∀c0 rg,slC P A f c0=some c→Sat (lk E) rg→Runs P A f nt c0 ⟨rg,bx⟩ h (cq Q)
def Yu (h0:Ya) (q:Nat) (l:List SO) (E:Env) (bx:List Nat) (h:Ya) (Q:AX→Env→List Nat→Ya→Prop):Prop:=
 ∀ops l0 rg,Yjt P A f ops l0=some l→Sat (lk E) rg→Ops P A f nt ops h0 q l0 ⟨rg,bx⟩ h (rq (cq Q))
def ssq (b:SC) (Q:AX→Env→List Nat→Ya→Prop):AX→Env→List Nat→Ya→Prop:=fun x E bx h=>match x with
 |.norm=>Yb5 P A f nt b E bx h Q
 |e=>Q e E bx h
def sbq (id:Nat) (Q:AX→Env→List Nat→Ya→Prop):AX→Env→List Nat→Ya→Prop:=fun x E bx h=>Q (if x= .exit id then .norm else x) E bx h
def Sub (E' E:Env):Prop:=∀t v,lk E' t=some v→lk E t=some v
def slq {σ:Type} (env:σ→Env) (H:σ→Ya→Prop) (m:σ→Nat) (s:σ) (bx0:List Nat) (Q:AX→Env→List Nat→Ya→Prop):AX→Env→List Nat→Ya→Prop:=fun x E bx h=>match x with
 |.norm=>∃s',m s'<m s∧Sub (env s') E∧bx=bx0∧H s' h
 |e=>Q e E bx h
end
theorem Ybd{P:Program}{A:Ann}{f:Nat}{c0:Code}{c:SC}(hc:slC P A f c0=some c):match c with
  |.skip=>c0= .skip
  |.reg ps l=>∃i ops dr,c0= .region i ops dr∧Yjt P A f ops ops.toList=some l∧(if dr then Yi4 A f ops else [])=ps
  |.seq a b=>∃a0 b0,c0= .seq a0 b0∧slC P A f a0=some a∧slC P A f b0=some b
  |.cond x a b=>∃x0 a0 b0,c0= .cond x0 a0 b0∧slX A x0=some x∧slC P A f a0=some a∧slC P A f b0=some b
  |.block id b=>∃b0,c0= .block id b0∧slC P A f b0=some b
  |.loop b=>∃b0,c0= .loop b0∧slC P A f b0=some b
  |.exit id=>c0= .exit id
  |.ret=>c0= .ret:=by
 cases c0 with
 |skip=>simp only[slC,Zs]at hc;subst hc;rfl
 |region i ops dr=>obtain⟨l,h1,rfl⟩:=Ya5 hc;exact⟨i,ops,dr,rfl,h1,rfl⟩
 |seq a b=>
  simp only[slC]at hc;split at hc
  ·rename_i a' b' h1 h2;simp only[Zs]at hc;subst hc;exact⟨a,b,rfl,h1,h2⟩
  ·cases hc
 |cond x a b=>
  simp only[slC]at hc;split at hc
  ·rename_i x' a' b' h0 h1 h2;simp only[Zs]at hc;subst hc;exact⟨x,a,b,rfl,h0,h1,h2⟩
  ·cases hc
 |block i b=>obtain⟨l,h1,rfl⟩:=Ya5 hc;exact⟨b,rfl,h1⟩
 |loop b=>obtain⟨l,h1,rfl⟩:=Ya5 hc;exact⟨b,rfl,h1⟩
 |exit i=>simp only[slC,Zs]at hc;subst hc;rfl
 |ret=>simp only[slC,Zs]at hc;subst hc;rfl
 |_=>simp[slC]at hc
section
variable {P:Program} {A:Ann} {f nt:Nat} {E:Env} {bx:List Nat} {h:Ya} {Q:AX→Env→List Nat→Ya→Prop}
theorem Yci(H:Q .norm E bx h):Yb5 P A f nt .skip E bx h Q:=by
 intro c0 rg hc hs;obtain rfl:c0= .skip:=Ybd hc;exact go_skip ⟨E,hs,H⟩
theorem Yf6(H:Q (.exit i) E bx h):Yb5 P A f nt (.exit i) E bx h Q:=by
 intro c0 rg hc hs;obtain rfl:c0= .exit i:=Ybd hc;exact go_exit ⟨E,hs,H⟩
theorem Ylf(H:Q .ret E bx h):Yb5 P A f nt .ret E bx h Q:=by
 intro c0 rg hc hs;obtain rfl:c0= .ret:=Ybd hc;exact go_ret ⟨E,hs,H⟩
theorem Yrb{ps:List (Nat×Nat)}{l:List SO}(H:Yu P A f nt h (bnd ps) l E bx h Q):Yb5 P A f nt (.reg ps l) E bx h Q:=by
 intro c0 rg hc hs;obtain⟨i,ops,dr,rfl,h1,rfl⟩:=Ybd hc;have e:(if dr then quietN A f ops else 0)=bnd (if dr then Yi4 A f ops else []):=by cases dr<;>rfl
 refine go_region ?_;rw[e];exact H ops ops.toList rg h1 hs
theorem Yf5{l:List SO}(H:Yu P A f nt h 0 l E bx h Q):Yb5 P A f nt (.reg [] l) E bx h Q:=Yrb H
theorem K5{a:SC}(H:Yb5 P A f nt a E bx h (ssq P A f nt b Q)):Yb5 P A f nt (.seq a b) E bx h Q:=by
 intro c0 rg hc hs;obtain⟨a0,b0,rfl,h1,h2⟩:=Ybd hc;refine go_seq ((H a0 rg h1 hs).mono ?_);rintro x fr h' ⟨E',hs',q⟩;cases x with
 |norm=>exact q b0 fr.regs h2 hs'
 |exit i=>exact⟨E',hs',q⟩
 |ret=>exact⟨E',hs',q⟩
theorem s_cond{a:SC}{p:Bool}(hx:ev (lk E) x=some (.bool p))(H1:p=true→Yb5 P A f nt a E bx h Q)(H2:p=false→Yb5 P A f nt b E bx h Q):Yb5 P A f nt (.cond x a b) E bx h Q:=by
 intro c0 rg hc hs;obtain⟨x0,a0,b0,rfl,h0,h1,h2⟩:=Ybd hc;exact go_cond (Yg hs h0 hx) (fun hp=>H1 hp a0 rg h1 hs) (fun hp=>H2 hp b0 rg h2 hs)
theorem Ybg(H:Yb5 P A f nt b E bx h (sbq i Q)):Yb5 P A f nt (.block i b) E bx h Q:=by
 intro c0 rg hc hs;obtain⟨b0,rfl,h1⟩:=Ybd hc;refine go_block ((H b0 rg h1 hs).mono ?_);rintro x fr h' ⟨E',hs',q⟩;exact⟨E',hs',q⟩
theorem Xv{σ:Type}(env:σ→Env)(HI:σ→Ya→Prop)(m:σ→Nat)(s0:σ)(h0:Sub (env s0) E)(hH:HI s0 h)(H:∀s h,HI s h→Yb5 P A f nt b (env s) bx h (slq env HI m s bx Q)):Yb5 P A f nt (.loop b) E bx h Q:=by
 intro c0 rg hc hs;obtain⟨b0,rfl,h1⟩:=Ybd hc;refine go_loop (fun s fr h=>Sat (lk (env s)) fr.regs∧fr.boxes=bx∧HI s h) m s0 ⟨fun t v e=>hs t v (h0 t v e),rfl,hH⟩ ?_;rintro s ⟨rg',bx'⟩ h' ⟨q1,q2,q3⟩;simp only at q1 q2;subst q2;refine(H s h' q3 b0 rg' h1 q1).mono ?_;rintro x fr h2 ⟨E',hs',q⟩;cases x with
 |norm=>
  obtain⟨s',w1,w2,w3,w4⟩:=q;exact⟨s',w1,fun t v e=>hs' t v (w2 t v e),w3,w4⟩
 |exit i=>exact⟨E',hs',q⟩
 |ret=>exact⟨E',hs',q⟩
theorem X0(H:Yb5 P A f nt b E bx h Q):ssq P A f nt b Q .norm E bx h:=H
theorem Yau(H:Q (.exit i) E bx h):ssq P A f nt b Q (.exit i) E bx h:=H
theorem Yc0(H:Q .ret E bx h):ssq P A f nt b Q .ret E bx h:=H
theorem Yax(H:Q .norm E bx h):sbq i Q .norm E bx h:=H
theorem Yc6(H:Q .ret E bx h):sbq i Q .ret E bx h:=H
theorem Yc7(H:Q .norm E bx h):sbq i Q (.exit i) E bx h:=by simpa[sbq]using H
theorem Ybw{j:Nat}(hij:(j==i)=false)(H:Q (.exit j) E bx h):sbq i Q (.exit j) E bx h:=by
 have:j≠i:=by simpa using hij
 simpa[sbq,this]using H
theorem Yg4:Sub [] E:=fun _ _ e=>by cases e
theorem Ka{E':Env}{t:Nat}(h1:lk E t=some v)(h2:Sub E' E):Sub ((t,v)::E') E:=by
 intro u w e;simp only[lk]at e;split at e
 ·rename_i he;simp only[Zs]at e;rw[←he,h1,e]
 ·exact h2 u w e
def Y8 (nt:Nat):Option Nat→Bool
 |none=>true
 |some d=>decide (d<nt)
theorem X8(H:Q .norm E bx h):Yu P A f nt h0 q [] E bx h Q:=by
 intro ops l0 rg hl hs;cases l0 with
 |nil=>exact ops_nil ⟨E,hs,H⟩
 |cons o r=>
  simp only[Yjt]at hl;split at hl<;>simp at hl
theorem Y7{l0:List Oper}{o:SO}(h:Yjt P A f ops l0=some (o::r)):∃o0 r0,l0=o0::r0∧slO P A f ops o0=some o∧Yjt P A f ops r0=some r:=by
 cases l0 with
 |nil=>simp[Yjt]at h
 |cons o0 r0=>
  simp only[Yjt]at h;split at h
  ·rename_i a b h1 h2;simp only[Zs,List.cons.injEq]at h;obtain⟨rfl,rfl⟩:=h;exact⟨o0,r0,rfl,h1,h2⟩
  ·cases h
theorem sv_rd(hk:slK P A (Yg1 A f o.dst) o.op=some k)(hs:Sat (lk E) rg)(hv:sv (lk E) k=some (p,v))(hp:p):RdOp P A f h0 q o rg h v:=by
 cases hro:Yg1 A f o.dst with
 |false=>
  rw[hro]at hk;refine rd_pure ?_;unfold opV;split
  ·rename_i x args ts ho;rw[ho]at hk;simp only[slK]at hk;split at hk
   ·simp only[Zs]at hk;subst hk;simp[sv]at hv
   ·cases hk
  ·rename_i x m args ts ho;rw[ho]at hk;simp only[slK]at hk;split at hk
   ·simp only[Zs]at hk;subst hk;simp[sv]at hv
   ·cases hk
  ·rw[hro];simp only[Zf,if_false];exact sv_pure hk hs hv hp
 |true=>
  rw[hro]at hk;obtain⟨dst,op,ty,pos,after,g⟩:=o;simp only at hk hro ⊢;cases op with
  |box t x=>
   simp only[slK,if_true]at hk;obtain⟨y,hy,rfl⟩:=Ya5 hk;simp only[sv]at hv;split at hv
   ·rename_i w hw;have fin:∀cs,w.cells=cs→cs.all AV.one=true→v= .tptr cs 0→RdOp P A f h0 q ⟨dst,.box t x,ty,pos,after,g⟩ rg h v:=by
     rintro cs hcs ho rfl;refine rd_ro_ptr hro (by simp) ?_;simp only[opM,Yg hs hy hw,Yd,Yj,hcs,ho,if_true]
    split at hv
    ·rename_i cs;simp only[Zs,Zp]at hv;obtain⟨rfl,rfl⟩:=hv;exact fin cs rfl hp rfl
    ·rename_i hna;simp only[Zs,Zp]at hv;obtain⟨rfl,rfl⟩:=hv;refine fin [w] ?_ (by simp[hp]) rfl;cases w<;>first|rfl|exact absurd rfl (hna _)
   ·cases hv
  |buildSlice t n ps=>
   simp only[slK,if_true]at hk;split at hk
   ·rename_i e he;split at hk
    ·rename_i s z hs1 hz;split at hk
     ·rename_i hc;obtain⟨l,hl,rfl⟩:=Ya5 hk;simp only[sv]at hv;split at hv
      ·rename_i cs hcs;simp only[Zs,Zp]at hv;obtain⟨rfl,rfl⟩:=hv;obtain⟨vs,e1,e2⟩:=J6 hs hl hcs;refine rd_ro_sl (cs:=cs) (sz:=s) hro (by simp[NC]) ?_ ?_
       ·simp only[opM,e1,Yd,Yj,J9,he,hs1,hz];rw[if_pos hc];simp only[e2,Yd,Yj,hp.2,if_true]
       ·unfold Yp;rw[if_pos (by omega)];simp[←hp.1]
      ·cases hv
     ·cases hk
    ·cases hk
   ·cases hk
  |call c=>
   obtain⟨callee,args,ts⟩:=c;cases callee with
   |value x=>
    simp only[slK]at hk;split at hk
    ·simp only[Zs]at hk;subst hk;simp[sv]at hv
    ·cases hk
   |invoke x m=>
    simp only[slK]at hk;split at hk
    ·simp only[Zs]at hk;subst hk;simp[sv]at hv
    ·cases hk
   |builtin b=>cases b<;>simp[slK]at hk
  |slice t x lo hi mx=>cases mx<;>simp[slK]at hk
  |_=>simp[slK]at hk
theorem Xn{o0:Oper}{o:SO}(h:slO P A f ops o0=some o):o.dst=o0.dst∧o.k=Yiz P A f o0.dst o0.op ∧
  ((o0.guard=none∧o.guard=none)∨∃j w e,o0.guard=some (j,w)∧o.guard=some (e,w)∧(ops[j]?).bind (·.dst)=some e):=by
 unfold slO at h;split at h
 ·rename_i g hg;simp only[Zs]at h;subst h;refine⟨rfl,rfl,?_⟩;split at hg
  ·rename_i h1;simp only[Zs]at hg;exact .inl ⟨h1,hg.symm⟩
  ·rename_i j w h1;obtain⟨e,he,rfl⟩:=Ya5 hg;exact .inr ⟨j,w,e,h1,rfl,he⟩
 ·cases h
theorem Qw(hd:o.dst=some d)(hlt:d<nt)(hb:Ycs o.op=true→∃cs i,v= .tptr cs i):Yh4 A f nt o v ⟨rg,bx⟩=some ⟨upd rg d v,bx⟩:=by
 unfold Yh4;rw[hd];simp only[hlt,if_true];cases hx:Ycs o.op with
 |false=>simp
 |true=>
  obtain⟨cs,i,rfl⟩:=hb hx;simp
theorem Yph(hk:slK P A ro op=some k)(hv:sv (lk E) k=some (p,v))(hb:Ycs op=true):∃cs i,v= .tptr cs i:=by
 cases op with
 |box t x=>
  simp only[slK]at hk;split at hk
  ·obtain⟨y,hy,rfl⟩:=Ya5 hk;simp only[sv]at hv;split at hv
   ·split at hv<;>simp only[Zs,Zp]at hv<;>exact⟨_,_,hv.2.symm⟩
   ·cases hv
  ·cases hk
 |alloc t=>simp[slK]at hk
 |_=>simp[Ycs]at hb
def Yfg:SK→Bool
 |.raw | .hbox _ _ | .alc _ _ | .st _ _ _ | .app _ _ _ _ | .apps _ _ _ _ | .appT _ _ _ _ | .appsT _ _ _ _ | .appz _ _ _ _ _ | .sla _ _ _ _ _ | .cvs _ | .cpy _ _ _ | .hbs _ _ _ _ | .mks _ _ _ _ _ _ | .s2b _ _ | .mkm | .lku _ _ _ _ _ | .mup _ _ _ _ | .clr _ _ _=>true
 |_=>false
theorem sv_heapy(h:Yfg k=true):sv (lk E) k=none:=by
 cases k<;>first|rfl|(simp[Yfg]at h)
theorem slH_heapy{dst:Option Tmp}(h:slH P A f dst ro op=some k):Yfg k=true:=by
 cases op with
 |slice t x lo hi mx=>cases mx<;>simp only[slH]at h<;>repeat' (first|(cases h;done)|(cases h;rfl)|(obtain⟨_,_,rfl⟩:=Ya5 h;rfl)|(split at h))
 |makeMap t r=>cases r<;>simp only[slH]at h<;>repeat' (first|(cases h;done)|(cases h;rfl)|(obtain⟨_,_,rfl⟩:=Ya5 h;rfl)|(split at h))
 |call c=>
  obtain⟨callee,args,ts⟩:=c;cases callee with
  |builtin b=>cases ro<;>cases b<;>simp only[slH,Zf,if_false,if_true]at h<;>repeat' (first|(cases h;done)|(cases h;rfl)|(obtain⟨_,_,rfl⟩:=Ya5 h;rfl)|(split at h))
  |_=>simp[slH]at h
 |_=>
  simp only[slH]at h
  repeat' (first|(cases h;done)|(cases h;rfl)|(obtain⟨_,_,rfl⟩:=Ya5 h;rfl)|(split at h))
theorem Jp(h:k=Yiz P A f o.dst o.op)(hk:Yfg k=false):slK P A (Yg1 A f o.dst) o.op=some k:=by
 unfold Yiz at h;split at h
 ·rename_i k' hk';rw[hk',h]
 ·exfalso;cases hh:slH P A f o.dst (Yg1 A f o.dst) o.op with
  |none=>rw[hh]at h;subst h;cases hk
  |some k'=>rw[hh]at h;subst h;rw[slH_heapy hh]at hk;cases hk
theorem Yq(hlt:(decide (d<nt))=true)(hv:sv (lk E) k=some (p,v))(hp:p)(H:Yu P A f nt h0 (q-1) r ((d,v)::E) bx h Q) :
  Yu P A f nt h0 q (⟨some d,none,k⟩::r) E bx h Q:=by
 intro ops l0 rg hl hs;obtain⟨o0,r0,rfl,h1,h2⟩:=Y7 hl;obtain⟨e1,e2,e3⟩:=Xn h1;have hk:slK P A (Yg1 A f o0.dst) o0.op=some k:=Jp e2 (by cases hh:Yfg k with|false=>rfl|true=>rw[sv_heapy hh]at hv;cases hv);have hg:o0.guard=none:=by
  rcases e3 with ⟨e,_⟩|⟨_,_,_,_,e,_⟩
  ·exact e
  ·cases e
 refine Yp4 (by unfold Yy;rw[hg]) (sv_rd hk hs hv hp) (Qw e1.symm (by simpa using hlt) (Yph hk hv)) (H ops r0 _ h2 (hs.put d v))
theorem o_bool{e:Bool}(hlt:(decide (d<nt))=true)(hv:sv (lk E) k=some (p,.bool e))(hp:p)(H:∀b,b=e→Yu P A f nt h0 (q-1) r ((d,.bool b)::E) bx h Q) :
  Yu P A f nt h0 q (⟨some d,none,k⟩::r) E bx h Q:=Yq hlt hv hp (H e rfl)
def Qn (dst:Option Nat) (E:Env):Env:=match dst with
 |some d=>(d,.undef)::E
 |none=>E
theorem o_guard{dst:Option Nat}{e:Nat}{w b:Bool}(he:lk E e=some (.bool b))(hd:Y8 nt dst=true)(H1:b=w→Yu P A f nt h0 q (⟨dst,none,k⟩::r) E bx h Q)
  (H2:b = !w→Yu P A f nt h0 (q-1) r (Qn dst E) bx h Q):Yu P A f nt h0 q (⟨dst,some (e,w),k⟩::r) E bx h Q:=by
 intro ops l0 rg hl hs;obtain⟨o0,r0,rfl,h1,h2⟩:=Y7 hl;obtain⟨e1,e2,e3⟩:=Xn h1;rcases e3 with ⟨_,e3⟩|⟨j,w',e',g1,g2,g3⟩
 ·cases e3
 ·simp only[Zs,Zp]at g2;obtain⟨rfl,rfl⟩:=g2;have hw:Yy ops o0 rg=some (b==w):=by
   unfold Yy;rw[g1];simp only[g3,hs e _ he]
  by_cases hbw:b=w
  ·have hw':Yy ops o0 rg=some true:=by rw[hw,hbw];simp
   have hstep:∀call h n,Qd call P A f nt ops o0 ⟨rg,bx⟩ h n=Qd call P A f nt ops {o0 with guard:=none} ⟨rg,bx⟩ h n:=by
    intro call h n;unfold Qd;rw[hw'];rfl
   have hsl:Yjt P A f ops ({o0 with guard:=none}::r0)=some (⟨dst,none,k⟩::r):=by
    simp only[Yjt,slO,h2];simp only at e1 e2;rw[←e2,←e1]
   have:=H1 hbw ops _ rg hsl hs;intro n hn;obtain⟨kk,fr1,h1',n1,lgs,q1,q2,q3⟩:=this n hn;refine⟨kk,fr1,h1',n1,lgs,?_,q2,q3⟩;rw[←q1];simp only[Xo,hstep]
  ·have hb':b = !w:=by cases b<;>cases w<;>first|rfl|exact absurd rfl hbw
   have hw':Yy ops o0 rg=some false:=by rw[hw,hb'];cases w<;>rfl
   simp only at e1;cases dst with
   |none=>exact Yih hw' (by unfold Yf3;rw[←e1]) (H2 hb' ops r0 rg h2 hs)
   |some d=>
    simp only[Y8,decide_eq_true_eq]at hd;exact Yih (fr1:=⟨upd rg d .undef,bx⟩) hw' (by unfold Yf3;rw[←e1];simp only[hd,if_true]) (H2 hb' ops r0 _ h2 (hs.put d .undef))
theorem Ykn{args:List SX}{g:Nat}{first cap vs:List AV}(hlt:(decide (d<nt))=true)(hx:ev (lk E) x=some (.fn g first cap))(ha:evS (lk E) args=some vs)
  (hc:PureC P A g (first++vs++cap) v)(H:Yu P A f nt h0 (q-1) r ((d,v)::E) bx h Q):Yu P A f nt h0 q (⟨some d,none,.call x args⟩::r) E bx h Q:=by
 intro ops l0 rg hl hs;obtain⟨o0,r0,rfl,h1,h2⟩:=Y7 hl;obtain⟨e1,e2,e3⟩:=Xn h1;have hk:slK P A (Yg1 A f o0.dst) o0.op=some (.call x args):=Jp e2 rfl;have hg:o0.guard=none:=by
  rcases e3 with ⟨e,_⟩|⟨_,_,_,_,e,_⟩
  ·exact e
  ·cases e
 obtain⟨x0,a0,ts,ho,hx0,ha0⟩:∃x0 a0 ts,o0.op= .call {callee:= .value x0,args:=a0,argTypes:=ts}∧slX A x0=some x∧Yq8 A a0.toList=some args:=by
  generalize hop:o0.op=op at hk;cases op with
  |call c=>
   obtain⟨callee,a0,ts⟩:=c;cases callee with
   |value x0=>
    simp only[slK]at hk;split at hk
    ·rename_i y a h3 h4;simp only[Zs,SK.call.injEq]at hk;obtain⟨rfl,rfl⟩:=hk;exact⟨x0,a0,ts,rfl,h3,h4⟩
    ·cases hk
   |invoke x0 m=>
    exfalso;simp only[slK]at hk;split at hk
    ·simp at hk
    ·cases hk
   |builtin b=>
    exfalso;cases b<;>simp only[slK]at hk<;>repeat' (first|(cases hk;done)|(obtain⟨_,_,h⟩:=Ya5 hk;cases h;done)|(split at hk))
  |slice t x lo hi mx=>
   exfalso;cases mx<;>simp only[slK]at hk<;>repeat' (first|(cases hk;done)|(obtain⟨_,_,h⟩:=Ya5 hk;cases h;done)|(split at hk))
  |_=>
   exfalso;simp only[slK]at hk
   repeat' (first|(cases hk;done)|(obtain⟨_,_,h⟩:=Ya5 hk;cases h;done)|(split at hk))
 refine Yp4 (by unfold Yy;rw[hg]) (rd_call ho (Yg hs hx0 hx) (J0 hs ha0 ha) hc) (Qw e1.symm (by simpa using hlt) (fun hb=>by rw[ho]at hb;simp[Ycs]at hb)) (H ops r0 _ h2 (hs.put d v))
def sret (P:Program) (A:Ann) (f:Nat) (l:List ResultVar) (v:AV):AX→Env→List Nat→Ya→Prop:=fun x E _ h=>match x with
 |.exit _=>False
 |_=>∀rg,Sat (lk E) rg→ResV P A f l rg h v
def Yb8 (E:Env):List ResultVar→Option (List AV)
 |[]=>some []
 |.tmp t::r=>match lk E t,Yb8 E r with
  |some a,some l=>some (a::l)
  |_,_=>none
 |.cell _ _::_=>none
theorem Yha(hs:Sat (lk E) rg):∀{l:List ResultVar} {vs:List AV},Yb8 E l=some vs→Qr P rg l=AM.pure vs
 |[],vs,h=>by simp only[Yb8,Zs]at h;subst h;rfl
 |.tmp t::r,vs,h=>by
  simp only[Yb8]at h;split at h
  ·rename_i a l ha hl;simp only[Zs]at h;subst h;simp only[Qr,Yha hs hl,Yj,hs t a ha]
  ·cases h
 |.cell _ _::_,_,h=>by simp[Yb8]at h
theorem Yb7{vs:List AV}(hl:Yb8 E l=some vs)(hf:A.fz f=false):∀rg,Sat (lk E) rg→ResV P A f l rg h (Yx vs):=by
 intro rg hs n _;refine⟨h,n,([],[]),?_⟩;unfold resM;rw[Yha hs hl,Yj,hf];rfl
theorem Jk(H:∀rg,Sat (lk E) rg→ResV P A f l rg h v):sret P A f l v .ret E bx h:=H
def Yhl:Nat→List AV→Env
 |_,[]=>[]
 |i,a::l=>(i,a)::Yhl (i+1) l
theorem Ych:∀(l:List AV) (i:Nat) (rg:Nat→AV),(∀j a,l[j]?=some a→rg (i+j)=a)→Sat (lk (Yhl i l)) rg
 |[],_,_,_=>fun _ _ e=>by cases e
 |a::l,i,rg,h=>by
  intro t v e;simp only[Yhl,lk]at e;split at e
  ·rename_i ht;simp only[Zs]at e;rw[←ht,←e];exact h 0 a rfl
  ·exact Ych l (i+1) rg (fun j b hb=>by rw[Nat.add_assoc,Nat.add_comm 1 j];exact h (j+1) b (by simpa using hb)) t v e
theorem Kf{fn:Func}{sc:SC}{args:List AV}(hf:P.funcs[f]?=some fn)(hb:fn.body.bind (slC P A f)=some sc)(hn:(fn.name == "runtime.NumGoroutine" || decide (fn.ntmps<args.length))=false)(hs:A.still f=true)
  (hv:v.tree=true)(run:Yb5 P A f fn.ntmps sc (Yhl 0 args) [] hp0 (sret P A f fn.results.toList v)):PureC P A f args v:=by
 obtain⟨c,hc,hsc⟩:=Option.bind_eq_some_iff.1 hb;refine pure_of hf hc hn hs hv ((run c (Qi args) hsc ?_).mono ?_)
 ·refine Ych args 0 _ (fun j a hj=>?_);simp[Qi,hj]
 ·rintro x fr h' ⟨E',hs',q⟩;cases x with
  |exit i=>exact q.elim
  |norm=>exact q _ hs'
  |ret=>exact q _ hs'
theorem Ynb{cs:List AV}{o:Nat}(hlt:(decide (d<nt))=true)(hx:ev (lk E) x=some (.tptr cs o))(hv:cs[o]?=some v)(H:Yu P A f nt h0 (q-1) r ((d,v)::E) bx h Q) :
  Yu P A f nt h0 q (⟨some d,none,.ld x none⟩::r) E bx h Q:=Yq (p:=True) hlt (by simp only[sv,hx,hv]) trivial H
theorem o_loadn{n:Nat}{cs l:List AV}{o:Nat}(hlt:(decide (d<nt))=true)(hx:ev (lk E) x=some (.tptr cs o))(hv:Yp cs o n=some l)(H:Yu P A f nt h0 (q-1) r ((d,.agg l)::E) bx h Q) :
  Yu P A f nt h0 q (⟨some d,none,.ld x (some n)⟩::r) E bx h Q:=Yq (p:=True) hlt (by simp only[sv,hx,hv]) trivial H
end
end Go.Abs
