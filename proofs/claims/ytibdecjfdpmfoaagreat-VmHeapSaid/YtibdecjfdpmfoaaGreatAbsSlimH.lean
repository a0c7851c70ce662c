import Derived.Test.YtibdecjfdpmfoaaGreatAbsSlimR
namespace Go.Abs
open List hiding append
variable {v:AV} {Q1:AV→Ya→Prop} {esc ro:Bool} {cs:List AV} {r:List SO} {d id off q:Nat} {rg:Nat→AV} {op:Op} {o:Oper} {dst:Option Nat} {k:SK} {x:SX} {h0:Ya}
section
variable {P:Program} {A:Ann} {f nt:Nat} {E:Env} {bx:List Nat} {h:Ya} {Q:AX→Env→List Nat→Ya→Prop}
theorem slK_plain(hk:slK P A ro op=some k):Yfg k=false:=by
 cases op with
 |slice t x lo hi mx=>cases mx<;>simp only[slK]at hk<;>repeat' (first|(cases hk;done)|(cases hk;rfl)|(obtain⟨_,_,rfl⟩:=Ya5 hk;rfl)|(split at hk))
 |call c=>
  obtain⟨callee,args,ts⟩:=c;cases callee with
  |builtin b=>cases b<;>simp only[slK]at hk<;>repeat' (first|(cases hk;done)|(cases hk;rfl)|(obtain⟨_,_,rfl⟩:=Ya5 hk;rfl)|(split at hk))
  |_=>
   simp only[slK]at hk
   repeat' (first|(cases hk;done)|(cases hk;rfl)|(split at hk))
 |_=>
  simp only[slK]at hk
  repeat' (first|(cases hk;done)|(cases hk;rfl)|(obtain⟨_,_,rfl⟩:=Ya5 hk;rfl)|(split at hk))
theorem Yfa(e:k=Yiz P A f o.dst o.op)(hk:Yfg k=true)(hr:k≠ .raw):slH P A f o.dst (Yg1 A f o.dst) o.op=some k:=by
 unfold Yiz at e;split at e
 ·rename_i k' hk';subst e;rw[slK_plain hk']at hk;cases hk
 ·cases hh:slH P A f o.dst (Yg1 A f o.dst) o.op with
  |none=>rw[hh]at e;exact absurd e hr
  |some k'=>rw[hh]at e;simp at e;rw[e]
theorem Xw{dst:Option Tmp}(hh:slH P A f dst ro op=some k):match k with
  |.hbox esc x=>∃d t x0,dst=some d∧op= .box t x0∧slX A x0=some x∧ro=false∧A.esc f d=esc
  |.alc esc z=>∃d t zz,dst=some d∧op= .alloc t∧Q0 P t=some zz∧zz.cells=z∧z.all AV.one=true∧Kx P t=some z.length∧ro=false∧A.esc f d=esc
  |.st x y m=>∃t a x0,op= .store t a x0∧slX A a=some x∧slX A x0=some y∧Kx P t=some m∧ro=false
  |.hbs z s n ps=>∃t ps0 e zz,op= .buildSlice t n ps0∧Xb P t=some e∧Kx P e=some s∧Q0 P e=some zz∧(n*s≤2^20∧0<s∧zz.cells.length=s∧zz.cells.all AV.one)∧Yc3 A (fun i=>some (i*s,s)) ps0.toList=some ps∧z=X6 zz.cells (n*s)∧ro=false
  |.mks r z s b l c=>∃t l0 c0 e zz,op= .makeSlice t l0 c0∧slX A l0=some l∧slX A c0=some c∧Xb P t=some e∧Kx P e=some s∧Ybp P e=some b∧Q0 P e=some zz∧zz.cells=z∧0<s∧z.length=s∧z.all AV.one=true∧r=ro
  |.s2b r x=>∃ty d x0 e,op= .convert ty d x0∧slX A x0=some x∧P.underlying ty=some .string∧P.underlying d=some (.slice e)∧J4 P e=true∧r=ro
  |.cvs x=>∃ty d x0 e0 e,op= .convert ty d x0∧slX A x0=some x∧P.underlying ty=some (.slice e0)∧P.underlying d=some (.slice e)∧(ty==d)=true∧J4 P e=true∧ro=false
  |.sla x n lo hi s=>∃t x0 lo0 hi0 e,op= .slice t x0 lo0 hi0 none∧P.underlying t=some (.array n e)∧Kx P e=some s∧slX A x0=some x∧Yms A lo0=some lo∧Yms A hi0=some hi∧ro=false
  |.mkm=>∃t kt et,op= .makeMap t none∧P.underlying t=some (.map kt et)∧ro=false
  |.lku q z x y ok=>∃t x0 k0 kt et,op= .lookup t x0 k0 ok∧mkOf P kt=some q∧P.underlying t=some (.map kt et)∧Q0 P et=some z∧slX A x0=some x∧slX A k0=some y∧ro=false
  |.mup q x y v=>∃t x0 k0 v0 kt et,mkOf P kt=some q∧(op= .mapUpdate t x0 k0 v0∨op= .insert t x0 k0 v0)∧P.underlying t=some (.map kt et)∧slX A x0=some x∧slX A k0=some y∧slX A v0=some v∧ro=false
  |.app s b x y=>∃x0 y0 t u args ts e zz,op= .call {callee:= .builtin .append,args:=args,argTypes:=ts}∧args.toList=[x0,y0]∧ts.toList=[t,u]∧slX A x0=some x∧slX A y0=some y∧Xb P t=some e∧Kx P e=some s∧Ybp P e=some b∧Q0 P e=some zz ∧
    0<s∧zz.cells.length=s∧zz.cells.all AV.one=true∧(∃q,P.underlying u=some (.slice q))∧ro=false
  |.apps s b x y=>∃x0 y0 t u args ts e zz,op= .call {callee:= .builtin .append,args:=args,argTypes:=ts}∧args.toList=[x0,y0]∧ts.toList=[t,u]∧slX A x0=some x∧slX A y0=some y∧Xb P t=some e∧Kx P e=some s∧Ybp P e=some b∧Q0 P e=some zz ∧
    0<s∧zz.cells.length=s∧zz.cells.all AV.one=true∧P.underlying u=some .string∧ro=false
  |.appT s b x y=>∃x0 y0 t u args ts e zz,op= .call {callee:= .builtin .append,args:=args,argTypes:=ts}∧args.toList=[x0,y0]∧ts.toList=[t,u]∧slX A x0=some x∧slX A y0=some y∧Xb P t=some e∧Kx P e=some s∧Ybp P e=some b∧Q0 P e=some zz ∧
    0<s∧zz.cells.length=s∧zz.cells.all AV.one=true∧(∃q,P.underlying u=some (.slice q))∧ro=true
  |.appsT s b x y=>∃x0 y0 t u args ts e zz,op= .call {callee:= .builtin .append,args:=args,argTypes:=ts}∧args.toList=[x0,y0]∧ts.toList=[t,u]∧slX A x0=some x∧slX A y0=some y∧Xb P t=some e∧Kx P e=some s∧Ybp P e=some b∧Q0 P e=some zz ∧
    0<s∧zz.cells.length=s∧zz.cells.all AV.one=true∧P.underlying u=some .string∧ro=true
  |.appz s b z x y=>∃x0 y0 t u args ts e zz,op= .call {callee:= .builtin .append,args:=args,argTypes:=ts}∧args.toList=[x0,y0]∧ts.toList=[t,u]∧slX A x0=some x∧slX A y0=some y∧Xb P t=some e∧Kx P e=some s∧Ybp P e=some b∧Q0 P e=some zz∧zz.cells=z ∧
    0<s∧z.length=s∧z.all AV.one=true∧(∃q,P.underlying u=some (.int q))∧ro=false
  |.cpy s x y=>∃x0 y0 t tr args ts e,op= .call {callee:= .builtin .copy,args:=args,argTypes:=ts}∧args.toList=[x0,y0]∧ts.toList=t::tr∧slX A x0=some x∧slX A y0=some y∧Xb P t=some e∧Kx P e=some s∧ro=false
  |.clr s z x=>∃x0 t tr args ts e zz,op= .call {callee:= .builtin .clear,args:=args,argTypes:=ts}∧args.toList=[x0]∧ts.toList=t::tr∧slX A x0=some x∧Xb P t=some e∧Kx P e=some s∧Q0 P e=some zz∧zz.cells=z∧0<s∧z.length=s∧ro=false
  |_=>True:=by
 have ei:∀{t s b z},Yfc P t=some (s,b,z)→∃e zz,Xb P t=some e∧Kx P e=some s∧Ybp P e=some b∧Q0 P e=some zz∧zz.cells=z∧0<s∧z.length=s∧z.all AV.one=true:=by
  intro t s b z hi;unfold Yfc at hi;split at hi
  ·rename_i e he;split at hi
   ·rename_i s' b' z' q1 q2 q3;split at hi
    ·rename_i hc;simp only[Zs,Zp]at hi;obtain⟨rfl,rfl,rfl⟩:=hi;exact⟨e,z',he,q1,q2,q3,rfl,hc.1,hc.2.1,hc.2.2⟩
    ·cases hi
   ·cases hi
  ·cases hi
 cases op with
 |box t x0=>
  simp only[slH]at hh;split at hh
  ·cases hh
  ·rename_i hro;split at hh
   ·obtain⟨y,hy,rfl⟩:=Ya5 hh;exact⟨_,t,x0,rfl,rfl,hy,by simpa using hro,rfl⟩
   ·cases hh
 |alloc t=>
  simp only[slH]at hh;split at hh
  ·cases hh
  ·rename_i hro;split at hh
   ·rename_i z hz _;split at hh
    ·rename_i hc;simp only[Zs]at hh;subst hh;exact⟨_,t,z,rfl,rfl,hz,rfl,hc.1,hc.2,by simpa using hro,rfl⟩
    ·cases hh
   ·cases hh
 |store t a x0=>
  simp only[slH]at hh;split at hh
  ·cases hh
  ·rename_i hro;split at hh
   ·rename_i a' x' n' q1 q2 q3;simp only[Zs]at hh;subst hh;exact⟨t,a,x0,rfl,q1,q2,q3,by simpa using hro⟩
   ·cases hh
 |buildSlice t n ps0=>
  simp only[slH]at hh;split at hh
  ·cases hh
  ·rename_i hro;split at hh
   ·rename_i e he;split at hh
    ·rename_i s z q1 q2;split at hh
     ·rename_i hc;obtain⟨l,hl,rfl⟩:=Ya5 hh;exact⟨t,ps0,e,z,rfl,he,q1,q2,hc,hl,rfl,by simpa using hro⟩
     ·cases hh
    ·cases hh
   ·cases hh
 |makeSlice t l0 c0=>
  simp only[slH]at hh;split at hh
  ·rename_i l c s b z q1 q2 q3;simp only[Zs]at hh;subst hh;obtain⟨e,zz,w⟩:=ei q3;exact⟨t,l0,c0,e,zz,rfl,q1,q2,w.1,w.2.1,w.2.2.1,w.2.2.2.1,w.2.2.2.2.1,w.2.2.2.2.2.1,w.2.2.2.2.2.2.1,w.2.2.2.2.2.2.2,rfl⟩
  ·cases hh
 |convert ty d x0=>
  simp only[slH]at hh;split at hh
  ·rename_i y e q1 q2 q3;split at hh
   ·rename_i q4;simp only[Zs]at hh;subst hh;exact⟨ty,d,x0,e,rfl,q1,q2,q3,q4,rfl⟩
   ·cases hh
  ·rename_i y e0 e q1 q2 q3;split at hh
   ·rename_i q4;simp only[Zs]at hh;subst hh;exact⟨ty,d,x0,e0,e,rfl,q1,q2,q3,q4.1,q4.2.1,q4.2.2⟩
   ·cases hh
  ·cases hh
 |slice t x0 lo0 hi0 mx=>
  cases mx with
  |some m=>simp[slH]at hh
  |none=>
   simp only[slH]at hh;split at hh
   ·cases hh
   ·rename_i hro;split at hh
    ·rename_i x lo hi n e q1 q2 q3 q4;obtain⟨s,hs,rfl⟩:=Ya5 hh;exact⟨t,x0,lo0,hi0,e,rfl,q4,hs,q1,q2,q3,by simpa using hro⟩
    ·cases hh
 |makeMap t r=>
  cases r with
  |none=>
   simp only[slH]at hh;split at hh
   ·cases hh
   ·rename_i hro;split at hh
    ·rename_i kt et q1;simp only[Zs]at hh;subst hh;exact⟨t,kt,et,rfl,q1,by simpa using hro⟩
    ·cases hh
  |some r=>simp[slH]at hh
 |lookup t x0 k0 ok=>
  simp only[slH]at hh;split at hh
  ·cases hh
  ·rename_i hro;split at hh
   ·rename_i kt et q1;split at hh
    ·rename_i q z x y q5 q2 q3 q4;simp only[Zs]at hh;subst hh;exact⟨t,x0,k0,kt,et,rfl,q5,q1,q2,q3,q4,by simpa using hro⟩
    ·cases hh
   ·cases hh
 |mapUpdate t x0 k0 v0=>
  simp only[slH]at hh;split at hh
  ·cases hh
  ·rename_i hro;split at hh
   ·rename_i kt et q1;split at hh
    ·rename_i q x y v q5 q2 q3 q4;simp only[Zs]at hh;subst hh;exact⟨t,x0,k0,v0,kt,et,q5,.inl rfl,q1,q2,q3,q4,by simpa using hro⟩
    ·cases hh
   ·cases hh
 |insert t x0 k0 v0=>
  simp only[slH]at hh;split at hh
  ·cases hh
  ·rename_i hro;split at hh
   ·rename_i kt et q1;split at hh
    ·rename_i q x y v q5 q2 q3 q4;simp only[Zs]at hh;subst hh;exact⟨t,x0,k0,v0,kt,et,q5,.inr rfl,q1,q2,q3,q4,by simpa using hro⟩
    ·cases hh
   ·cases hh
 |call c=>
  obtain⟨callee,args,ts⟩:=c;cases callee with
  |builtin b=>
   cases b with
   |append=>
    simp only[slH]at hh;split at hh
    ·rename_i x0 y0 t u q1 q2;split at hh
     ·rename_i x y s b z e' q3 q4 q5 q6;obtain⟨e,zz,w⟩:=ei q5;obtain⟨w1,w2,w3,w4,rfl,w6,w7,w8⟩:=w;cases ro with
      |false=>
       simp only[Zf,if_false,Zs]at hh;subst hh;exact⟨x0,y0,t,u,args,ts,e,zz,rfl,q1,q2,q3,q4,w1,w2,w3,w4,w6,w7,w8,⟨_,q6⟩,rfl⟩
      |true=>
       simp only[if_true,Zs]at hh;subst hh;exact⟨x0,y0,t,u,args,ts,e,zz,rfl,q1,q2,q3,q4,w1,w2,w3,w4,w6,w7,w8,⟨_,q6⟩,rfl⟩
     ·rename_i x y s b z q3 q4 q5 q6;obtain⟨e,zz,w⟩:=ei q5;obtain⟨w1,w2,w3,w4,rfl,w6,w7,w8⟩:=w;cases ro with
      |false=>
       simp only[Zf,if_false,Zs]at hh;subst hh;exact⟨x0,y0,t,u,args,ts,e,zz,rfl,q1,q2,q3,q4,w1,w2,w3,w4,w6,w7,w8,q6,rfl⟩
      |true=>
       simp only[if_true,Zs]at hh;subst hh;exact⟨x0,y0,t,u,args,ts,e,zz,rfl,q1,q2,q3,q4,w1,w2,w3,w4,w6,w7,w8,q6,rfl⟩
     ·rename_i x y s b z qk q3 q4 q5 q6;obtain⟨e,zz,w⟩:=ei q5;obtain⟨w1,w2,w3,w4,w5,w6,w7,w8⟩:=w;cases ro with
      |false=>
       simp only[Zf,if_false,Zs]at hh;subst hh;exact⟨x0,y0,t,u,args,ts,e,zz,rfl,q1,q2,q3,q4,w1,w2,w3,w4,w5,w6,w7,w8,⟨_,q6⟩,rfl⟩
      |true=>simp at hh
     ·cases hh
    ·cases hh
   |copy=>
    simp only[slH]at hh;split at hh
    ·cases hh
    ·rename_i hro;split at hh
     ·rename_i x0 y0 t tr q1 q2;split at hh
      ·rename_i x y s b z q3 q4 q5;simp only[Zs]at hh;subst hh;obtain⟨e,zz,w⟩:=ei q5;exact⟨x0,y0,t,tr,args,ts,e,rfl,q1,q2,q3,q4,w.1,w.2.1,by simpa using hro⟩
      ·cases hh
     ·cases hh
   |clear=>
    simp only[slH]at hh;split at hh
    ·cases hh
    ·rename_i hro;split at hh
     ·rename_i x0 t tr q1 q2;split at hh
      ·rename_i x s b z q3 q5;simp only[Zs]at hh;subst hh;obtain⟨e,zz,w1,w2,w3,w4,w5,w6,w7,w8⟩:=ei q5;exact⟨x0,t,tr,args,ts,e,zz,rfl,q1,q2,q3,w1,w2,w4,w5,w6,w7,by simpa using hro⟩
      ·cases hh
     ·cases hh
   |_=>simp[slH]at hh
  |_=>simp[slH]at hh
 |_=>simp[slH]at hh
def putRg (dst:Option Nat) (v:AV) (rg:Nat→AV):Nat→AV:=match dst with
 |some d=>upd rg d v
 |none=>rg
def Ysa (dst:Option Nat) (v:AV) (E:Env):Env:=match dst with
 |some d=>(d,v)::E
 |none=>E
theorem o_heap 
  (step:∀(o:Oper) rg,o.dst=dst→k=Yiz P A f o.dst o.op→Sat (lk E) rg→HOp P A f h0 q o rg h Q1)
  (next:∀v h1 (o:Oper) rg,o.dst=dst→k=Yiz P A f o.dst o.op→Q1 v h1→∃bx',Yh4 A f nt o v ⟨rg,bx⟩=some ⟨putRg dst v rg,bx'⟩∧Yu P A f nt h0 (q-1) r (Ysa dst v E) bx' h1 Q) :
  Yu P A f nt h0 q (⟨dst,none,k⟩::r) E bx h Q:=by
 intro ops l0 rg hl hs;obtain⟨o0,r0,rfl,h1,h2⟩:=Y7 hl;obtain⟨e1,e2,e3⟩:=Xn h1;have hg:o0.guard=none:=by
  rcases e3 with ⟨e,_⟩|⟨_,_,_,_,e,_⟩
  ·exact e
  ·cases e
 refine ops_h (by unfold Yy;rw[hg]) ?_;intro n hn;obtain⟨kk,v,h',n',lg,q1,qq,q2⟩:=step o0 rg e1.symm e2 hs n hn;obtain⟨bx',p1,p2⟩:=next v h' o0 rg e1.symm e2 q2;refine⟨kk,v,h',n',lg,q1,qq,_,p1,?_⟩;cases dst with
 |none=>exact p2 ops r0 rg h2 hs
 |some d=>exact p2 ops r0 _ h2 (hs.put d v)
theorem Ybk(hnc:NC o.op)(hro:Yg1 A f o.dst=false)
  (H:∀n,Qt h n→∃v h' n' lg,opM P (Qb A rg) o.op h n=some (v,h',n',lg)∧Yr5 h0 q lg∧Q1 v h'):HOp P A f h0 q o rg h Q1:=by
 intro n hn;obtain⟨v,h',n',lg,e,q⟩:=H n hn;refine⟨0,v,h',n',lg,?_,q⟩;have:opV (Xg P A 0) P A f o rg=opM P (Qb A rg) o.op:=by
  unfold opV;split
  ·rename_i ho;exact absurd ho (hnc.1 _ _ _)
  ·rename_i ho;exact absurd ho (hnc.2 _ _ _ _)
  ·rw[hro];simp only[Zf,if_false]
 rw[this];exact e
theorem Ygb:Yr5 h0 q ([],[]):=fun _=>⟨rfl,by simp⟩
theorem Kk{lg:Log}:Yr5 h0 0 lg:=fun h=>absurd h (by omega)
theorem put_none(hd:o.dst=none):Yh4 A f nt o v ⟨rg,bx⟩=some ⟨rg,bx⟩:=by
 unfold Yh4;rw[hd]
theorem Jx(hd:o.dst=dst)(hok:Y8 nt dst=true)(hb:Ycs o.op=false):Yh4 A f nt o v ⟨rg,bx⟩=some ⟨putRg dst v rg,bx⟩:=by
 unfold Yh4;rw[hd];cases dst with
 |none=>rfl
 |some d=>
  simp only[Y8,decide_eq_true_eq]at hok;simp[hok,hb,putRg]
theorem Ypw{i j:Nat}(hd:o.dst=some d)(hlt:(decide (d<nt))=true)(hb:Ycs o.op=true):Yh4 A f nt o (.ptr i j) ⟨rg,bx⟩=some ⟨putRg (some d) (.ptr i j) rg,if A.esc f d then bx else i::bx⟩:=by
 unfold Yh4;rw[hd];simp only[decide_eq_true_eq]at hlt;simp only[hlt,if_true,hb,Bool.true_and,putRg];cases A.esc f d<;>simp
variable {h0:Ya} {q:Nat}
theorem Yee(hlt:(decide (d<nt))=true)(hx:ev (lk E) x=some v)(ho:v.cells.all AV.one=true)
  (H:∀i,h i=none→Yu P A f nt h0 (q-1) r ((d,.ptr i 0)::E) (if esc then bx else i::bx) (upd h i (some (.cells v.cells))) Q):Yu P A f nt h0 q (⟨some d,none,.hbox esc x⟩::r) E bx h Q:=by
 refine o_heap (Q1:=fun w h1=>∃i,h i=none∧w= .ptr i 0∧h1=upd h i (some (.cells v.cells))) ?_ ?_
 ·intro o rg hd e hs;obtain⟨d',t,x0,_,hop,hx0,hro,_⟩:=Xw (Yfa e rfl (by simp));refine Ybk (by simp[NC,hop]) hro (fun n hn=>?_);refine⟨.ptr n 0,upd h n (some (.cells v.cells)),n+1,([],[]),?_,Ygb,n,hn n (Zl _),rfl,rfl⟩;rw[hop];simp only[opM,Yg hs hx0 hx,Yd,Yj,ho,if_true];rfl
 ·rintro w h1 o rg hd e ⟨i,hi,rfl,rfl⟩;obtain⟨d',t,x0,hd',hop,hx0,hro,hesc⟩:=Xw (Yfa e rfl (by simp));rw[hd]at hd';cases hd';refine⟨if esc then bx else i::bx,?_,H i hi⟩;rw[Ypw hd hlt (by rw[hop];rfl),hesc]
theorem K8{z:List AV}(hlt:(decide (d<nt))=true)
  (H:∀i,h i=none→Yu P A f nt h0 (q-1) r ((d,.ptr i 0)::E) (if esc then bx else i::bx) (upd h i (some (.cells z))) Q):Yu P A f nt h0 q (⟨some d,none,.alc esc z⟩::r) E bx h Q:=by
 refine o_heap (Q1:=fun w h1=>∃i,h i=none∧w= .ptr i 0∧h1=upd h i (some (.cells z))) ?_ ?_
 ·intro o rg hd e hs;obtain⟨d',t,zz,_,hop,hz,rfl,ho,hsz,hro,_⟩:=Xw (Yfa e rfl (by simp));refine Ybk (by simp[NC,hop]) hro (fun n hn=>?_);refine⟨.ptr n 0,upd h n (some (.cells zz.cells)),n+1,([],[]),?_,Ygb,n,hn n (Zl _),rfl,rfl⟩;rw[hop];simp only[opM,hz,Yd,Yj];rw[if_pos ⟨ho,hsz⟩];rfl
 ·rintro w h1 o rg hd e ⟨i,hi,rfl,rfl⟩;obtain⟨d',t,zz,hd',hop,hz,_,ho,hsz,hro,hesc⟩:=Xw (Yfa e rfl (by simp));rw[hd]at hd';cases hd';refine⟨if esc then bx else i::bx,?_,H i hi⟩;rw[Ypw hd hlt (by rw[hop];rfl),hesc]
theorem Ybr{y:SX}{m:Nat}{cs':List AV}(hq:q=0)(hd:Y8 nt dst=true)(hx:ev (lk E) x=some (.ptr id off))(hy:ev (lk E) y=some v)(hm:v.cells.length=m)(ho:v.cells.all AV.one=true)
  (hid:h id=some (.cells cs))(hs':Ql cs off v.cells=some cs')(H:Yu P A f nt h0 0 r (Qn dst E) bx (upd h id (some (.cells cs'))) Q):Yu P A f nt h0 q (⟨dst,none,.st x y m⟩::r) E bx h Q:=by
 subst hq;refine o_heap (Q1:=fun w h1=>w= .undef∧h1=upd h id (some (.cells cs'))) ?_ ?_
 ·intro o rg hdd e hs;obtain⟨t,a,x0,hop,q1,q2,q3,hro⟩:=Xw (Yfa e rfl (by simp));refine Ybk (by simp[NC,hop]) hro (fun n hn=>?_);refine⟨.undef,upd h id (some (.cells cs')),n,([id],[id]),?_,Kk,rfl,rfl⟩;rw[hop];simp only[opM,Yg hs q1 hx,Yg hs q2 hy,Yd,Yj,Ykb,q3,hm,if_true,Yaa];simp only[AM.bind,AM.get,AM.set,AM.pure,AM.lift,hid,ho,if_true,hs'];rfl
 ·rintro w h1 o rg hdd e ⟨rfl,rfl⟩;obtain⟨t,a,x0,hop,q1,q2,q3,hro⟩:=Xw (Yfa e rfl (by simp));refine⟨bx,Jx hdd hd (by rw[hop];rfl),?_⟩;cases dst<;>exact H
theorem Ync{z:List AV}{s n:Nat}{ps:List (Nat×Nat×SX)}(hlt:(decide (d<nt))=true)(hf:Ybt (lk E) z ps=some cs)(ho:cs.all AV.one=true)
  (H:∀i,h i=none→Yu P A f nt h0 (q-1) r ((d,.sl i 0 n s)::E) bx (upd h i (some (.cells cs))) Q):Yu P A f nt h0 q (⟨some d,none,.hbs z s n ps⟩::r) E bx h Q:=by
 refine o_heap (Q1:=fun w h1=>∃i,h i=none∧w= .sl i 0 n s∧h1=upd h i (some (.cells cs))) ?_ ?_
 ·intro o rg hd e hs;obtain⟨t,ps0,e',zz,hop,q1,q2,q3,q4,q5,rfl,hro⟩:=Xw (Yfa e rfl (by simp));refine Ybk (by simp[NC,hop]) hro (fun n' hn=>?_);refine⟨.sl n' 0 n s,upd h n' (some (.cells cs)),n'+1,([],[]),?_,Ygb,n',hn n' (Zl _),rfl,rfl⟩;obtain⟨vs,e1,e2⟩:=J6 hs q5 hf;rw[hop];simp only[opM,e1,Yd,Yj,J9,q1,q2,q3];rw[if_pos q4];simp only[e2,Yd,Yj,ho,if_true];rfl
 ·rintro w h1 o rg hd e ⟨i,hi,rfl,rfl⟩;obtain⟨t,ps0,e',zz,hop,q1,q2,q3,q4,q5,_,hro⟩:=Xw (Yfa e rfl (by simp));exact⟨bx,Jx hd (by simpa[Y8]using hlt) (by rw[hop];rfl),H i hi⟩
end
section
variable {P:Program} {A:Ann} {f nt:Nat} {E:Env} {bx:List Nat} {h:Ya} {Q:AX→Env→List Nat→Ya→Prop}
theorem Ybz{m:Option Nat}(e:SK.ld x m=Yiz P A f o.dst o.op):∃t x0,o.op= .load t x0∧slX A x0=some x∧Yfp P t=some m∧Yg1 A f o.dst=false:=by
 have hk:=Jp e rfl;generalize hop:o.op=op at hk;cases op with
 |load t x0=>
  simp only[slK]at hk;split at hk
  ·cases hk
  ·rename_i hro;split at hk
   ·rename_i y n h1 h2;simp only[Zs,SK.ld.injEq]at hk;obtain⟨rfl,rfl⟩:=hk;exact⟨t,x0,rfl,h1,h2,by simpa using hro⟩
   ·cases hk
 |slice t x lo hi mx=>exfalso;cases mx<;>simp only[slK]at hk<;>repeat' (first|(cases hk;done)|(obtain⟨_,_,h⟩:=Ya5 hk;cases h;done)|(split at hk))
 |call c=>
  exfalso;obtain⟨callee,args,ts⟩:=c;cases callee with
  |builtin b=>cases b<;>simp only[slK]at hk<;>repeat' (first|(cases hk;done)|(obtain⟨_,_,h⟩:=Ya5 hk;cases h;done)|(split at hk))
  |_=>
   simp only[slK]at hk
   repeat' (first|(cases hk;done)|(split at hk))
 |_=>
  exfalso;simp only[slK]at hk
  repeat' (first|(cases hk;done)|(obtain⟨_,_,h⟩:=Ya5 hk;cases h;done)|(split at hk))
theorem Y2(hlt:(decide (d<nt))=true)(hx:ev (lk E) x=some (.ptr id off))(hid:h id=some (.cells cs))(h0id:0<q→h0 id≠none)(hv:cs[off]?=some v)
  (H:Yu P A f nt h0 (q-1) r ((d,v)::E) bx h Q):Yu P A f nt h0 q (⟨some d,none,.ld x none⟩::r) E bx h Q:=by
 intro ops l0 rg hl hs;obtain⟨o0,r0,rfl,h1,h2⟩:=Y7 hl;obtain⟨e1,e2,e3⟩:=Xn h1;obtain⟨t,x0,hop,q1,q2,hro⟩:=Ybz e2;have hg:o0.guard=none:=by
  rcases e3 with ⟨e,_⟩|⟨_,_,_,_,e,_⟩
  ·exact e
  ·cases e
 have hsl:Yp cs off 1=some [v]:=by
  have hlt:=(Zi.1 hv).1;unfold Yp;rw[if_pos (by omega)]
  congr 1
  rw[drop_eq_getElem_cons hlt,(Zi.1 hv).2];rfl
 rcases Xz q2 with ⟨m,e,_,_⟩|⟨_,g1,m,g2⟩
 ·cases e
 ·refine Yp4 (by unfold Yy;rw[hg]) (rd_load h0id hop hro (Yg hs q1 hx) hid g1 g2 (by simpa using hsl) rfl) (Qw e1.symm (by simpa using hlt) (fun hb=>by rw[hop]at hb;simp[Ycs]at hb)) (H ops r0 _ h2 (hs.put d v))
theorem X3{m:Nat}{l:List AV}(hlt:(decide (d<nt))=true)(hx:ev (lk E) x=some (.ptr id off))(hid:h id=some (.cells cs))(h0id:0<q→h0 id≠none)(hv:Yp cs off m=some l)
  (H:Yu P A f nt h0 (q-1) r ((d,.agg l)::E) bx h Q):Yu P A f nt h0 q (⟨some d,none,.ld x (some m)⟩::r) E bx h Q:=by
 intro ops l0 rg hl hs;obtain⟨o0,r0,rfl,h1,h2⟩:=Y7 hl;obtain⟨e1,e2,e3⟩:=Xn h1;obtain⟨t,x0,hop,q1,q2,hro⟩:=Ybz e2;have hg:o0.guard=none:=by
  rcases e3 with ⟨e,_⟩|⟨_,_,_,_,e,_⟩
  ·exact e
  ·cases e
 rcases Xz q2 with ⟨m',e,g1,g2⟩|⟨e,_⟩
 ·cases e;refine Yp4 (by unfold Yy;rw[hg]) (rd_load h0id hop hro (Yg hs q1 hx) hid g1 g2 (by simpa using hv) rfl) (Qw e1.symm (by simpa using hlt) (fun hb=>by rw[hop]at hb;simp[Ycs]at hb)) (H ops r0 _ h2 (hs.put d _))
 ·cases e
end
end Go.Abs
