import Derived.Test.YtibdecjfdpmfoaaGreatAbsSlimK
namespace Go.Abs
open List hiding map nil
variable {v:AV} {fz:AV→Ya→Option (AV×Ya)} {ops:Array Oper} {e:Bool} {cs vs:List AV} {b:List Nat} {r:List SO} {args:List SX} {lg:Log} {d g i n n' off:Nat} {o:Oper} {p q:Prop} {k:SK} {x:SX} {α:Type} {h h':Ya}
def Own (n n':Nat) (b b':List Nat):Prop:=∀id∈b',id∈b∨(n≤id∧id<n')
theorem Own.refl:Own n n b b:=fun _ h=> .inl h
theorem Own.same:Own n n' b b:=fun _ h=> .inl h
theorem Own.trans{n1 n2:Nat}{b1 b2:List Nat}(h1:Own n n1 b b1)(h2:Own n1 n2 b1 b2)(l1:n≤n1)(l2:n1≤n2):Own n n2 b b2:=by
 intro id hid;rcases h2 id hid with h|h
 ·rcases h1 id h with g|g
  ·exact .inl g
  ·exact .inr ⟨g.1,by omega⟩
 ·exact .inr ⟨by omega,h.2⟩
theorem hush_some{m:AM α}{a:α}(e:hush m h n=some (a,h',n',lg)):∃l1,m h n=some (a,h',n',l1):=by
 unfold hush at e;split at e
 ·cases e
 ·rename_i a1 h1 n1 l1 e1;simp only[Zs,Zp]at e;obtain⟨rfl,rfl,rfl,_⟩:=e;exact⟨l1,e1⟩
theorem Qc{β:Type}{m:AM α}{f:α→AM β}{b:β}(e:AM.bind m f h n=some (b,h',n',lg)):∃a h1 n1 l1 l2,m h n=some (a,h1,n1,l1)∧f a h1 n1=some (b,h',n',l2):=by
 unfold AM.bind at e;split at e
 ·cases e
 ·rename_i a h1 n1 l1 e1;split at e
  ·cases e
  ·rename_i b2 h2 n2 l2 e2;simp only[Zs,Zp]at e;obtain⟨rfl,rfl,rfl,_⟩:=e;exact⟨a,h1,n1,l1,l2,e1,e2⟩
theorem Qa{a b:α}(e:AM.pure a h n=some (b,h',n',lg)):b=a∧h'=h∧n'=n:=by
 simp only[AM.pure,Zs,Zp]at e;obtain⟨rfl,rfl,rfl,_⟩:=e;exact⟨rfl,rfl,rfl⟩
theorem Ye9{a:Option α}{b:α}(e:AM.lift a h n=some (b,h',n',lg)):a=some b∧h'=h∧n'=n:=by
 cases a with
 |none=>cases e
 |some a=>
  obtain⟨rfl,rfl,rfl⟩:=Qa e;exact⟨rfl,rfl,rfl⟩
theorem Yrt{w:AV}(e:Yfh v h n=some (w,h',n',lg)){o:Nat}:w≠ .ptr i o:=by
 intro hw;subst hw;cases v with
 |sl id off len sz=>
  simp only[Yfh]at e;obtain⟨o,_,_,_,_,_,f1⟩:=Qc e;cases o with
  |map es=>cases f1
  |cells cs=>
   obtain⟨_,_,_,_,_,_,f2⟩:=Qc f1;obtain⟨_,_,_,_,_,_,f3⟩:=Qc f2;cases(Qa f3).1
 |ptr id off=>
  simp only[Yfh]at e;obtain⟨o,_,_,_,_,_,f1⟩:=Qc e;cases o with
  |map es=>cases f1
  |cells cs=>
   obtain⟨_,_,_,_,_,_,f3⟩:=Qc f1;cases(Qa f3).1
 |_=>
  simp only[Yfh]at e;cases(Qa e).1
section
variable {call:Nat→List AV→AM AV} {P:Program} {A:Ann} {f nt:Nat}
theorem new_ptr{op:Op}{ev:Operand→Option AV}{o:Nat}(hb:Ycs op=true)(e:opM P ev op h n=some (.ptr i o,h',n',lg)):i=n∧n'=n+1:=by
 have key:∀{cs:List AV} {h h':Ya} {n n':Nat} {lg:Log},AM.bind (AM.new (.cells cs)) (fun id=>AM.pure (AV.ptr id 0)) h n=some (.ptr i o,h',n',lg)→i=n∧n'=n+1:=by
  intro cs h h' n n' lg e;obtain⟨_,_,_,_,_,e1,f1⟩:=Qc e;simp only[AM.new,Zs,Zp]at e1;obtain⟨rfl,rfl,rfl,_⟩:=e1;obtain⟨e2,_,rfl⟩:=Qa f1;cases e2;exact⟨rfl,rfl⟩
 cases op with
 |alloc t=>
  simp only[opM]at e;obtain⟨z,_,_,_,_,e1,f1⟩:=Qc e;obtain⟨_,rfl,rfl⟩:=Ye9 e1;split at f1
  ·exact key f1
  ·cases f1
 |box t x=>
  simp only[opM]at e;obtain⟨z,_,_,_,_,e1,f1⟩:=Qc e;obtain⟨_,rfl,rfl⟩:=Ye9 e1;split at f1
  ·exact key f1
  ·cases f1
 |_=>simp[Ycs]at hb
theorem box_opV{regs:Nat→AV}(hb:Ycs o.op=true)(e:opV call P A f o regs h n=some (.ptr i off,h',n',lg)):n≤i∧i<n':=by
 have e':opV call P A f o regs=(if Yg1 A f o.dst then Yr9 (opM P (Qb A regs) o.op) else opM P (Qb A regs) o.op):=by
  unfold opV;split
  ·rename_i x args ts ho;rw[ho]at hb;cases hb
  ·rename_i x m args ts ho;rw[ho]at hb;cases hb
  ·rfl
 rw[e']at e;cases hro:Yg1 A f o.dst with
 |true=>
  rw[hro]at e;simp only[if_true]at e;unfold Yr9 at e;obtain⟨_,e2⟩:=hush_some e;obtain⟨_,_,_,_,_,_,f1⟩:=Qc e2;exact absurd rfl (Yrt f1)
 |false=>
  rw[hro]at e;simp only[Zf,if_false]at e;obtain⟨rfl,rfl⟩:=new_ptr hb e;omega
theorem Yp2(hc:∀g vs,Local (call g vs)){fr fr':Fr}(hf:Qt h n)(e:Qd call P A f nt ops o fr h n=some (fr',h',n',lg)):Own n n' fr.boxes fr'.boxes:=by
 unfold Qd at e;rcases hw:Yy ops o fr.regs with _|_|_<;>simp only[hw]at e
 ·cases e
 rotate_left
 ·obtain⟨v,h1,n1,l1,_,e1,f1⟩:=Qc e;obtain⟨g1,rfl,rfl⟩:=Ye9 f1;have st:=(Ycp P A f hc o fr.regs h n _ _ _ _ hf e1).1;unfold Yh4 at g1;split at g1
  ·simp only[Zs]at g1;subst g1;exact .same
  ·rename_i d hd;split at g1
   ·simp only[Zs]at g1;subst g1;simp only;split
    ·rename_i hb;simp only[Za]at hb;split
     ·rename_i id off;have:=box_opV hb.1 e1;intro x hx;rcases mem_cons.1 hx with rfl|hx
      ·exact .inr this
      ·exact .inl hx
     ·exact .same
    ·exact .same
   ·cases g1
 ·obtain⟨g1,rfl,rfl⟩:=Ye9 e;split at g1
  ·simp only[Zs]at g1;subst g1;exact .same
  ·split at g1
   ·simp only[Zs]at g1;subst g1;exact .same
   ·cases g1
theorem Ykk(hc:∀g vs,Local (call g vs)):∀(l:List Oper) {fr fr':Fr} {h h':Ya} {n n':Nat} {lgs:List Yf1},Qt h n→Xo call P A f nt ops l fr h n=some (fr',h',n',lgs)→Own n n' fr.boxes fr'.boxes∧n≤n'∧Qt h' n'
 |[],fr,fr',h,h',n,n',lgs,hf,e=>by
  simp only[Xo,Zs,Zp]at e;obtain⟨rfl,rfl,rfl,_⟩:=e;exact⟨.refl,Zl _,hf⟩
 |o::l,fr,fr',h,h',n,n',lgs,hf,e=>by
  unfold Xo at e;split at e
  ·cases e
  ·rename_i fr1 h1 n1 lg e1;have st:=(Qk P A f nt hc ops o fr h n _ _ _ _ hf e1).1;split at e
   ·cases e
   ·rename_i fr2 h2 n2 lgs2 e2;simp only[Zs,Zp]at e;obtain⟨rfl,rfl,rfl,_⟩:=e;obtain⟨a,b,c⟩:=Ykk hc l st.fresh e2;exact⟨(Yp2 hc hf e1).trans a st.le b,Nat.le_trans st.le b,c⟩
theorem Ykj(hc:∀g vs,Local (call g vs)):∀(l:List Oper) {fr fr':Fr} {h h':Ya} {n n':Nat} {lg:Log},Qt h n→Ybx call P A f nt ops l fr h n=some (fr',h',n',lg)→Own n n' fr.boxes fr'.boxes∧n≤n'
 |[],fr,fr',h,h',n,n',lg,hf,e=>by
  obtain⟨rfl,rfl,rfl⟩:=Qa e;exact⟨.refl,Zl _⟩
 |o::l,fr,fr',h,h',n,n',lg,hf,e=>by
  unfold Ybx at e;obtain⟨fr1,h1,n1,_,_,e1,f1⟩:=Qc e;have st:=(Qk P A f nt hc ops o fr h n _ _ _ _ hf e1).1;obtain⟨a,b⟩:=Ykj hc l st.fresh f1;exact⟨(Yp2 hc hf e1).trans a st.le b,Nat.le_trans st.le b⟩
theorem Yp3{body:Fr→AM (AX×Fr)}(hl:∀fr,Local (body fr))(H:∀fr x fr' h h' n n' lg,Qt h n→body fr h n=some ((x,fr'),h',n',lg)→Own n n' fr.boxes fr'.boxes):∀(k:Nat) {fr fr':Fr} {x:AX} {h h':Ya} {n n':Nat} {lg:Log},Qt h n→
  Yeg body k fr h n=some ((x,fr'),h',n',lg)→Own n n' fr.boxes fr'.boxes∧n≤n'
 |0,_,_,_,_,_,_,_,_,_,e=>by cases e
 |k+1,fr,fr',x,h,h',n,n',lg,hf,e=>by
  unfold Yeg at e;obtain⟨⟨x1,fr1⟩,h1,n1,_,_,e1,f1⟩:=Qc e;have st:=(hl fr h n _ _ _ _ hf e1).1;have o1:=H _ _ _ _ _ _ _ _ hf e1;cases x1 with
  |norm=>
   obtain⟨a,b⟩:=Yp3 hl H k st.fresh f1;exact⟨o1.trans a st.le b,Nat.le_trans st.le b⟩
  |exit i=>
   obtain⟨e2,rfl,rfl⟩:=Qa f1;cases e2;exact⟨o1,st.le⟩
  |ret=>
   obtain⟨e2,rfl,rfl⟩:=Qa f1;cases e2;exact⟨o1,st.le⟩
theorem Yig(hc:∀g vs,Local (call g vs))(k:Nat):∀(c:Code) {fr fr':Fr} {x:AX} {h h':Ya} {n n':Nat} {lg:Log},Qt h n→Jr call P A f nt k c fr h n=some ((x,fr'),h',n',lg)→Own n n' fr.boxes fr'.boxes∧n≤n':=by
 intro c
 induction c with
 |skip=>intro fr fr' x h h' n n' lg hf e;obtain⟨e2,rfl,rfl⟩:=Qa e;cases e2;exact⟨.refl,Zl _⟩
 |exit i=>intro fr fr' x h h' n n' lg hf e;obtain⟨e2,rfl,rfl⟩:=Qa e;cases e2;exact⟨.refl,Zl _⟩
 |ret=>intro fr fr' x h h' n n' lg hf e;obtain⟨e2,rfl,rfl⟩:=Qa e;cases e2;exact⟨.refl,Zl _⟩
 |region i ops dr=>
  intro fr fr' x h h' n n' lg hf e;simp only[Jr]at e;obtain⟨fr1,h1,n1,_,_,e1,f1⟩:=Qc e;obtain⟨e2,rfl,rfl⟩:=Qa f1;cases e2;split at e1
  ·obtain⟨lgs,e3⟩:=Yom P A f nt e1;obtain⟨a,b,_⟩:=Ykk hc _ hf e3;exact⟨a,b⟩
  ·exact Ykj hc _ hf e1
 |seq a b iha ihb=>
  intro fr fr' x h h' n n' lg hf e;simp only[Jr]at e;obtain⟨⟨x1,fr1⟩,h1,n1,_,_,e1,f1⟩:=Qc e;have st:=(Qo P A f nt hc k a fr h n _ _ _ _ hf e1).1;obtain⟨o1,l1⟩:=iha hf e1;cases x1 with
  |norm=>
   obtain⟨o2,l2⟩:=ihb st.fresh f1;exact⟨o1.trans o2 l1 l2,Nat.le_trans l1 l2⟩
  |exit i=>
   obtain⟨e2,rfl,rfl⟩:=Qa f1;cases e2;exact⟨o1,l1⟩
  |ret=>
   obtain⟨e2,rfl,rfl⟩:=Qa f1;cases e2;exact⟨o1,l1⟩
 |cond c a b iha ihb=>
  intro fr fr' x h h' n n' lg hf e;simp only[Jr]at e;obtain⟨m,hm⟩:∃m,m=Qb A fr.regs c:=⟨_,rfl⟩;rw[←hm]at e;rcases m with _|v
  ·cases e
  ·cases v with
   |bool b=>
    cases b with
    |true=>exact iha hf e
    |false=>exact ihb hf e
   |_=>cases e
 |block i b ih=>
  intro fr fr' x h h' n n' lg hf e;simp only[Jr]at e;obtain⟨⟨x1,fr1⟩,h1,n1,_,_,e1,f1⟩:=Qc e;obtain⟨e2,rfl,rfl⟩:=Qa f1;cases e2;exact ih hf e1
 |loop b ih=>
  intro fr fr' x h h' n n' lg hf e;simp only[Jr]at e;exact Yp3 (fun fr=>Qo P A f nt hc k b fr) (fun fr x fr' h h' n n' lg hf e=>(ih hf e).1) k hf e
 |_=>intro fr fr' x h h' n n' lg hf e;simp only[Jr]at e;cases e
end
def Yv (l:List Nat) (h:Ya):Ya:=fun id=>if l.contains id=true then none else h id
theorem Yl:Yv [] h=h:=by
 funext id;simp[Yv]
section
variable {P:Program} {A:Ann} {f nt:Nat}
def HCallC (P:Program) (A:Ann) (g:Nat) (vs:List AV) (h:Ya) (Q:AV→Ya→Prop):Prop:=∀n,Qt h n→∃k v h' n' lg,Xg P A k g vs h n=some (v,h',n',lg)∧Q v h'
theorem PureC.call(H:PureC P A g vs v):HCallC P A g vs h fun w h'=>w=v∧h'=h:=by
 intro n hn;obtain⟨k,n',e⟩:=H h n hn;exact⟨k,v,h,n',_,e,rfl,rfl⟩
variable {E:Env} {bx:List Nat} {h:Ya} {Q:AX→Env→List Nat→Ya→Prop} {h0:Ya} {q:Nat}
theorem Yma(hk:slK P A (Yg1 A f o.dst) o.op=some (.call x args)):∃x0 a0 ts,o.op= .call {callee:= .value x0,args:=a0,argTypes:=ts}∧slX A x0=some x∧Yq8 A a0.toList=some args:=by
 generalize hop:o.op=op at hk;cases op with
 |call c=>
  obtain⟨callee,a0,ts⟩:=c;cases callee with
  |value x0=>
   simp only[slK]at hk;split at hk
   ·rename_i y a h3 h4;simp only[Zs,SK.call.injEq]at hk;obtain⟨rfl,rfl⟩:=hk;exact⟨x0,a0,ts,rfl,h3,h4⟩
   ·cases hk
  |invoke x0 m=>
   exfalso;simp only[slK]at hk;split at hk
   ·simp at hk
   ·cases hk
  |builtin b=>
   exfalso;cases b<;>simp only[slK]at hk<;>repeat' (first|(cases hk;done)|(obtain⟨_,_,h⟩:=Ya5 hk;cases h;done)|(split at hk))
 |slice t x lo hi mx=>
  exfalso;cases mx<;>simp only[slK]at hk<;>repeat' (first|(cases hk;done)|(obtain⟨_,_,h⟩:=Ya5 hk;cases h;done)|(split at hk))
 |_=>
  exfalso;simp only[slK]at hk
  repeat' (first|(cases hk;done)|(obtain⟨_,_,h⟩:=Ya5 hk;cases h;done)|(split at hk))
theorem Yb{dst:Option Nat}{first cap:List AV}{Q1:AV→Ya→Prop}(hq:q=0)(hd:Y8 nt dst=true)(hx:ev (lk E) x=some (.fn g first cap))(ha:evS (lk E) args=some vs)
  (hc:HCallC P A g (first++vs++cap) h Q1)(H:∀v h1,Q1 v h1→Yu P A f nt h0 0 r (Ysa dst v E) bx h1 Q):Yu P A f nt h0 q (⟨dst,none,.call x args⟩::r) E bx h Q:=by
 subst hq;refine o_heap (Q1:=Q1) ?_ ?_
 ·intro o rg hdd e hs;obtain⟨x0,a0,ts,ho,hx0,ha0⟩:=Yma (Jp e rfl);intro n hn;obtain⟨k,v,h',n',lg,e1,q1⟩:=hc n hn;refine⟨k,v,h',n',([]++lg.1,[]++lg.2),?_,Kk,q1⟩;unfold opV;rw[ho];simp only[Yg hs hx0 hx,J0 hs ha0 ha];exact Xq (l1:=([],[])) rfl e1
 ·intro v h1 o rg hdd e hv;obtain⟨x0,a0,ts,ho,_⟩:=Yma (Jp e rfl);exact⟨bx,Jx hdd hd (by rw[ho];rfl),H v h1 hv⟩
theorem b2s_inv(hk:slK P A (Yg1 A f o.dst) o.op=some (.b2s x)):∃s d x0 e,o.op= .convert s d x0∧slX A x0=some x∧P.underlying s=some (.slice e)∧P.underlying d=some .string∧J4 P e=true∧Yg1 A f o.dst=false:=by
 generalize hop:o.op=op at hk;cases op with
 |convert s d x0=>
  simp only[slK]at hk;split at hk
  ·cases hk
  ·rename_i hro;split at hk
   ·cases hk
   ·cases hk
   ·rename_i y e q1 q2 q3;split at hk
    ·rename_i q4;simp only[Zs,SK.b2s.injEq]at hk;subst hk;exact⟨s,d,x0,e,rfl,q1,q2,q3,q4,by simpa using hro⟩
    ·cases hk
   ·cases hk
 |call c=>
  exfalso;obtain⟨callee,a0,ts⟩:=c;cases callee with
  |builtin b=>cases b<;>simp only[slK]at hk<;>repeat' (first|(cases hk;done)|(obtain⟨_,_,h⟩:=Ya5 hk;cases h;done)|(split at hk))
  |_=>
   simp only[slK]at hk
   repeat' (first|(cases hk;done)|(split at hk))
 |slice t x lo hi mx=>
  exfalso;cases mx<;>simp only[slK]at hk<;>repeat' (first|(cases hk;done)|(obtain⟨_,_,h⟩:=Ya5 hk;cases h;done)|(split at hk))
 |_=>
  exfalso;simp only[slK]at hk
  repeat' (first|(cases hk;done)|(obtain⟨_,_,h⟩:=Ya5 hk;cases h;done)|(split at hk))
theorem o_b2sh{id len:Nat}{l:List AV}{c:List UInt8}(hlt:(decide (d<nt))=true)(hx:ev (lk E) x=some (.sl id off len 1))(hid:h id=some (.cells cs))(h0id:0<q→h0 id≠none)(hl:Yp cs off len=some l)(hc:Yae l=some c)
  (H:Yu P A f nt h0 (q-1) r ((d,.str c)::E) bx h Q):Yu P A f nt h0 q (⟨some d,none,.b2s x⟩::r) E bx h Q:=by
 refine o_heap (Q1:=fun w h1=>w= .str c∧h1=h) ?_ ?_
 ·intro o rg hd e hs;obtain⟨s,dt,x0,e',hop,hx0,hs1,hd1,hb,hro⟩:=b2s_inv (Jp e rfl);refine Ybk (by simp[NC,hop]) hro (fun n' hn=>?_);refine⟨_,h,n',([id],[]),?_,fun hq=>⟨rfl,by simpa using h0id hq⟩,rfl,rfl⟩;rw[hop];simp only[opM,Yg hs hx0 hx,Yd,Yj,K3,hs1,hd1];rw[if_pos ⟨trivial,hb⟩];simp only[AM.bind,Xt,AM.get,hid,AM.lift,hl,hc,Option.map_some,AM.pure];rfl
 ·rintro w h1 o rg hd e ⟨rfl,rfl⟩;obtain⟨s,dt,x0,e',hop,_⟩:=b2s_inv (Jp e rfl);exact⟨bx,Jx hd (by simpa[Y8]using hlt) (by rw[hop];rfl),H⟩
end
section
variable {P:Program} {A:Ann} {f nt:Nat} {E:Env} {bx:List Nat} {h:Ya} {Q:AX→Env→List Nat→Ya→Prop} {h0:Ya} {q:Nat}
theorem fill_nil:Ybt (lk E) cs []=some cs:=rfl
theorem fill_one{cs' out:List AV}{o:Nat}{r:List (Nat×Nat×SX)}(hx:ev (lk E) x=some v)(ho:v.one=true)(hs:Yps cs o v=some cs')(H:Ybt (lk E) cs' r=some out):Ybt (lk E) cs ((o,1,x)::r)=some out:=by
 simp only[Ybt,hx];cases v with
 |agg l=>cases ho
 |_=>simp only[if_true,hs,H]
theorem o_bld{z:List AV}{ps:List (Nat×Nat×SX)}(hlt:(decide (d<nt))=true)(hf:Ybt (lk E) z ps=some cs)(H:Yu P A f nt h0 (q-1) r ((d,.agg cs)::E) bx h Q):Yu P A f nt h0 q (⟨some d,none,.bld z ps⟩::r) E bx h Q:=
 Yq (p:=True) (v:= .agg cs) hlt (by simp only[sv,hf]) trivial H
theorem fzW_nil:fzW fz [] h=some ([],h):=rfl
theorem Yb2{v':AV}{r r':List AV}{h1 h2:Ya}(e1:fz v h=some (v',h1))(e2:fzW fz r h1=some (r',h2)):fzW fz (v::r) h=some (v'::r',h2):=by
 simp only[fzW,e1,e2]
theorem fzV_agg{k:Nat}{cs':List AV}(e:fzW (fzV k) cs h=some (cs',h')):fzV (k+1) (.agg cs) h=some (.agg cs',h'):=by
 simp only[fzV,e]
theorem fzV_sl{k id len sz:Nat}{l l':List AV}(hid:h id=some (.cells cs))(hs:Yp cs off (len*sz)=some l)(e:fzW (fzV k) l (upd h id none)=some (l',h')):fzV (k+1) (.sl id off len sz) h=some (.tsl l' len,h'):=by
 simp only[fzV,hid,hs,e]
end
inductive ResR (P:Program) (E:Env) (h:Ya):List ResultVar→List AV→Prop where
 |nil:ResR P E h [] []
 |tmp {t:Nat} {v:AV} {l:List ResultVar} {vs:List AV} (h1:lk E t=some v) (H:ResR P E h l vs):ResR P E h (.tmp t::l) (v::vs)
 |cell {a:Nat} {t:TypeId} {id off:Nat} {cs:List AV} {v:AV} {l:List ResultVar} {vs:List AV} (h1:lk E a=some (.ptr id off)) (h2:Yfp P t=some none) (h3:h id=some (.cells cs)) (h4:cs[off]?=some v) (H:ResR P E h l vs):ResR P E h (.cell a t::l) (v::vs)
 |cells {a:Nat} {t:TypeId} {id off m:Nat} {cs l':List AV} {l:List ResultVar} {vs:List AV} (h1:lk E a=some (.ptr id off)) (h2:Yfp P t=some (some m)) (h3:h id=some (.cells cs)) (h4:Yp cs off m=some l') (H:ResR P E h l vs):ResR P E h (.cell a t::l) (.agg l'::vs)
section
variable {P:Program} {A:Ann} {f nt:Nat} {E:Env} {bx:List Nat} {h:Ya} {Q:AX→Env→List Nat→Ya→Prop} {h0:Ya} {q:Nat}
theorem ResR.run{l:List ResultVar}(H:ResR P E h l vs){rg:Nat→AV}(hs:Sat (lk E) rg)(n:Nat):∃rd,Qr P rg l h n=some (vs,h,n,(rd,[])):=by
 induction H with
 |nil=>exact⟨[],rfl⟩
 |tmp h1 _ ih=>
  obtain⟨rd,e⟩:=ih;refine⟨rd++[],?_⟩;simp only[Qr,hs _ _ h1];exact Xq (l2:=([],[])) e rfl
 |cell h1 h2 h3 h4 _ ih=>
  obtain⟨rd,e⟩:=ih;rename_i a t id off cs v l vs _;have e1:Kq P t (rg a) h n=some (v,h,n,([id],[])):=by
   rcases Xz h2 with ⟨m,e,_,_⟩|⟨_,g1,m,g2⟩
   ·cases e
   ·have hsl:Yp cs off 1=some [v]:=by
     have hlt:=(Zi.1 h4).1;unfold Yp;rw[if_pos (by omega)]
     congr 1
     rw[drop_eq_getElem_cons hlt,(Zi.1 h4).2];rfl
    rw[hs _ _ h1];simp only[Kq,g1,g2,Xt];simp only[AM.bind,AM.get,h3,Zf,if_false,hsl,AM.lift,AM.pure,X9];rfl
  refine⟨[id]++(rd++[]),?_⟩;simp only[Qr];have e2:=Xq (f:=fun vs=>AM.pure (v::vs)) (l2:=([],[])) e rfl;exact Xq (f:=fun v=>AM.bind (Qr P rg l) fun vs=>AM.pure (v::vs)) e1 e2
 |cells h1 h2 h3 h4 _ ih=>
  obtain⟨rd,e⟩:=ih;rename_i a t id off m cs l' l vs _;have e1:Kq P t (rg a) h n=some (.agg l',h,n,([id],[])):=by
   rcases Xz h2 with ⟨m',e,g1,g2⟩|⟨e,_⟩
   ·cases e;rw[hs _ _ h1];simp only[Kq,g1,g2,Xt];simp only[AM.bind,AM.get,h3,if_true,h4,AM.lift,AM.pure,X9];rfl
   ·cases e
  refine⟨[id]++(rd++[]),?_⟩;simp only[Qr];have e2:=Xq (f:=fun vs=>AM.pure (AV.agg l'::vs)) (l2:=([],[])) e rfl;exact Xq (f:=fun v=>AM.bind (Qr P rg l) fun vs=>AM.pure (v::vs)) e1 e2
end
theorem tS(x:q)(h:q→p:=by intro x;(repeat (with_reducible first|apply K5|apply Yf5|apply Yrb|apply Yci|apply Ybg|apply Yf6|apply Ylf|apply X8|apply X0|apply Yau|apply Yc0|apply Yc7|apply Yax|apply Yc6|apply Yav|apply Yc1|apply Jl|apply Yaw|apply jqB_exit|apply Ydh|apply jq_exit|apply Ygj));exact x):p:=h x
theorem tw(x:q)(h:q→p:=by intro x;(first
 |((with_reducible apply o_valW);exact rfl;exact rfl;exact rfl;exact trivial)
 |(with_reducible first|apply K5|apply Yf5|apply Yrb|apply Yci|apply Ybg|apply Yf6|apply Ylf|apply X8|apply X0|apply Yau|apply Yc0|apply Yc7|apply Yax|apply Yc6|apply Yav|apply Yc1|apply Jl|apply Yaw|apply jqB_exit|apply Ydh|apply jq_exit|apply Ygj)
 |((with_reducible apply Ybf);exact rfl)|((with_reducible apply Yb6);exact rfl)|((with_reducible apply Yay);exact rfl;exact rfl)|((with_reducible apply Ydd);exact rfl;exact rfl)|((with_reducible apply Ydc);exact rfl;exact rfl)|((with_reducible apply Ybw);exact rfl));exact x):p:=h x
theorem tv(x:q)(h:q→p:=by intro x;(first
 |((with_reducible apply Ym9);exact rfl;exact rfl;exact rfl;exact trivial)
 |(with_reducible first|apply K5|apply Yf5|apply Yrb|apply Yci|apply Ybg|apply Yf6|apply Ylf|apply X8|apply X0|apply Yau|apply Yc0|apply Yc7|apply Yax|apply Yc6|apply Yav|apply Yc1|apply Jl|apply Yaw|apply jqB_exit|apply Ydh|apply jq_exit|apply Ygj)
 |((with_reducible apply Ybf);exact rfl)|((with_reducible apply Yb6);exact rfl)|((with_reducible apply Yay);exact rfl;exact rfl)|((with_reducible apply Ydd);exact rfl;exact rfl)|((with_reducible apply Ydc);exact rfl;exact rfl)|((with_reducible apply Ybw);exact rfl));exact x):p:=h x
theorem tW(x:q)(h:q→p:=by intro x;(repeat (first
 |((with_reducible apply o_valW);exact rfl;exact rfl;exact rfl;exact trivial)
 |(with_reducible first|apply K5|apply Yf5|apply Yrb|apply Yci|apply Ybg|apply Yf6|apply Ylf|apply X8|apply X0|apply Yau|apply Yc0|apply Yc7|apply Yax|apply Yc6|apply Yav|apply Yc1|apply Jl|apply Yaw|apply jqB_exit|apply Ydh|apply jq_exit|apply Ygj)
 |((with_reducible apply Ybf);exact rfl)|((with_reducible apply Yb6);exact rfl)|((with_reducible apply Yay);exact rfl;exact rfl)|((with_reducible apply Ydd);exact rfl;exact rfl)|((with_reducible apply Ydc);exact rfl;exact rfl)|((with_reducible apply Ybw);exact rfl)));exact x):p:=h x
theorem tV(x:q)(h:q→p:=by intro x;(repeat (first
 |((with_reducible apply Ym9);exact rfl;exact rfl;exact rfl;exact trivial)
 |(with_reducible first|apply K5|apply Yf5|apply Yrb|apply Yci|apply Ybg|apply Yf6|apply Ylf|apply X8|apply X0|apply Yau|apply Yc0|apply Yc7|apply Yax|apply Yc6|apply Yav|apply Yc1|apply Jl|apply Yaw|apply jqB_exit|apply Ydh|apply jq_exit|apply Ygj)
 |((with_reducible apply Ybf);exact rfl)|((with_reducible apply Yb6);exact rfl)|((with_reducible apply Yay);exact rfl;exact rfl)|((with_reducible apply Ydd);exact rfl;exact rfl)|((with_reducible apply Ydc);exact rfl;exact rfl)|((with_reducible apply Ybw);exact rfl)));exact x):p:=h x
theorem tX(x:q)(h:q→p:=by intro x;(repeat (first
 |(with_reducible first|apply K5|apply Yf5|apply Yci|apply Ybg|apply Yf6|apply Ylf|apply X8|apply X0|apply Yau|apply Yc0|apply Yc7|apply Yax|apply Yc6|apply Yav|apply Yc1|apply Jl|apply Yaw|apply jqB_exit|apply Ydh|apply jq_exit|apply Ygj)
 |((with_reducible apply Ybf);exact rfl)|((with_reducible apply Yb6);exact rfl)|((with_reducible apply Ybw);exact rfl)));exact x):p:=h x
theorem tG(x:q)(h:q→p:=by intro x;(try ((with_reducible apply Yay);exact rfl;exact rfl));exact x):p:=h x
theorem tU{E' E:Env}(h:Sub E' E:=by(repeat apply Ka rfl);exact Yg4):Sub E' E:=h
section
variable {P:Program} {A:Ann} {f nt q:Nat} {E:Env} {bx:List Nat} {h h0:Ya} {Q:AX→Env→List Nat→Ya→Prop}
theorem oI(c:Prop)(T:c→Yu P A f nt h0 (q-1) r ((d,.bool true)::E) bx h Q)(F:¬c→Yu P A f nt h0 (q-1) r ((d,.bool false)::E) bx h Q)
  (hlt:(decide (d<nt))=true:=by exact rfl)(hv:sv (lk E) k=some (p,.bool e):=by exact rfl)(hp:p:=by exact trivial)
  (h1:c→e=true:=by intro H;first|exact Zt H|exact Zt (by omega)|(simp;omega))
  (h2:¬c→e=false:=by intro H;first|exact Zx H|exact Zx (by omega)|(simp;omega)):Yu P A f nt h0 q (⟨some d,none,k⟩::r) E bx h Q:=by
 refine o_bool hlt hv hp fun b hb=>?_;subst hb;by_cases hc:c
 ·have e:=h1 hc;subst e;exact T hc
 ·have e:=h2 hc;subst e;exact F hc
theorem oB(H:∀b,b=e→Yu P A f nt h0 (q-1) r ((d,.bool b)::E) bx h Q)
  (hlt:(decide (d<nt))=true:=by exact rfl)(hv:sv (lk E) k=some (p,.bool e):=by exact rfl)(hp:p:=by exact trivial):Yu P A f nt h0 q (⟨some d,none,k⟩::r) E bx h Q:=
 o_bool hlt hv hp H
end
end Go.Abs
