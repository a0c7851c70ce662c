import Derived.Test.YtibdecjfdpmfoaaGreatAbsLocalB
namespace Go.Abs
open List hiding all cons nil
variable {v:AV} {ops:Array Oper} {b c:Code} {fr1:Fr} {fn:Func} {args cs:List AV} {r:List Oper} {lg:Log} {g i k k' n n':Nat} {regs:Nat→AV} {call:Nat→List AV→AM AV} {o:Oper} {α β:Type} {h h':Ya} {m m':AM α}
theorem Yr1{γ:Type}(m:AM α)(f:α→AM β)(g:β→AM γ):AM.bind (AM.bind m f) g=AM.bind m fun a=>AM.bind (f a) g:=by
 funext h n;unfold AM.bind;cases m h n with
 |none=>rfl
 |some x=>
  obtain⟨a,h1,n1,l1⟩:=x;simp only;cases f a h1 n1 with
  |none=>rfl
  |some y=>
   obtain⟨b,h2,n2,l2⟩:=y;simp only;cases g b h2 n2 with
   |none=>rfl
   |some z=>simp[append_assoc]
theorem Xq{f:α→AM β}{h1 h2:Ya}{n1 n2:Nat}{a:α}{b:β}{l1 l2:Log}(e1:m h n=some (a,h1,n1,l1))(e2:f a h1 n1=some (b,h2,n2,l2)) :
  AM.bind m f h n=some (b,h2,n2,(l1.1++l2.1,l1.2++l2.2)):=by
 unfold AM.bind;rw[e1];simp only;rw[e2]
theorem Yj(a:α)(f:α→AM β):AM.bind (AM.pure a) f=f a:=by
 funext h n;unfold AM.bind AM.pure;simp only;cases f a h n with
 |none=>rfl
 |some x=>simp
theorem Yd(a:α):AM.lift (some a)=AM.pure a:=rfl
def Le {α:Type} (m m':AM α):Prop:=∀h n r,m h n=some r→m' h n=some r
theorem Le.refl(m:AM α):Le m m:=fun _ _ _ h=>h
theorem Le.bind{f f':α→AM β}(hm:Le m m')(hf:∀a,Le (f a) (f' a)):Le (AM.bind m f) (AM.bind m' f'):=by
 intro h n r e;unfold AM.bind at e ⊢;split at e
 ·cases e
 ·rename_i a h1 n1 lg e1;rw[hm _ _ _ e1];simp only;split at e
  ·cases e
  ·rename_i b h2 n2 lg2 e2;rw[hf a _ _ _ e2];exact e
section
variable {call call':Nat→List AV→AM AV} {P:Program} {A:Ann} {f nt:Nat}
theorem le_opV(hc:∀g vs,Le (call g vs) (call' g vs))(o:Oper)(regs:Nat→AV):Le (opV call P A f o regs) (opV call' P A f o regs):=by
 unfold opV;cases o.op with
 |call c=>
  obtain⟨callee,args,ts⟩:=c;cases callee with
  |value x=>
   simp only;cases Qb A regs x with
   |none=>exact Le.refl _
   |some v=>
    cases v with
    |fn g a b=>exact Le.bind (Le.refl _) fun _=>hc _ _
    |_=>exact Le.refl _
  |invoke x m=>
   simp only;cases Qb A regs x with
   |none=>exact Le.refl _
   |some v=>
    cases v with
    |ifc t w=>
     simp only;cases Yrh P t m with
     |none=>exact Le.refl _
     |some ge=>
      obtain⟨g,oe⟩:=ge;cases oe with
      |none=>exact Le.bind (Le.refl _) fun _=>hc _ _
      |some e=>exact Le.bind (Le.refl _) fun _=>Le.bind (Le.refl _) fun _=>hc _ _
    |_=>exact Le.refl _
  |_=>exact Le.refl _
 |_=>exact Le.refl _
theorem Yb0(hc:∀g vs,Le (call g vs) (call' g vs))(ops:Array Oper)(o:Oper)(fr:Fr):Le (Qd call P A f nt ops o fr) (Qd call' P A f nt ops o fr):=by
 unfold Qd;cases Yy ops o fr.regs with
 |none=>exact Le.refl _
 |some b=>
  cases b with
  |true=>exact Le.bind (le_opV hc o _) fun _=>Le.refl _
  |false=>exact Le.refl _
theorem Ycq(hc:∀g vs,Le (call g vs) (call' g vs))(ops:Array Oper):∀(l:List Oper) (fr:Fr) (h:Ya) (n:Nat) r,Xo call P A f nt ops l fr h n=some r→Xo call' P A f nt ops l fr h n=some r
 |[],_,_,_,_,e=>e
 |o::l,fr,h,n,r,e=>by
  unfold Xo at e ⊢;split at e
  ·cases e
  ·rename_i fr1 h1 n1 lg e1;rw[Yb0 hc ops o fr _ _ _ e1];simp only;split at e
   ·cases e
   ·rename_i fr2 h2 n2 lgs e2;rw[Ycq hc ops l _ _ _ _ e2];exact e
theorem Kj(ops:Array Oper):∀(l:List Oper) (fr:Fr) (h:Ya) (n:Nat) {fr' h' n' lgs},Xo call P A f nt ops l fr h n=some (fr',h',n',lgs)→Ybx call P A f nt ops l fr h n=some (fr',h',n',Xk lgs)
 |[],fr,h,n,fr',h',n',lgs,e=>by
  simp only[Xo,Zs,Zp]at e;obtain⟨rfl,rfl,rfl,rfl⟩:=e;rfl
 |o::l,fr,h,n,fr',h',n',lgs,e=>by
  unfold Xo at e;split at e
  ·cases e
  ·rename_i fr1 h1 n1 lg e1;split at e
   ·cases e
   ·rename_i fr2 h2 n2 lgs2 e2;simp only[Zs,Zp]at e;obtain⟨rfl,rfl,rfl,rfl⟩:=e;unfold Ybx AM.bind;rw[e1];simp only;rw[Kj ops l _ _ _ e2];simp[Xk]
theorem Ynn(hc:∀g vs,Le (call g vs) (call' g vs))(ops:Array Oper):∀(l:List Oper) (fr:Fr),Le (Ybx call P A f nt ops l fr) (Ybx call' P A f nt ops l fr)
 |[],_=>Le.refl _
 |o::l,fr=>Le.bind (Yb0 hc ops o fr) fun fr=>Ynn hc ops l fr
theorem Le.withLog(hm:Le m m'):Le (withLog m) (withLog m'):=by
 intro h n r e;unfold Go.Abs.withLog at e ⊢;cases e1:m h n with
 |none=>rw[e1]at e;cases e
 |some x=>rw[e1]at e;rw[hm h n x e1];exact e
theorem Le.both{γ:Type}{p p':α→AM β}{c:α→β→Option γ}(hm:Le m m')(hp:∀a,Le (p a) (p' a)):Le (AM.both m p c) (AM.both m' p' c):=by
 intro h n r e;unfold AM.both at e ⊢;cases e1:m h n with
 |none=>rw[e1]at e;cases e
 |some x=>
  obtain⟨a,h1,n1,l1⟩:=x;rw[e1]at e;rw[hm h n _ e1];simp only at e ⊢;cases e2:p a h n with
  |none=>rw[e2]at e;cases e
  |some y=>rw[e2]at e;rw[hp a h n y e2];exact e
theorem le_runD(hc:∀g vs,Le (call g vs) (call' g vs))(ops:Array Oper):∀(l:List Oper) (fr:Fr),Le (runD call P A f nt ops l fr) (runD call' P A f nt ops l fr)
 |[],_=>Le.refl _
 |_::r,_=>Le.bind (Le.withLog (Yb0 hc _ _ _)) fun x=>Le.bind (le_runD hc ops r x.1) fun _=>Le.refl _
theorem Yku(hc:∀g vs,Le (call g vs) (call' g vs))(ops:Array Oper)(ps:List Pl):∀(l:List Oper) (fr:Fr),Le (Ybh call P A f nt ops ps l fr) (Ybh call' P A f nt ops ps l fr)
 |[],_=>Le.refl _
 |_::r,_=>Le.bind (Le.refl _) fun _=>Le.bind (Yb0 hc _ _ _) fun fr'=>Le.bind (Yku hc ops ps r fr') fun _=>Le.refl _
theorem Yrn(hc:∀g vs,Le (call g vs) (call' g vs))(ops:Array Oper)(fr:Fr):Le (Q9 call P A f nt ops fr) (Q9 call' P A f nt ops fr):=by
 intro h n r e;unfold Q9 at e ⊢;cases e1:Xo call P A f nt ops ops.toList fr h n with
 |none=>rw[e1]at e;cases e
 |some x=>
  obtain⟨fr',h',n',lgs⟩:=x;rw[e1]at e;rw[Ycq hc ops _ _ _ _ _ e1];simp only at e ⊢;split
  ·rename_i hcm;rw[if_pos hcm]at e;exact e
  ·rename_i hcm;rw[if_neg hcm]at e;exact Le.both (le_runD hc ops _ _) (fun a=>Yku hc ops _ _ _) h n r e
theorem Yly{b b':Fr→AM (AX×Fr)}(hb:∀fr,Le (b fr) (b' fr)):∀(k k':Nat),k≤k'→∀fr,Le (Yeg b k fr) (Yeg b' k' fr)
 |0,_,_,_=>fun _ _ _ h=>by cases h
 |k+1,0,h,_=>by omega
 |k+1,k'+1,h,fr=>by
  unfold Yeg;refine Le.bind (hb fr) fun x=>?_;split
  ·exact Yly hb k k' (by omega) _
  ·exact Le.refl _
theorem Yej(hc:∀g vs,Le (call g vs) (call' g vs))(hk:k≤k'):∀(c:Code) (fr:Fr),Le (Jr call P A f nt k c fr) (Jr call' P A f nt k' c fr):=by
 intro c
 induction c with
 |region id ops draw=>
  intro fr;unfold Jr;refine Le.bind ?_ fun _=>Le.refl _;split
  ·exact Yrn hc _ _
  ·exact Ynn hc _ _ _
 |seq a b iha ihb=>
  intro fr;unfold Jr;refine Le.bind (iha fr) fun x=>?_;split
  ·exact ihb _
  ·exact Le.refl _
 |cond c a b iha ihb=>
  intro fr;unfold Jr;split
  ·exact iha _
  ·exact ihb _
  ·exact Le.refl _
 |block id b ih=>intro fr;unfold Jr;exact Le.bind (ih fr) fun _=>Le.refl _
 |loop b ih=>intro fr;unfold Jr;exact Yly (fun fr=>ih fr) k k' hk fr
 |_=>intro fr;unfold Jr;exact Le.refl _
theorem le_body(hc:∀g vs,Le (call g vs) (call' g vs))(hk:k≤k')(f:Nat)(args:List AV):Le (body call P A k f args) (body call' P A k' f args):=by
 unfold body;split
 ·split
  ·split
   ·exact Le.refl _
   ·exact Le.bind (Yej hc hk _ _) fun _=>Le.refl _
  ·exact Le.refl _
 ·exact Le.refl _
theorem Qx:∀{k k':Nat},k≤k'→∀(g:Nat) (vs:List AV),Le (Xg P A k g vs) (Xg P A k' g vs)
 |0,_,_,_,_=>fun _ _ _ h=>by cases h
 |k+1,0,h,_,_=>by omega
 |k+1,k'+1,h,g,vs=>by
  have ho:Le (Ycb (Xg P A k) P A k g vs) (Ycb (Xg P A k') P A k' g vs):=by
   intro hp n r e;unfold Ycb at e ⊢;split at e
   ·cases e
   ·rename_i v boxes h1 n1 lg e1;rw[le_body (fun g vs=>Qx (by omega) g vs) (by omega) g vs _ _ _ e1];exact e
  intro hp n r e;unfold Xg at e ⊢;split at e
  ·rename_i hc;obtain⟨v,h',n',lg⟩:=r;obtain⟨rfl,rfl,rfl,ht,h1,n1,l1,e1⟩:=Ycy e;rw[if_pos hc];exact Yio ht (ho _ _ _ e1) _ _
  ·rename_i hc;rw[if_neg hc];exact ho _ _ _ e
theorem le_op(hk:k≤k')(o:Oper)(regs:Nat→AV):Le (opV (Xg P A k) P A f o regs) (opV (Xg P A k') P A f o regs):=le_opV (fun g vs=>Qx hk g vs) o regs
end
def hp0:Ya:=fun _=>none
section
variable (P:Program) (A:Ann)
def PureC (g:Nat) (vs:List AV) (v:AV):Prop:=∀h n,Qt h n→∃k n',Xg P A k g vs h n=some (v,h,n',([],[]))
variable (f nt:Nat)
def RdOp (h0:Ya) (q:Nat) (o:Oper) (regs:Nat→AV) (h:Ya) (v:AV):Prop:=∀n,Qt h n→∃k n' rd,(0<q→∀id∈rd,h0 id≠none)∧opV (Xg P A k) P A f o regs h n=some (v,h,n',(rd,[]))
def Yr5 (h0:Ya) (q:Nat) (lg:Log):Prop:=0<q→lg.2=[]∧∀id∈lg.1,h0 id≠none
def HOp (h0:Ya) (q:Nat) (o:Oper) (regs:Nat→AV) (h:Ya) (Q:AV→Ya→Prop):Prop:=∀n,Qt h n→∃k v h' n' lg,opV (Xg P A k) P A f o regs h n=some (v,h',n',lg)∧Yr5 h0 q lg∧Q v h'
def Ops (ops:Array Oper) (h0:Ya) (q:Nat) (l:List Oper) (fr:Fr) (h:Ya) (Q:Fr→Ya→Prop):Prop:=
 ∀n,Qt h n→∃k fr' h' n' lgs,Xo (Xg P A k) P A f nt ops l fr h n=some (fr',h',n',lgs) ∧
  (∀j x,j<q→lgs[j]?=some x→x.1.2=[]∧n≤x.2.1∧∀id∈x.1.1,h0 id≠none)∧Q fr' h'
def Ypq:Op→Bool
 |.move _ | .assign _ | .pick _ _ _ | .binOp _ _ _ _ _ | .unOp _ _ _ | .fieldAddr _ _ _ | .field _ _ _ | .indexAddr _ _ _ | .index _ _ _ | .extract _ _ | .nilCheck _=>true
 |_=>false
def Ypr (o:Oper):Bool := !(Yg1 A f o.dst)&&Ypq o.op
def Qq (ops:Array Oper) (i:Nat):Bool:=match ops[i]? with
 |some o=>Ypr A f o
 |none=>false
def Yi4 (ops:Array Oper):List (Nat×Nat):=(Q8 ops).filter fun p => !Qq A f ops p.1 && !Qq A f ops p.2
def bnd (ps:List (Nat×Nat)):Nat:=ps.foldl (fun m p=>max m (max p.1 p.2+1)) 0
def quietN (ops:Array Oper):Nat:=bnd (Yi4 A f ops)
def Runs (c:Code) (fr:Fr) (h:Ya) (Q:AX→Fr→Ya→Prop):Prop:=
 ∀n,Qt h n→∃k x fr' h' n' lg,Jr (Xg P A k) P A f nt k c fr h n=some ((x,fr'),h',n',lg)∧Q x fr' h'
def sq (b:Code) (Q:AX→Fr→Ya→Prop):AX→Fr→Ya→Prop:=fun x fr h=>match x with
 |.norm=>Runs P A f nt b fr h Q
 |e=>Q e fr h
def rq (Q:AX→Fr→Ya→Prop):Fr→Ya→Prop:=fun fr h=>Q .norm fr h
def bq (id:Nat) (Q:AX→Fr→Ya→Prop):AX→Fr→Ya→Prop:=fun x fr h=>Q (if x= .exit id then .norm else x) fr h
def lq {σ:Type} (I:σ→Fr→Ya→Prop) (m:σ→Nat) (s:σ) (Q:AX→Fr→Ya→Prop):AX→Fr→Ya→Prop:=fun x fr h=>match x with
 |.norm=>∃s',m s'<m s∧I s' fr h
 |e=>Q e fr h
end
section
variable {P:Program} {A:Ann} {f nt:Nat} {fr:Fr} {h:Ya} {Q:AX→Fr→Ya→Prop}
theorem Runs.mono{Q':AX→Fr→Ya→Prop}(H:Runs P A f nt c fr h Q)(hq:∀x fr h,Q x fr h→Q' x fr h):Runs P A f nt c fr h Q':=by
 intro n hn;obtain⟨k,x,fr',h',n',lg,e,q⟩:=H n hn;exact⟨k,x,fr',h',n',lg,e,hq _ _ _ q⟩
theorem go_skip(H:Q .norm fr h):Runs P A f nt .skip fr h Q:=fun n _=>⟨0,.norm,fr,h,n,_,rfl,H⟩
theorem go_exit(H:Q (.exit i) fr h):Runs P A f nt (.exit i) fr h Q:=fun n _=>⟨0,.exit i,fr,h,n,_,rfl,H⟩
theorem go_ret(H:Q .ret fr h):Runs P A f nt .ret fr h Q:=fun n _=>⟨0,.ret,fr,h,n,_,rfl,H⟩
theorem go_seq{a:Code}(H:Runs P A f nt a fr h (sq P A f nt b Q)):Runs P A f nt (.seq a b) fr h Q:=by
 intro n hn;obtain⟨k,x,fr1,h1,n1,lg,e,q⟩:=H n hn;have st:=(Qo P A f nt (fun g vs=>Xa P A k g vs) k a fr h n _ h1 n1 lg hn e).1;cases x with
 |norm=>
  obtain⟨k2,x2,fr2,h2,n2,lg2,e2,q2⟩:=q n1 st.fresh;refine⟨max k k2,x2,fr2,h2,n2,(lg.1++lg2.1,lg.2++lg2.2),?_,q2⟩;simp only[Jr];unfold AM.bind;rw[Yej (fun g vs=>Qx (Nat.le_max_left k k2) g vs) (Nat.le_max_left k k2) a fr _ _ _ e];simp only;rw[Yej (fun g vs=>Qx (Nat.le_max_right k k2) g vs) (Nat.le_max_right k k2) b fr1 _ _ _ e2]
 |exit i=>
  refine⟨k,.exit i,fr1,h1,n1,(lg.1++[],lg.2++[]),?_,q⟩;simp only[Jr];unfold AM.bind;rw[e];rfl
 |ret=>
  refine⟨k,.ret,fr1,h1,n1,(lg.1++[],lg.2++[]),?_,q⟩;simp only[Jr];unfold AM.bind;rw[e];rfl
theorem go_cond{c:Operand}{a:Code}{p:Bool}(hc:Qb A fr.regs c=some (.bool p))(ht:p=true→Runs P A f nt a fr h Q)(hf:p=false→Runs P A f nt b fr h Q):Runs P A f nt (.cond c a b) fr h Q:=by
 intro n hn;cases p with
 |true=>
  obtain⟨k,x,fr1,h1,n1,lg,e,q⟩:=ht rfl n hn;exact⟨k,x,fr1,h1,n1,lg,by simp only[Jr,hc];exact e,q⟩
 |false=>
  obtain⟨k,x,fr1,h1,n1,lg,e,q⟩:=hf rfl n hn;exact⟨k,x,fr1,h1,n1,lg,by simp only[Jr,hc];exact e,q⟩
theorem go_block(H:Runs P A f nt b fr h (bq i Q)):Runs P A f nt (.block i b) fr h Q:=by
 intro n hn;obtain⟨k,x,fr1,h1,n1,lg,e,q⟩:=H n hn;refine⟨k,_,fr1,h1,n1,(lg.1++[],lg.2++[]),?_,q⟩;simp only[Jr];unfold AM.bind;rw[e];rfl
theorem go_loop{σ:Type}(I:σ→Fr→Ya→Prop)(m:σ→Nat)(s:σ)(hI:I s fr h)(H:∀s fr h,I s fr h→Runs P A f nt b fr h (lq I m s Q)):Runs P A f nt (.loop b) fr h Q:=by
 have all:∀(N:Nat) (s:σ) (fr:Fr) (h:Ya),m s≤N→I s fr h→∀n,Qt h n→∃k x fr' h' n' lg,(∀k',k≤k'→Yeg (fun fr=>Jr (Xg P A k') P A f nt k' b fr) k fr h n=some ((x,fr'),h',n',lg))∧Q x fr' h':=by
  intro N
  induction N with
  |zero=>
   intro s fr h hm hI n hn;obtain⟨k,x,fr1,h1,n1,lg,e,q⟩:=H s fr h hI n hn;cases x with
   |norm=>
    obtain⟨s',hs,_⟩:=q;omega
   |exit i=>
    refine⟨k+1,.exit i,fr1,h1,n1,(lg.1++[],lg.2++[]),fun k' hk=>?_,q⟩;unfold Yeg AM.bind;rw[Yej (fun g vs=>Qx (by omega:k≤k') g vs) (by omega:k≤k') b fr _ _ _ e];rfl
   |ret=>
    refine⟨k+1,.ret,fr1,h1,n1,(lg.1++[],lg.2++[]),fun k' hk=>?_,q⟩;unfold Yeg AM.bind;rw[Yej (fun g vs=>Qx (by omega:k≤k') g vs) (by omega:k≤k') b fr _ _ _ e];rfl
  |succ N ih=>
   intro s fr h hm hI n hn;obtain⟨k,x,fr1,h1,n1,lg,e,q⟩:=H s fr h hI n hn;have st:=(Qo P A f nt (fun g vs=>Xa P A k g vs) k b fr h n _ h1 n1 lg hn e).1;cases x with
   |norm=>
    obtain⟨s',hs,hI'⟩:=q;obtain⟨k2,x2,fr2,h2,n2,lg2,e2,q2⟩:=ih s' fr1 h1 (by omega) hI' n1 st.fresh;refine⟨max k k2+1,x2,fr2,h2,n2,(lg.1++lg2.1,lg.2++lg2.2),fun k' hk=>?_,q2⟩;unfold Yeg AM.bind;rw[Yej (fun g vs=>Qx (by omega:k≤k') g vs) (by omega:k≤k') b fr _ _ _ e];simp only;rw[Yly (fun fr=>Le.refl _) k2 (max k k2) (by omega) fr1 _ _ _ (e2 k' (by omega))]
   |exit i=>
    refine⟨k+1,.exit i,fr1,h1,n1,(lg.1++[],lg.2++[]),fun k' hk=>?_,q⟩;unfold Yeg AM.bind;rw[Yej (fun g vs=>Qx (by omega:k≤k') g vs) (by omega:k≤k') b fr _ _ _ e];rfl
   |ret=>
    refine⟨k+1,.ret,fr1,h1,n1,(lg.1++[],lg.2++[]),fun k' hk=>?_,q⟩;unfold Yeg AM.bind;rw[Yej (fun g vs=>Qx (by omega:k≤k') g vs) (by omega:k≤k') b fr _ _ _ e];rfl
 intro n hn;obtain⟨k,x,fr',h',n',lg,e,q⟩:=all (m s) s fr h (Zl _) hI n hn;exact⟨k,x,fr',h',n',lg,by simp only[Jr];exact e k (Zl _),q⟩
theorem Ygu(b:List Nat):Yl5 [] b=true:=rfl
theorem Yny(l:List (Nat×Nat)):∀m,m≤l.foldl (fun m p=>max m (max p.1 p.2+1)) m∧∀p∈l,p.1<l.foldl (fun m p=>max m (max p.1 p.2+1)) m∧p.2<l.foldl (fun m p=>max m (max p.1 p.2+1)) m:=by
 induction l with
 |nil=>exact fun m=>⟨Zl _,by simp⟩
 |cons a l ih=>
  intro m;obtain⟨h1,h2⟩:=ih (max m (max a.1 a.2+1));simp only[foldl_cons];refine⟨by omega,fun p hp=>?_⟩;rcases mem_cons.1 hp with rfl|hp
  ·omega
  ·exact h2 p hp
theorem Xl{a:Option α}{b:α}(e:AM.lift a h n=some (b,h',n',lg)):lg=([],[])∧n'=n:=by
 cases a with
 |none=>cases e
 |some a=>
  simp only[AM.lift,AM.pure,Zs,Zp]at e;exact⟨e.2.2.2.symm,e.2.2.1.symm⟩
theorem Kn{g:α→AM β}{b:β}(hm:∀a h' n' lg,m h n=some (a,h',n',lg)→lg=([],[])∧n'=n)(hg:∀a h1 h' n' b lg,g a h1 n=some (b,h',n',lg)→lg=([],[])∧n'=n)
  (e:AM.bind m g h n=some (b,h',n',lg)):lg=([],[])∧n'=n:=by
 unfold AM.bind at e;split at e
 ·cases e
 ·rename_i a h1 n1 l1 e1;obtain⟨rfl,rfl⟩:=hm _ _ _ _ e1;split at e
  ·cases e
  ·rename_i b2 h2 n2 l2 e2;obtain⟨rfl,rfl⟩:=hg _ _ _ _ _ _ e2;simp only[Zs,Zp]at e;exact⟨by rw[←e.2.2.2];rfl,e.2.2.1.symm⟩
theorem Yq9{ev:Operand→Option AV}{op:Op}(hs:Ypq op=true)(e:opM P ev op h n=some (v,h',n',lg)):lg=([],[])∧n'=n:=by
 cases op with
 |pick c a b=>
  simp only[opM]at e;obtain⟨m,hm⟩:∃m,m=ev c:=⟨_,rfl⟩;rw[←hm]at e;rcases m with _|v
  ·cases e
  ·cases v<;>first|exact Xl e|cases e
 |extract t i=>
  simp only[opM]at e;obtain⟨m,hm⟩:∃m,m=ev t:=⟨_,rfl⟩;rw[←hm]at e;rcases m with _|v
  ·cases e
  ·cases v<;>first|exact Xl e|cases e
 |nilCheck x=>
  simp only[opM]at e;obtain⟨m,hm⟩:∃m,m=ev x:=⟨_,rfl⟩;rw[←hm]at e;rcases m with _|v
  ·cases e
  ·simp only at e;obtain⟨k,hk⟩:∃k,k=Yak v:=⟨_,rfl⟩;rw[←hk]at e;rcases k with _|_|_
   ·cases e
   ·simp only[AM.pure,Zs,Zp]at e;exact⟨e.2.2.2.symm,e.2.2.1.symm⟩
   ·cases e
 |move x=>exact Xl (by simpa only[opM]using e)
 |assign x=>exact Xl (by simpa only[opM]using e)
 |binOp op t x y z=>exact Kn (fun _ _ _ _ e=>Xl e) (fun _ _ _ _ _ _ e=>Kn (fun _ _ _ _ e=>Xl e) (fun _ _ _ _ _ _ e=>Xl e) e) (by simpa only[opM]using e)
 |unOp op t x=>exact Kn (fun _ _ _ _ e=>Xl e) (fun _ _ _ _ _ _ e=>Xl e) (by simpa only[opM]using e)
 |fieldAddr t x i=>exact Kn (fun _ _ _ _ e=>Xl e) (fun _ _ _ _ _ _ e=>Xl e) (by simpa only[opM]using e)
 |field t x i=>exact Kn (fun _ _ _ _ e=>Xl e) (fun _ _ _ _ _ _ e=>Xl e) (by simpa only[opM]using e)
 |indexAddr t x i=>exact Kn (fun _ _ _ _ e=>Xl e) (fun _ _ _ _ _ _ e=>Kn (fun _ _ _ _ e=>Xl e) (fun _ _ _ _ _ _ e=>Xl e) e) (by simpa only[opM]using e)
 |index t x i=>exact Kn (fun _ _ _ _ e=>Xl e) (fun _ _ _ _ _ _ e=>Kn (fun _ _ _ _ e=>Xl e) (fun _ _ _ _ _ _ e=>Xl e) e) (by simpa only[opM]using e)
 |_=>cases hs
theorem Yoh{fr fr':Fr}(hs:Ypr A f o=true)(e:Qd call P A f nt ops o fr h n=some (fr',h',n',lg)):lg=([],[])∧n'=n:=by
 simp only[Ypr,Za,Bool.not_eq_true']at hs;have e':opV call P A f o fr.regs=opM P (Qb A fr.regs) o.op:=by
  unfold opV;split
  ·rename_i ho;rw[ho]at hs;cases hs.2
  ·rename_i ho;rw[ho]at hs;cases hs.2
  ·rw[hs.1];rfl
 unfold Qd at e;rcases hw:Yy ops o fr.regs with _|_|_<;>simp only[hw]at e
 ·cases e
 ·exact Xl e
 ·rw[e']at e;unfold AM.bind at e;split at e
  ·cases e
  ·rename_i a h1 n1 l1 e1;obtain⟨rfl,rfl⟩:=Yq9 hs.2 e1;split at e
   ·cases e
   ·rename_i b2 h2 n2 l2 e2;obtain⟨rfl,rfl⟩:=Xl e2;simp only[Zs,Zp]at e;exact⟨by rw[←e.2.2.2];rfl,e.2.2.1.symm⟩
theorem Ye2:∀(l:List Oper) {fr fr':Fr} {h h':Ya} {n n':Nat} {lgs:List Yf1},Xo call P A f nt ops l fr h n=some (fr',h',n',lgs)→∀(i:Nat) (o:Oper),l[i]?=some o→Ypr A f o=true→∃m,lgs[i]?=some (([],[]),m,m)
 |[],_,_,_,_,_,_,_,_,i,o,hi,_=>by simp at hi
 |o::l,fr,fr',h,h',n,n',lgs,e,i,o',hi,hs=>by
  unfold Xo at e;split at e
  ·cases e
  ·rename_i fr1 h1 n1 lg e1;split at e
   ·cases e
   ·rename_i fr2 h2 n2 lgs2 e2;simp only[Zs,Zp]at e;obtain⟨_,_,_,rfl⟩:=e;cases i with
    |zero=>
     simp only[Zc,Zs]at hi;subst hi;obtain⟨rfl,rfl⟩:=Yoh hs e1;exact⟨_,rfl⟩
    |succ i=>
     obtain⟨m,hm⟩:=Ye2 l e2 i o' (by simpa using hi) hs;exact⟨m,by simpa using hm⟩
theorem go_region{dr:Bool}(H:Ops P A f nt ops h (if dr then quietN A f ops else 0) ops.toList fr h (rq Q)):Runs P A f nt (.region i ops dr) fr h Q:=by
 intro n hn;obtain⟨k,fr1,h1,n1,lgs,e,hd,q⟩:=H n hn;have ev:(if dr then Q9 (Xg P A k) P A f nt ops fr else Ybx (Xg P A k) P A f nt ops ops.toList fr) h n=some (fr1,h1,n1,Xk lgs):=by
  cases dr with
  |false=>exact Kj ops _ _ _ _ e
  |true=>
   simp only[if_true]at hd ⊢;unfold Q9;rw[e];simp only;have hlive:∀id,h id≠none→id<n:=fun id hid=>by
    rcases Nat.lt_or_ge id n with hlt|hge
    ·exact hlt
    ·exact absurd (hn id hge) hid
   have hz:∀j,j<quietN A f ops→((lgs.getD j (([],[]),0,0)).1.2=[])∧(n≤(lgs.getD j (([],[]),0,0)).2.1∨(lgs.getD j (([],[]),0,0)).2.2=0)∧∀id∈(lgs.getD j (([],[]),0,0)).1.1,id<n:=by
    intro j hjq;rw[Zd];cases hj:lgs[j]? with
    |none=>exact⟨rfl,.inr rfl,by simp⟩
    |some x=>
     obtain⟨a,b,c⟩:=hd j x hjq hj;exact⟨a,.inl b,fun id hid=>hlive id (c id hid)⟩
   have hs:∀j,Qq A f ops j=true→(lgs.getD j (([],[]),0,0)).1=([],[])∧(lgs.getD j (([],[]),0,0)).2.1=(lgs.getD j (([],[]),0,0)).2.2:=by
    intro j hj;unfold Qq at hj;split at hj
    ·rename_i o ho;obtain⟨m,hm⟩:=Ye2 ops.toList e j o (by simpa using ho) hj;rw[Zd,hm];exact⟨rfl,rfl⟩
    ·cases hj
   have:calm ops lgs=true:=by
    unfold calm;rw[all_eq_true];intro p hp;by_cases s1:Qq A f ops p.1=true
    ·obtain⟨a1,a2⟩:=hs p.1 s1;simp only[Js,a1,Ygu,Bool.true_and,Bool.not_not,Za,all_eq_true,Bool.not_eq_true',Bool.and_eq_false_iff,decide_eq_false_iff_not];refine⟨by simp[Yl5],fun id _=>?_⟩;rw[a2];omega
    ·by_cases s2:Qq A f ops p.2=true
     ·obtain⟨a1,a2⟩:=hs p.2 s2;simp only[Js,a1];simp[Yl5]
     ·obtain⟨g1,g2⟩:=(Yny ((Q8 ops).filter fun p => !Qq A f ops p.1 && !Qq A f ops p.2) 0).2 p (mem_filter.2 ⟨hp,by simp[s1,s2]⟩);obtain⟨a1,a2,a3⟩:=hz p.1 g1;obtain⟨b1,b2,b3⟩:=hz p.2 g2;simp only[Js,a1,b1,Ygu,Bool.true_and,Bool.not_not,append_nil,all_eq_true,Bool.not_eq_true',Bool.and_eq_false_iff,decide_eq_false_iff_not];intro id hid;have:=b3 id hid;rcases a2 with a2|a2
      ·left;omega
      ·right;rw[a2];omega
   rw[this];rfl
 refine⟨k,.norm,fr1,h1,n1,((Xk lgs).1++[],(Xk lgs).2++[]),?_,q⟩;simp only[Jr];unfold AM.bind;rw[ev];rfl
variable {ops:Array Oper} {h0:Ya} {q:Nat} {R:Fr→Ya→Prop}
theorem ops_nil(H:R fr h):Ops P A f nt ops h0 q [] fr h R:=fun n _=>⟨0,fr,h,n,[],rfl,by simp,H⟩
theorem ops_h(hw:Yy ops o fr.regs=some true)(hv:HOp P A f h0 q o fr.regs h fun v h1=>∃fr1,Yh4 A f nt o v fr=some fr1∧Ops P A f nt ops h0 (q-1) r fr1 h1 R) :
  Ops P A f nt ops h0 q (o::r) fr h R:=by
 intro n hn;obtain⟨k1,v,h1,n1,lg,e1,hql,fr1,hp,H⟩:=hv n hn;have st:=(Ycp P A f (fun g vs=>Xa P A k1 g vs) o fr.regs h n _ _ _ _ hn e1).1;obtain⟨k2,fr2,h2,n2,lgs,e2,hd,qq⟩:=H n1 st.fresh;have hs:Qd (Xg P A (max k1 k2)) P A f nt ops o fr h n=some (fr1,h1,n1,(lg.1++[],lg.2++[])):=by
  unfold Qd;rw[hw];simp only;unfold AM.bind;rw[le_op (Nat.le_max_left k1 k2) o fr.regs _ _ _ e1];simp only;rw[hp];simp[AM.lift,AM.pure]
 refine⟨max k1 k2,fr2,h2,n2,((lg.1++[],lg.2++[]),n,n1)::lgs,?_,?_,qq⟩
 ·unfold Xo;rw[hs];simp only;rw[Ycq (fun g vs=>Qx (Nat.le_max_right k1 k2) g vs) ops r _ _ _ _ e2]
 ·intro j x hj hx;cases j with
  |zero=>
   simp only[Zc,Zs]at hx;subst hx;obtain⟨w1,w2⟩:=hql (by omega);exact⟨by simp[w1],Zl _,by simpa using w2⟩
  |succ j=>
   obtain⟨a,b,c⟩:=hd j x (by omega) (by simpa using hx);exact⟨a,Nat.le_trans st.le b,c⟩
theorem Yp4(hw:Yy ops o fr.regs=some true)(hv:RdOp P A f h0 q o fr.regs h v)(hp:Yh4 A f nt o v fr=some fr1)(H:Ops P A f nt ops h0 (q-1) r fr1 h R) :
  Ops P A f nt ops h0 q (o::r) fr h R:=by
 refine ops_h hw ?_;intro n hn;obtain⟨k1,n1,rd,hrd,e1⟩:=hv n hn;exact⟨k1,v,h,n1,(rd,[]),e1,fun hq=>⟨rfl,hrd hq⟩,fr1,hp,H⟩
def Yf3 (nt:Nat) (o:Oper) (fr:Fr):Option Fr:=match o.dst with
 |none=>some fr
 |some d=>if d<nt then some {fr with regs:=upd fr.regs d .undef} else none
theorem Yih(hw:Yy ops o fr.regs=some false)(hp:Yf3 nt o fr=some fr1)
  (H:Ops P A f nt ops h0 (q-1) r fr1 h R):Ops P A f nt ops h0 q (o::r) fr h R:=by
 intro n hn;obtain⟨k2,fr2,h2,n2,lgs,e2,hd,qq⟩:=H n hn;have hs:Qd (Xg P A k2) P A f nt ops o fr h n=some (fr1,h,n,([],[])):=by
  unfold Qd;rw[hw];show AM.lift (Yf3 nt o fr) h n=_;rw[hp];rfl
 refine⟨k2,fr2,h2,n2,(([],[]),n,n)::lgs,?_,?_,qq⟩
 ·unfold Xo;rw[hs];simp only;rw[e2]
 ·intro j x hj hx;cases j with
  |zero=>
   simp only[Zc,Zs]at hx;subst hx;exact⟨rfl,Zl _,by simp⟩
  |succ j=>exact hd j x (by omega) (by simpa using hx)
theorem rd_pure(hv:opV (fun _ _=>AM.fail) P A f o regs=AM.pure v):RdOp P A f h0 q o regs h v:=by
 intro n hn;refine⟨0,n,[],by simp,?_⟩;have:Xg P A 0=fun _ _=>AM.fail:=by
  funext g vs;rfl
 rw[this,hv];rfl
theorem rd_call{x:Operand}{args:Array Operand}{ts:Array TypeId}{first cap vs:List AV}(ho:o.op= .call {callee:= .value x,args:=args,argTypes:=ts})
  (hx:Qb A regs x=some (.fn g first cap))(ha:evs (Qb A regs) args.toList=some vs)(hc:PureC P A g (first++vs++cap) v):RdOp P A f h0 q o regs h v:=by
 intro n hn;obtain⟨k,n',e⟩:=hc h n hn;refine⟨k,n',[],by simp,?_⟩;unfold opV;rw[ho];simp only[hx,ha];unfold AM.bind;simp only[AM.lift,AM.pure];rw[e];rfl
theorem rd_load{t:TypeId}{a:Operand}{id off:Nat}{l:List AV}{g:Bool}{m:Nat}(h0id:0<q→h0 id≠none)(ho:o.op= .load t a)(hro:Yg1 A f o.dst=false)(ha:Qb A regs a=some (.ptr id off))(hid:h id=some (.cells cs))
  (hg:Ymd P t=some g)(hm:Kx P t=some m)(hs:Yp cs off (if g then m else 1)=some l)(hv:X9 g l=some v):RdOp P A f h0 q o regs h v:=by
 intro n hn;refine⟨0,n,[id],by simpa using h0id,?_⟩;unfold opV;rw[ho];simp only[hro,Zf,if_false,opM,ha,Kq,Xt,hg,hm];simp only[AM.bind,AM.lift,AM.pure,AM.get,hid,hs,hv];rfl
theorem Yqb{k:Nat→AV}(hn:Qt h n)(hk:Yfh (k n) (upd h n (some (.cells cs))) (n+1)=some (v,upd (upd h n (some (.cells cs))) n none,n+1,([n],[n]))) :
  hush (AM.bind (AM.bind (AM.new (.cells cs)) fun id=>AM.pure (k id)) Yfh) h n=some (v,h,n+1,([],[])):=by
 unfold hush AM.bind AM.new AM.pure;simp only;rw[hk];simp only[nil_append,Zs,Zp,true_and];refine⟨?_,?_,?_⟩
 ·funext id;unfold upd;by_cases e:id=n
  ·rw[if_pos e,e];exact(hn n (Zl _)).symm
  ·rw[if_neg e,if_neg e]
 ·simp
 ·simp
theorem rd_ro_ptr(hro:Yg1 A f o.dst=true)(hop:∀c,o.op≠ .call c)(hv:opM P (Qb A regs) o.op=AM.bind (AM.new (.cells cs)) fun id=>AM.pure (.ptr id 0)):RdOp P A f h0 q o regs h (.tptr cs 0):=by
 intro n hn;refine⟨0,n+1,[],by simp,?_⟩;have:opV (Xg P A 0) P A f o regs=Yr9 (opM P (Qb A regs) o.op):=by
  unfold opV;split
  ·rename_i h1;exact absurd h1 (hop _)
  ·rename_i h1;exact absurd h1 (hop _)
  ·rw[if_pos hro]
 rw[this,hv];unfold Yr9;refine Yqb hn ?_;simp only[Yfh];simp[AM.bind,AM.get,AM.kill,AM.pure,upd]
theorem rd_ro_sl{l:List AV}{len sz:Nat}(hro:Yg1 A f o.dst=true)(hop:NC o.op)(hv:opM P (Qb A regs) o.op=AM.bind (AM.new (.cells cs)) fun id=>AM.pure (.sl id 0 len sz))
  (hl:Yp cs 0 (len*sz)=some l):RdOp P A f h0 q o regs h (.tsl l len):=by
 intro n hn;refine⟨0,n+1,[],by simp,?_⟩;have:opV (Xg P A 0) P A f o regs=Yr9 (opM P (Qb A regs) o.op):=by
  unfold opV;split
  ·rename_i h1;exact absurd h1 (hop.1 _ _ _)
  ·rename_i h1;exact absurd h1 (hop.2 _ _ _ _)
  ·rw[if_pos hro]
 rw[this,hv];unfold Yr9;refine Yqb hn ?_;simp only[Yfh];simp[AM.bind,AM.get,AM.kill,AM.pure,upd,AM.lift,hl]
def resM (P:Program) (A:Ann) (f:Nat) (regs:Nat→AV) (l:List ResultVar):AM AV:=
 AM.bind (Qr P regs l) fun vs=>if A.fz f then Xy 1000 (Yx vs) else AM.pure (Yx vs)
def ResV (P:Program) (A:Ann) (f:Nat) (l:List ResultVar) (regs:Nat→AV) (h:Ya) (v:AV):Prop:=∀n,Qt h n→∃h' n' lg,resM P A f regs l h n=some (v,h',n',lg)
def retP (P:Program) (A:Ann) (f:Nat) (l:List ResultVar) (v:AV):AX→Fr→Ya→Prop:=fun x fr h=>match x with
 |.exit _=>False
 |_=>ResV P A f l fr.regs h v
theorem Yli{vs:List AV}(H:∀n,∃k n' lg,Xg P A k g vs hp0 n=some (v,hp0,n',lg)):PureC P A g vs v:=by
 intro h n hn;obtain⟨k,n',lg,e⟩:=H n;have hf:Qt hp0 n:=fun _ _=>rfl;obtain⟨st,tr⟩:=Xa P A k g vs hp0 n _ _ _ _ hf e;have hge:∀id,id∈lg.1∨id∈lg.2→n≤id:=by
  intro id hid;rcases Nat.lt_or_ge id n with hlt|hge
  ·exact absurd rfl (st.live id hid hlt)
  ·exact hge
 have hlg:∀id,id∈lg.1∨id∈lg.2→id<n:=by
  cases k with
  |zero=>cases e
  |succ k=>
   unfold Xg at e;split at e
   ·obtain⟨_,_,rfl,_⟩:=Ycy e;intro id hid;rcases hid with hid|hid<;>cases hid
   ·unfold Ycb at e;split at e
    ·cases e
    ·rename_i v1 boxes h1 n1 l1 _;simp only[Zs]at e;unfold Ybn at e;dsimp only at e;intro id hid;split at e
     ·simp only[Zp]at e;obtain⟨_,_,_,rfl⟩:=e;rcases hid with hid|hid
      ·simpa using(mem_filter.1 hid).2
      ·cases hid
     ·simp only[Zp]at e;obtain⟨_,_,_,rfl⟩:=e;rcases hid with hid|hid
      ·simpa using(mem_filter.1 hid).2
      ·simpa using(mem_filter.1 hid).2
 have hnil:lg=([],[]):=by
  obtain⟨a,b⟩:=lg;have ha:a=[]:=eq_nil_iff_forall_not_mem.2 fun id hid=>by
   have h1:=hge id (.inl hid);have h2:=hlg id (.inl hid);omega
  have hb:b=[]:=eq_nil_iff_forall_not_mem.2 fun id hid=>by
   have h1:=hge id (.inr hid);have h2:=hlg id (.inr hid);omega
  rw[ha,hb]
 subst hnil;have:=tr h (by
  intro id hid;rcases hid with h1|h1|h1
  ·cases h1
  ·cases h1
  ·exact hn id h1.1)
 refine⟨k,n',?_⟩;rw[this];simp only[Zs,Zp,true_and,and_true];funext id;unfold Yda;split
 ·rename_i hc;rcases hc with hc|hc
  ·cases hc
  ·exact(hn id hc.1).symm
 ·rfl
theorem body_of{Q:AX→Fr→Ya→Prop}(hf:P.funcs[f]?=some fn)(hb:fn.body=some c)(hn:(fn.name == "runtime.NumGoroutine" || decide (fn.ntmps<args.length))=false)
  (run:Runs P A f fn.ntmps c ⟨Qi args,[]⟩ h Q)(hh:Qt h n)(hQ:∀x fr h',Q x fr h'→(∀i,x≠ .exit i)∧ResV P A f fn.results.toList fr.regs h' v) :
  ∃k x fr' h1 n1 h2 n2 lg,Q x fr' h1∧(∃lg1,resM P A f fr'.regs fn.results.toList h1 n1=some (v,h2,n2,lg1))∧body (Xg P A k) P A k f args h n=some ((v,fr'.boxes),h2,n2,lg):=by
 obtain⟨k,x,fr',h1,n1,lg,e,q⟩:=run n hh;have st:=(Qo P A f fn.ntmps (fun g vs=>Xa P A k g vs) k c _ h n _ h1 n1 lg hh e).1;obtain⟨hx,hres⟩:=hQ x fr' h1 q;obtain⟨h2,n2,lg1,e1⟩:=hres n1 st.fresh;refine⟨k,x,fr',h1,n1,h2,n2,(lg.1++lg1.1,lg.2++lg1.2),q,⟨lg1,e1⟩,?_⟩;unfold body;simp only[hf,hb,hn,Zf,if_false];have e2:(AM.bind (Qr P fr'.regs fn.results.toList) fun vs=>AM.bind (if A.fz f then Xy 1000 (Yx vs) else AM.pure (Yx vs)) fun v=>AM.pure (v,fr'.boxes)) h1 n1=some ((v,fr'.boxes),h2,n2,(lg1.1++[],lg1.2++[])):=by
  rw[←Yr1];show AM.bind (resM P A f fr'.regs fn.results.toList) _ h1 n1=_;unfold AM.bind;rw[e1];rfl
 refine Xq e ?_;cases x with
 |exit i=>exact absurd rfl (hx i)
 |norm=>simpa using e2
 |ret=>simpa using e2
theorem pure_of(hf:P.funcs[f]?=some fn)(hb:fn.body=some c)(hn:(fn.name == "runtime.NumGoroutine" || decide (fn.ntmps<args.length))=false)(hs:A.still f=true)(hv:v.tree=true)
  (run:Runs P A f fn.ntmps c ⟨Qi args,[]⟩ hp0 (retP P A f fn.results.toList v)):PureC P A f args v:=by
 have all:∀n,∃k h' n' lg,Ycb (Xg P A k) P A k f args hp0 n=some (v,h',n',lg)∧h'=hp0:=by
  intro n;have hh:Qt hp0 n:=fun _ _=>rfl;obtain⟨k,x,fr',h1,n1,h2,n2,lg,_,_,e⟩:=body_of hf hb hn run hh (v:=v) (fun x fr h' q=>by
   cases x with
   |exit i=>exact q.elim
   |norm=>exact⟨by simp,q⟩
   |ret=>exact⟨by simp,q⟩)
  have hlive:∀id,id∈lg.2→n≤id:=by
   intro id hid;rcases Nat.lt_or_ge id n with hlt|hge
   ·exact absurd rfl ((Yhi (fun g vs=>Xa P A k g vs) P A k f args hp0 n _ _ _ _ hh e).1.live id (.inr hid) hlt)
   ·exact hge
  have hw:(lg.2.filter (· < n))=[]:=filter_eq_nil_iff.2 fun id hid=>by
   have:=hlive id hid;simp;omega
  refine⟨k,hp0,n2,(lg.1.filter (· < n),[]),?_,rfl⟩;unfold Ycb;rw[e];simp[Ybn,hs,hv,hw]
 by_cases hp:(A.pure f&&AV.trees args)=true
 ·intro h n _;obtain⟨k,h',n',lg,e,_⟩:=all 0;refine⟨k+1,n,?_⟩;unfold Xg;rw[if_pos hp];exact Yio hv e h n
 ·refine Yli fun n=>?_;obtain⟨k,h',n',lg,e,rfl⟩:=all n;refine⟨k+1,n',lg,?_⟩;unfold Xg;rw[if_neg hp];exact e
theorem Ym0(k:Nat)(hp:A.pure f=true)(ht:AV.trees args=true)(e:(Xg P A k f args hp0 0).map (·.1)=some v):PureC P A f args v:=by
 obtain⟨⟨w,h',n',lg⟩,e',hw⟩:=Option.map_eq_some_iff.1 e;have hw:w=v:=hw;subst hw;clear e;have e:=e';have hp:(A.pure f&&AV.trees args)=true:=by rw[hp,ht];rfl
 intro h n _;cases k with
 |zero=>cases e
 |succ k=>
  refine⟨k+1,n,?_⟩;unfold Xg at e ⊢;rw[if_pos hp]at e ⊢;obtain⟨_,_,_,hv,h1,n1,l1,e1⟩:=Ycy e;exact Yio hv e1 h n
end
end Go.Abs
