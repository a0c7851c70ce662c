import Derived.Test.YtibdecjfdpmfoaaGreatAbsCore
namespace Go.Abs
open List hiding le lt
variable {v:AV} {lg:Log} {n:Nat} {call:Nat→List AV→AM AV} {α:Type} {h:Ya} {m:AM α}
def Qt (h:Ya) (n:Nat):Prop:=∀id,n≤id→h id=none
def Yda (g h':Ya) (n n':Nat) (w:List Nat):Ya:=fun id=>if id∈w∨(n≤id∧id<n') then h' id else g id
structure Step (h:Ya) (n:Nat) (h':Ya) (n':Nat) (lg:Log):Prop where
 le:n≤n'
 fresh:Qt h' n'
 lt:∀id,id∈lg.1∨id∈lg.2→id<n'
 same:∀id,id∉lg.2→¬(n≤id∧id<n')→h' id=h id
 live:∀id,id∈lg.1∨id∈lg.2→id<n→h id≠none
def Yjs (g h:Ya) (n n':Nat) (lg:Log):Prop:=∀id,id∈lg.1∨id∈lg.2∨(n≤id∧id<n')→g id=h id
def Local {α:Type} (m:AM α):Prop:=∀h n r h' n' lg,Qt h n→m h n=some (r,h',n',lg)→
 Step h n h' n' lg∧∀g,Yjs g h n n' lg→m g n=some (r,Yda g h' n n' lg.2,n',lg)
theorem Ygc(g h:Ya)(n:Nat):Yda g h n n []=g:=by
 funext id;simp only[Yda,not_mem_nil,false_or];exact if_neg (by omega)
theorem Local.pure(a:α):Local (AM.pure a):=by
 intro h n r h' n' lg hf he;simp only[AM.pure,Zs,Zp]at he;obtain⟨rfl,rfl,rfl,rfl⟩:=he;refine⟨⟨Zl _,hf,by simp,by simp,by simp⟩,fun g _=>?_⟩;simp only[AM.pure,Ygc]
theorem Local.fail:Local (AM.fail:AM α):=by
 intro h n r h' n' lg _ he;simp[AM.fail]at he
theorem Local.lift(a:Option α):Local (AM.lift a):=by
 cases a with
 |none=>exact Local.fail
 |some a=>exact Local.pure a
theorem Step.trans{h1 h2:Ya}{n1 n2:Nat}{l1 l2:Log}(a:Step h n h1 n1 l1)(b:Step h1 n1 h2 n2 l2) :
  Step h n h2 n2 (l1.1++l2.1,l1.2++l2.2):=by
 refine⟨Nat.le_trans a.le b.le,b.fresh,?_,?_,?_⟩;rotate_left 2
 ·have key:∀id,id∈l2.1∨id∈l2.2→id<n→h id≠none:=by
   intro id hid hlt;have h2:=b.live id hid (Nat.lt_of_lt_of_le hlt a.le);by_cases hw:id∈l1.2
   ·exact a.live id (.inr hw) hlt
   ·rwa[a.same id hw (by omega)]at h2
  intro id hid hlt;simp only[mem_append]at hid;rcases hid with (h|h)|(h|h)
  ·exact a.live id (.inl h) hlt
  ·exact key id (.inl h) hlt
  ·exact a.live id (.inr h) hlt
  ·exact key id (.inr h) hlt
 ·intro id hid;simp only[mem_append]at hid;rcases hid with (h|h)|(h|h)
  ·exact Nat.lt_of_lt_of_le (a.lt id (.inl h)) b.le
  ·exact b.lt id (.inl h)
  ·exact Nat.lt_of_lt_of_le (a.lt id (.inr h)) b.le
  ·exact b.lt id (.inr h)
 ·intro id hid hn;simp only[mem_append,not_or]at hid;have hle:=a.le;have hle2:=b.le;rw[b.same id hid.2 (by omega),a.same id hid.1 (by omega)]
theorem Local.bind{β:Type}{f:α→AM β}(hm:Local m)(hf:∀a,Local (f a)):Local (AM.bind m f):=by
 intro h n r h' n' lg hfr he;unfold AM.bind at he;split at he
 ·cases he
 ·rename_i a h1 n1 l1 e1;split at he
  ·cases he
  ·rename_i b h2 n2 l2 e2;simp only[Zs,Zp]at he;obtain⟨rfl,rfl,rfl,rfl⟩:=he;obtain⟨s1,t1⟩:=hm h n a h1 n1 l1 hfr e1;obtain⟨s2,t2⟩:=hf a h1 n1 b h2 n2 l2 s1.fresh e2;refine⟨s1.trans s2,fun g hg=>?_⟩;have hle:=s1.le;have hle2:=s2.le;have g1:Yjs g h n n1 l1:=fun id hid=>hg id (by
    simp only[mem_append];rcases hid with h|h|h
    ·exact .inl (.inl h)
    ·exact .inr (.inl (.inl h))
    ·exact .inr (.inr (by omega)))
   have e1':=t1 g g1;have g2:Yjs (Yda g h1 n n1 l1.2) h1 n1 n2 l2:=by
    intro id hid;unfold Yda;by_cases hc:id∈l1.2∨(n≤id∧id<n1)
    ·rw[if_pos hc]
    ·rw[if_neg hc];rw[hg id (by
      simp only[mem_append];rcases hid with h|h|h
      ·exact .inl (.inr h)
      ·exact .inr (.inl (.inr h))
      ·exact .inr (.inr (by omega)))]
     exact(s1.same id (fun h=>hc (.inl h)) (fun h=>hc (.inr h))).symm
   have e2':=t2 _ g2;unfold AM.bind;rw[e1'];simp only[e2']
   congr 3
   funext id;unfold Yda;simp only[mem_append];by_cases c2:id∈l2.2∨(n1≤id∧id<n2)
   ·rw[if_pos c2,if_pos (by rcases c2 with h|h;exact .inl (.inr h);exact .inr (by omega))]
   ·rw[if_neg c2];have hs:=s2.same id (fun h=>c2 (.inl h)) (fun h=>c2 (.inr h));by_cases c1:id∈l1.2∨(n≤id∧id<n1)
    ·rw[if_pos c1,if_pos (by rcases c1 with h|h;exact .inl (.inl h);exact .inr (by omega)),hs]
    ·rw[if_neg c1,if_neg];rintro((h|h)|h)
     ·exact c1 (.inl h)
     ·exact c2 (.inl h)
     ·by_cases hlt:id<n1
      ·exact c1 (.inr (by omega))
      ·exact c2 (.inr (by omega))
theorem Local.get(id:Nat):Local (AM.get id):=by
 intro h n r h' n' lg hf he;unfold AM.get at he;split at he
 ·rename_i o ho;simp only[Zs,Zp]at he;obtain⟨rfl,rfl,rfl,rfl⟩:=he;have hlt:id<n:=by
   rcases Nat.lt_or_ge id n with h|h
   ·exact h
   ·rw[hf id h]at ho;cases ho
  refine⟨⟨Zl _,hf,by simpa using hlt,by simp,by simp[ho]⟩,fun g hg=>?_⟩;unfold AM.get;rw[hg id (by simp),ho];simp only[Ygc]
 ·cases he
theorem Local.set(id:Nat)(o:AObj):Local (AM.set id o):=by
 intro h n r h' n' lg hf he;unfold AM.set at he;split at he
 ·rename_i o1 ho;simp only[Zs,Zp]at he;obtain⟨_,rfl,rfl,rfl⟩:=he;have hlt:id<n:=by
   rcases Nat.lt_or_ge id n with h|h
   ·exact h
   ·rw[hf id h]at ho;cases ho
  refine⟨⟨Zl _,?_,by simpa using hlt,?_,by simp[ho]⟩,fun g hg=>?_⟩
  ·intro j hj;unfold upd;rw[if_neg (by omega)];exact hf j hj
  ·intro j hj _;unfold upd;rw[if_neg (by simpa using hj)]
  ·unfold AM.set;rw[hg id (by simp),ho];simp only[Zs,Zp,true_and,and_true];funext j;unfold Yda upd;by_cases hj:j=id
   ·simp[hj]
   ·rw[if_neg hj,if_neg];simp[hj]
 ·cases he
theorem Local.kill(id:Nat):Local (AM.kill id):=by
 intro h n r h' n' lg hf he;unfold AM.kill at he;split at he
 ·rename_i o1 ho;simp only[Zs,Zp]at he;obtain⟨_,rfl,rfl,rfl⟩:=he;have hlt:id<n:=by
   rcases Nat.lt_or_ge id n with h|h
   ·exact h
   ·rw[hf id h]at ho;cases ho
  refine⟨⟨Zl _,?_,by simpa using hlt,?_,by simp[ho]⟩,fun g hg=>?_⟩
  ·intro j hj;unfold upd;rw[if_neg (by omega)];exact hf j hj
  ·intro j hj _;unfold upd;rw[if_neg (by simpa using hj)]
  ·unfold AM.kill;rw[hg id (by simp),ho];simp only[Zs,Zp,true_and,and_true];funext j;unfold Yda upd;by_cases hj:j=id
   ·simp[hj]
   ·rw[if_neg hj,if_neg];simp[hj]
 ·cases he
theorem Local.new(o:AObj):Local (AM.new o):=by
 intro h n r h' n' lg hf he;simp only[AM.new,Zs,Zp]at he;obtain⟨rfl,rfl,rfl,rfl⟩:=he;refine⟨⟨by omega,?_,by simp,?_,by simp⟩,fun g hg=>?_⟩
 ·intro j hj;unfold upd;rw[if_neg (by omega)];exact hf j (by omega)
 ·intro j _ hj;unfold upd;rw[if_neg (by omega)]
 ·simp only[AM.new,Zs,Zp,true_and,and_true];funext j;unfold Yda upd;by_cases hj:j=n
  ·rw[if_pos hj,if_pos (by right;omega),if_pos hj]
  ·rw[if_neg hj,if_neg];simp;omega
theorem Local.ite{c:Prop}[Decidable c]{a b:AM α}(ha:Local a)(hb:Local b):Local (if c then a else b):=by
 split
 ·exact ha
 ·exact hb
theorem Jn(p:AV)(n:Nat):Local (Xt p n):=by
 unfold Xt;split
 ·refine Local.bind (Local.get _) fun o=>?_;split
  ·exact Local.lift _
  ·exact Local.fail
 ·exact Local.lift _
 ·exact Local.fail
theorem Yfu(P:Program)(t:TypeId)(p:AV):Local (Kq P t p):=
 Local.bind (Local.lift _) fun _=>Local.bind (Local.lift _) fun _=>Local.bind (Jn _ _) fun _=>Local.lift _
theorem Yca(p:AV)(vs:List AV):Local (Yaa p vs):=by
 unfold Yaa;split
 ·refine Local.bind (Local.get _) fun o=>?_;split
  ·exact Local.bind (Local.lift _) fun _=>Local.set _ _
  ·exact Local.fail
 ·exact Local.fail
theorem Yni(P:Program)(t:TypeId)(p v:AV):Local (Ykb P t p v):=
 Local.bind (Local.lift _) fun _=>Local.ite (Local.bind (Yca _ _) fun _=>Local.pure _) Local.fail
theorem Yhh(P:Program)(t:TypeId)(len:Nat)(ps:List (Nat×AV)):Local (J9 P t len ps):=
 Local.bind (Local.lift _) fun _=>Local.bind (Local.lift _) fun _=>Local.bind (Local.lift _) fun _=>
  Local.ite (Local.bind (Local.lift _) fun _=>Local.ite (Local.bind (Local.new _) fun _=>Local.pure _) Local.fail) Local.fail
theorem Ynj(P:Program)(t:TypeId)(x:AV)(lo hi:Option AV):Local (Yfj P t x lo hi):=by
 unfold Yfj;split
 ·refine Local.bind (Local.get _) fun o=>?_;split
  ·exact Local.ite (Local.pure _) Local.fail
  ·exact Local.fail
 ·split
  ·exact Local.pure _
  ·exact Local.fail
 ·split
  ·exact Local.pure _
  ·exact Local.fail
 ·split
  ·exact Local.ite (Local.pure _) Local.fail
  ·exact Local.fail
 ·split
  ·exact Local.pure _
  ·exact Local.fail
 ·exact Local.fail
theorem Yj1(P:Program)(s d:TypeId)(x:AV):Local (K3 P s d x):=by
 unfold K3;split
 ·exact Local.lift _
 ·exact Local.pure _
 ·exact Local.ite (Local.bind (Local.new _) fun _=>Local.pure _) Local.fail
 ·exact Local.ite (Local.pure _) Local.fail
 ·exact Local.ite (Local.bind (Jn _ _) fun _=>Local.lift _) Local.fail
 ·exact Local.ite (Local.bind (Local.lift _) fun _=>Local.lift _) Local.fail
 ·exact Local.ite (Local.bind (Jn _ _) fun _=>Local.pure _) Local.fail
 ·exact Local.fail
theorem Yrj(P:Program)(t:TypeId)(x:AV):Local (lenA P t x):=by
 unfold lenA;split<;>try exact Local.pure _
 ·refine Local.bind (Local.get _) fun o=>?_;split
  ·exact Local.pure _
  ·exact Local.fail
 ·exact Local.fail
theorem Yhg(s:Nat)(x:AV):Local (srcA s x):=by
 unfold srcA;split
 ·exact Local.pure _
 ·exact Local.pure _
 ·exact Local.ite (Local.bind (Jn _ _) fun _=>Local.pure _) Local.fail
 ·exact Local.bind (Local.lift _) fun _=>Local.pure _
 ·exact Local.fail
theorem Yj3(s:Nat)(b:AV)(new:List AV)(n:Nat):Local (Qz s b new n):=by
 unfold Qz;refine Local.ite (Local.pure _) ?_;split
 ·exact Local.bind (Local.new _) fun _=>Local.pure _
 ·exact Local.ite (Local.bind (Jn _ _) fun _=>Local.bind (Local.kill _) fun _=>Local.bind (Local.new _) fun _=>Local.pure _) Local.fail
 ·exact Local.fail
theorem Ylx(P:Program)(ts:List TypeId)(x y:AV):Local (Ycd P ts x y):=by
 unfold Ycd;split
 ·refine Local.bind (Local.lift _) fun _=>Local.bind (Local.lift _) fun _=>Local.bind (Local.lift _) fun _=>Local.bind (Local.lift _) fun _=>
   Local.ite (Local.bind ?_ fun src=>?_) Local.fail
  ·split
   ·exact Local.ite (Local.pure _) Local.fail
   ·exact Yhg _ _
   ·exact Yhg _ _
   ·exact Local.fail
  ·split
   ·exact Local.ite (Yj3 _ _ _ _) Local.fail
   ·exact Local.fail
 ·exact Local.fail
theorem Yos(P:Program)(ts:List TypeId)(x y:AV):Local (Yry P ts x y):=by
 unfold Yry;split
 ·refine Local.bind (Local.lift _) fun _=>Local.bind (Local.lift _) fun _=>?_;split
  ·exact Local.ite (Local.bind (Yhg _ _) fun src=>Local.ite (Local.bind (Yca _ _) fun _=>Local.pure _) Local.fail) Local.fail
  ·exact Local.fail
 ·exact Local.fail
theorem Yh6(P:Program)(t:TypeId)(l c:AV):Local (Ya7 P t l c):=
 Local.bind (Local.lift _) fun _=>Local.bind (Local.lift _) fun _=>Local.bind (Local.lift _) fun _=>Local.bind (Local.lift _) fun _=>
  Local.bind (Local.lift _) fun _=>Local.bind (Local.lift _) fun _=>Local.ite (Local.bind (Local.new _) fun _=>Local.pure _) Local.fail
theorem Ylw(P:Program)(t:TypeId)(x k:AV)(ok:Bool):Local (Yhf P t x k ok):=by
 unfold Yhf;split
 ·refine Local.ite (Local.bind ?_ fun es=>?_) Local.fail
  ·split
   ·exact Local.pure _
   ·refine Local.bind (Local.get _) fun o=>?_;split
    ·exact Local.pure _
    ·exact Local.fail
   ·exact Local.fail
  ·split
   ·exact Local.pure _
   ·exact Local.pure _
   ·exact Local.fail
 ·exact Local.fail
theorem Ydy(P:Program)(t:TypeId)(x k v:AV):Local (Ya6 P t x k v):=by
 unfold Ya6;split
 ·refine Local.ite (Local.bind (Local.get _) fun o=>?_) Local.fail;split
  ·split
   ·exact Local.bind (Local.set _ _) fun _=>Local.pure _
   ·exact Local.bind (Local.set _ _) fun _=>Local.pure _
   ·exact Local.fail
  ·exact Local.fail
 ·exact Local.fail
theorem Ynl(P:Program)(ts:List TypeId)(x:AV):Local (Yn5 P ts x):=by
 unfold Yn5;split
 ·exact Local.bind (Local.lift _) fun _=>Local.bind (Local.lift _) fun _=>Local.bind (Local.lift _) fun _=>Local.ite (Local.ite (Local.pure _) (Local.bind (Yca _ _) fun _=>Local.pure _)) Local.fail
 ·exact Local.fail
theorem Yrl(e:EK)(vs:List AV):Local (extA e vs):=by
 unfold extA;split
 ·exact Local.pure _
 ·refine Local.bind (Local.get _) fun o=>?_;split
  ·exact Local.bind (Local.new _) fun _=>Local.pure _
  ·exact Local.fail
 ·exact Local.fail
theorem Yj2(P:Program)(b:Builtin)(vs:List AV)(ts:List TypeId):Local (Q7 P b vs ts):=by
 unfold Q7;split
 ·split
  ·exact Yrj _ _ _
  ·exact Local.fail
 ·split
  ·exact Ylx _ _ _ _
  ·exact Local.fail
 ·split
  ·exact Yos _ _ _ _
  ·exact Local.fail
 ·exact Local.lift _
 ·exact Local.lift _
 ·split
  ·exact Ynl _ _ _
  ·exact Local.fail
 ·exact Local.fail
theorem Ynk(P:Program)(ev:Operand→Option AV)(o:Op):Local (opM P ev o):=by
 unfold opM;split
 ·exact Local.lift _
 ·exact Local.lift _
 ·split
  ·exact Local.lift _
  ·exact Local.fail
 ·exact Local.bind (Local.lift _) fun _=>Local.ite (Local.bind (Local.new _) fun _=>Local.pure _) Local.fail
 ·exact Local.bind (Local.lift _) fun _=>Local.ite (Local.bind (Local.new _) fun _=>Local.pure _) Local.fail
 ·exact Local.bind (Local.lift _) fun _=>Local.lift _
 ·exact Local.bind (Local.lift _) fun _=>Yhh _ _ _ _
 ·exact Local.bind (Local.lift _) fun _=>Yfu _ _ _
 ·exact Local.bind (Local.lift _) fun _=>Local.bind (Local.lift _) fun _=>Yni _ _ _ _
 ·split
  ·split
   ·exact Local.pure _
   ·exact Local.fail
  ·exact Local.fail
 ·exact Local.bind (Local.lift _) fun _=>Local.bind (Local.lift _) fun _=>Local.lift _
 ·exact Local.bind (Local.lift _) fun _=>Local.lift _
 ·exact Local.bind (Local.lift _) fun _=>Yj1 _ _ _ _
 ·split
  ·exact Local.bind (Local.lift _) fun _=>Local.bind (Local.lift _) fun _=>Local.pure _
  ·exact Local.fail
 ·exact Local.bind (Local.lift _) fun _=>Local.bind (Local.lift _) fun _=>Yh6 _ _ _ _
 ·split
  ·exact Local.bind (Local.new _) fun _=>Local.pure _
  ·exact Local.fail
 ·exact Local.bind (Local.lift _) fun _=>Local.bind (Local.lift _) fun _=>Local.bind (Local.lift _) fun _=>Ynj _ _ _ _ _
 ·exact Local.bind (Local.lift _) fun _=>Local.lift _
 ·exact Local.bind (Local.lift _) fun _=>Local.lift _
 ·exact Local.bind (Local.lift _) fun _=>Local.bind (Local.lift _) fun _=>Local.lift _
 ·exact Local.bind (Local.lift _) fun _=>Local.bind (Local.lift _) fun _=>Local.lift _
 ·exact Local.bind (Local.lift _) fun _=>Local.bind (Local.lift _) fun _=>Ylw _ _ _ _ _
 ·exact Local.bind (Local.lift _) fun _=>Local.bind (Local.lift _) fun _=>Local.bind (Local.lift _) fun _=>Ydy _ _ _ _ _
 ·exact Local.bind (Local.lift _) fun _=>Local.bind (Local.lift _) fun _=>Local.bind (Local.lift _) fun _=>Ydy _ _ _ _ _
 ·split
  ·exact Local.lift _
  ·exact Local.fail
 ·exact Local.bind (Local.lift _) fun _=>Local.lift _
 ·exact Local.bind (Local.lift _) fun _=>Local.lift _
 ·split
  ·exact Local.bind (Local.lift _) fun _=>Yj2 _ _ _ _
  ·exact Local.fail
 ·exact Local.fail
theorem Local.withLog(hm:Local m):Local (withLog m):=by
 intro h n r h' n' lg hf he;unfold Abs.withLog at he;split at he
 ·cases he
 ·rename_i a h1 n1 l1 e1;simp only[Zs,Zp]at he;obtain⟨rfl,rfl,rfl,rfl⟩:=he;obtain⟨s,t⟩:=hm h n a h1 n1 l1 hf e1;refine⟨s,fun g hg=>?_⟩;unfold Abs.withLog;rw[t g hg]
section
variable {call:Nat→List AV→AM AV} (P:Program) (A:Ann) (f nt:Nat)
theorem Yrk(v:AV):Local (Yfh v):=by
 unfold Yfh;split
 ·refine Local.bind (Local.get _) fun o=>?_;split
  ·exact Local.bind (Local.lift _) fun _=>Local.bind (Local.kill _) fun _=>Local.pure _
  ·exact Local.fail
 ·refine Local.bind (Local.get _) fun o=>?_;split
  ·exact Local.bind (Local.kill _) fun _=>Local.pure _
  ·exact Local.fail
 ·exact Local.pure _
theorem Local.hush(hm:Local m):Local (hush m):=by
 intro h n r h' n' lg hf he;unfold Abs.hush at he;split at he
 ·cases he
 ·rename_i a h1 n1 l1 e1;simp only[Zs,Zp]at he;obtain⟨rfl,rfl,rfl,rfl⟩:=he;obtain⟨s,t⟩:=hm h n a h1 n1 l1 hf e1;refine⟨⟨s.le,s.fresh,?_,?_,fun id hid=>s.live id (by rcases hid with h|h;exact .inl (mem_filter.1 h).1;exact .inr (mem_filter.1 h).1)⟩,fun g hg=>?_⟩
  ·intro id hid;rcases hid with hid|hid
   ·exact s.lt id (.inl (mem_filter.1 hid).1)
   ·exact s.lt id (.inr (mem_filter.1 hid).1)
  ·intro id hid hnn;refine s.same id (fun hm=>?_) hnn;rcases Nat.lt_or_ge id n with hlt|hge
   ·exact hid (mem_filter.2 ⟨hm,by simpa using hlt⟩)
   ·exact hnn ⟨hge,s.lt id (.inr hm)⟩
  ·have hg':Yjs g h n n1 l1:=by
    intro id hid;rcases hid with hid|hid|hid
    ·rcases Nat.lt_or_ge id n with hlt|hge
     ·exact hg id (.inl (mem_filter.2 ⟨hid,by simpa using hlt⟩))
     ·exact hg id (.inr (.inr ⟨hge,s.lt id (.inl hid)⟩))
    ·rcases Nat.lt_or_ge id n with hlt|hge
     ·exact hg id (.inr (.inl (mem_filter.2 ⟨hid,by simpa using hlt⟩)))
     ·exact hg id (.inr (.inr ⟨hge,s.lt id (.inr hid)⟩))
    ·exact hg id (.inr (.inr hid))
   unfold Abs.hush;rw[t g hg'];simp only
   congr 3
   funext id;unfold Yda;simp only[mem_filter,decide_eq_true_eq];by_cases hc:id∈l1.2∨(n≤id∧id<n1)
   ·rw[if_pos hc,if_pos];rcases hc with hc|hc
    ·rcases Nat.lt_or_ge id n with hlt|hge
     ·exact .inl ⟨hc,hlt⟩
     ·exact .inr ⟨hge,s.lt id (.inr hc)⟩
    ·exact .inr hc
   ·rw[if_neg hc,if_neg];rintro(h3|h3)
    ·exact hc (.inl h3.1)
    ·exact hc (.inr h3)
theorem Ycp(hc:∀g vs,Local (call g vs))(o:Oper)(regs:Nat→AV):Local (opV call P A f o regs):=by
 unfold opV;split
 ·split
  ·exact Local.bind (Local.lift _) fun _=>hc _ _
  ·exact Local.fail
 ·split
  ·split
   ·exact Local.bind (Local.lift _) fun _=>hc _ _
   ·exact Local.bind (Yfu _ _ _) fun _=>Local.bind (Local.lift _) fun _=>hc _ _
   ·exact Local.fail
  ·exact Local.fail
 ·exact Local.ite (Local.hush (Local.bind (Ynk _ _ _) fun _=>Yrk _)) (Ynk _ _ _)
theorem Qk(hc:∀g vs,Local (call g vs))(ops:Array Oper)(o:Oper)(fr:Fr):Local (Qd call P A f nt ops o fr):=by
 unfold Qd;split
 ·exact Local.bind (Ycp P A f hc _ _) fun _=>Local.lift _
 ·exact Local.lift _
 ·exact Local.fail
theorem Yeh(hc:∀g vs,Local (call g vs))(ops:Array Oper):∀(l:List Oper) (fr:Fr),Local (Ybx call P A f nt ops l fr)
 |[],_=>Local.pure _
 |_::_,_=>Local.bind (Qk P A f nt hc _ _ _) fun _=>Yeh hc ops _ _
def runL (call:Nat→List AV→AM AV) (P:Program) (A:Ann) (f nt:Nat) (ops:Array Oper) (l:List Oper) (fr:Fr):AM (Fr×List Yf1):=fun h n=>
 match Xo call P A f nt ops l fr h n with
 |none=>none
 |some (fr',h',n',lgs)=>some ((fr',lgs),h',n',Xk lgs)
theorem runL_cons(ops:Array Oper)(o:Oper)(r:List Oper)(fr:Fr) :
  runL call P A f nt ops (o::r) fr =
   AM.bind (withLog (Qd call P A f nt ops o fr)) fun x=>AM.bind (runL call P A f nt ops r x.1) fun y=>AM.pure (y.1,x.2::y.2):=by
 funext h n;unfold runL AM.bind withLog AM.pure;rw[Xo];cases Qd call P A f nt ops o fr h n with
 |none=>rfl
 |some x=>
  obtain⟨fr1,h1,n1,lg⟩:=x;simp only;cases Xo call P A f nt ops r fr1 h1 n1 with
  |none=>rfl
  |some y=>
   obtain⟨fr2,h2,n2,lgs⟩:=y;simp[Xk]
theorem Ykr(hc:∀g vs,Local (call g vs))(ops:Array Oper):∀(l:List Oper) (fr:Fr),Local (runL call P A f nt ops l fr)
 |[],fr=>by
  have:runL call P A f nt ops [] fr=AM.pure (fr,[]):=by
   funext h n;simp[runL,Xo,AM.pure,Xk]
  rw[this];exact Local.pure _
 |o::r,fr=>by
  rw[runL_cons];exact Local.bind (Local.withLog (Qk P A f nt hc _ _ _)) fun x=>Local.bind (Ykr hc ops r x.1) fun _=>Local.pure _
theorem Local.both{β γ:Type}{p:α→AM β}{c:α→β→Option γ}(hm:Local m)(hp:∀a,Local (p a)):Local (AM.both m p c):=by
 intro h n r h' n' lg hf e;unfold AM.both at e;split at e
 ·cases e
 ·rename_i a h1 n1 l e1;split at e
  ·cases e
  ·rename_i b h2 n2 l2 e2;split at e
   ·rename_i hn;obtain⟨hn,k1,k2⟩:=hn;subst hn;split at e
    ·rename_i x hx;simp only[Zs,Zp]at e;obtain⟨rfl,rfl,rfl,rfl⟩:=e;obtain⟨st1,t1⟩:=hm h n a h1 n2 l hf e1;obtain⟨st2,t2⟩:=hp a h n b h2 n2 l2 hf e2;refine⟨st1,fun g ha=>?_⟩;have a2:Yjs g h n n2 l2:=fun id hi=>ha id (by
      rcases hi with hi|hi|hi
      ·have:=all_eq_true.1 k1 id hi;simp only[Bool.or_eq_true,contains_eq_mem,decide_eq_true_eq]at this;rcases this with h|h
       ·exact .inl h
       ·exact .inr (.inl h)
      ·have:=all_eq_true.1 k2 id hi;simp only[contains_eq_mem,decide_eq_true_eq]at this;exact .inr (.inl this)
      ·exact .inr (.inr hi))
     have f1:=t1 g ha;have f2:=t2 g a2;unfold AM.both;rw[f1];simp only;rw[f2];simp only;rw[if_pos ⟨by trivial,k1,k2⟩,hx]
    ·cases e
   ·cases e
theorem Yri(p:Nat×Nat×Nat):Local (AM.look p):=Local.bind (Local.get _) fun _=>Local.pure _
theorem Ydg:∀ps:List Pl,Local (Yi9 ps)
 |[]=>Local.pure _
 |none::r=>Local.bind (Ydg r) fun _=>Local.pure _
 |some p::r=>Local.bind (Yri p) fun _=>Local.bind (Ydg r) fun _=>Local.pure _
theorem Ygh(hc:∀g vs,Local (call g vs))(ops:Array Oper)(ps:List Pl):∀(l:List Oper) (fr:Fr),Local (Ybh call P A f nt ops ps l fr)
 |[],_=>Local.bind (Ydg ps) fun _=>Local.pure _
 |_::r,_=>Local.bind (Ydg ps) fun _=>Local.bind (Qk P A f nt hc _ _ _) fun fr'=>Local.bind (Ygh hc ops ps r fr') fun _=>Local.pure _
theorem Yks(hc:∀g vs,Local (call g vs))(ops:Array Oper):∀(l:List Oper) (fr:Fr),Local (runD call P A f nt ops l fr)
 |[],_=>Local.pure _
 |_::r,_=>Local.bind (Local.withLog (Qk P A f nt hc _ _ _)) fun x=>Local.bind (Yks hc ops r x.1) fun _=>Local.pure _
theorem Ylh(ops:Array Oper):∀(l:List Oper) (fr:Fr) (h:Ya) (n:Nat) {fr' h' n' es lg},runD call P A f nt ops l fr h n=some ((fr',es),h',n',lg)→
  Xo call P A f nt ops l fr h n=some (fr',h',n',es.map (·.1))∧lg=Xk (es.map (·.1))
 |[],fr,h,n,fr',h',n',es,lg,e=>by
  simp only[runD,AM.pure,Zs,Zp]at e;obtain⟨⟨rfl,rfl⟩,rfl,rfl,rfl⟩:=e;exact⟨rfl,by simp[Xk]⟩
 |o::r,fr,h,n,fr',h',n',es,lg,e=>by
  simp only[runD]at e;unfold AM.bind withLog at e;cases e1:Qd call P A f nt ops o fr h n with
  |none=>rw[e1]at e;cases e
  |some x=>
   obtain⟨fr1,h1,n1,l1⟩:=x;rw[e1]at e;simp only at e;cases e2:runD call P A f nt ops r fr1 h1 n1 with
   |none=>rw[e2]at e;cases e
   |some y=>
    obtain⟨⟨fr2,es2⟩,h2,n2,l2⟩:=y;rw[e2]at e;simp only[AM.pure,Zs,Zp]at e;obtain⟨⟨rfl,rfl⟩,rfl,rfl,rfl⟩:=e;obtain⟨h3,rfl⟩:=Ylh ops r fr1 h1 n1 e2;refine⟨?_,by simp[Xk]⟩;unfold Xo;rw[e1];simp only[h3,map_cons]
theorem Ylv(hc:∀g vs,Local (call g vs))(ops:Array Oper)(fr:Fr):Local (Q9 call P A f nt ops fr):=by
 intro h n r h' n' lg hf e;unfold Q9 at e;cases e1:Xo call P A f nt ops ops.toList fr h n with
 |none=>rw[e1]at e;cases e
 |some x=>
  obtain⟨fr1,h1,n1,lgs⟩:=x;rw[e1]at e;simp only at e;have hrl:runL call P A f nt ops ops.toList fr h n=some ((fr1,lgs),h1,n1,Xk lgs):=by unfold runL;rw[e1]
  obtain⟨st,tr⟩:=Ykr P A f nt hc ops ops.toList fr h n _ _ _ _ hf hrl;cases hcm:calm ops lgs with
  |true=>
   rw[hcm]at e;simp only[if_true,Zs,Zp]at e;obtain⟨rfl,rfl,rfl,rfl⟩:=e;refine⟨st,fun g ha=>?_⟩;have:=tr g ha;unfold runL at this;unfold Q9;cases e2:Xo call P A f nt ops ops.toList fr g n with
   |none=>rw[e2]at this;cases this
   |some y=>
    obtain⟨fr2,h2,n2,lgs2⟩:=y;rw[e2]at this;simp only[Zs,Zp]at this;obtain⟨⟨rfl,rfl⟩,rfl,rfl,_⟩:=this;simp only[hcm,if_true]
  |false=>
   rw[hcm]at e;simp only[Zf,if_false]at e;have hb:=Local.both (c:=fun a b=>if Yr0 ops a.2 b then some a.1 else none) (Yks P A f nt hc ops ops.toList fr) (fun a=>Ygh P A f nt hc ops (needs ops a.2) ops.toList fr);have e':=e;obtain⟨st2,tr2⟩:=hb h n r h' n' lg hf e;refine⟨st2,fun g ha=>?_⟩;have hg:=tr2 g ha;have hlog:lg=Xk lgs∧n'=n1:=by
    unfold AM.both at e';split at e'
    ·cases e'
    ·rename_i a h3 n3 l3 e3;obtain⟨fr3,es3⟩:=a;obtain⟨q1,q2⟩:=Ylh P A f nt ops _ _ _ _ e3;rw[e1]at q1;simp only[Zs,Zp]at q1;obtain⟨_,_,rfl,q4⟩:=q1;split at e'
     ·cases e'
     ·split at e'
      ·split at e'
       ·simp only[Zs,Zp]at e';obtain⟨_,_,rfl,rfl⟩:=e';exact⟨by rw[q2,q4],rfl⟩
       ·cases e'
      ·cases e'
   obtain⟨rfl,rfl⟩:=hlog;have:=tr g ha;unfold runL at this;unfold Q9;cases e2:Xo call P A f nt ops ops.toList fr g n with
   |none=>rw[e2]at this;cases this
   |some y=>
    obtain⟨fr2,h2,n2,lgs2⟩:=y;rw[e2]at this;simp only[Zs,Zp]at this;obtain⟨⟨rfl,rfl⟩,rfl,rfl,_⟩:=this;simp only[hcm,Zf,if_false];exact hg
theorem Yom{ops:Array Oper}{fr fr':Fr}{h':Ya}{n':Nat}(e:Q9 call P A f nt ops fr h n=some (fr',h',n',lg)):∃lgs,Xo call P A f nt ops ops.toList fr h n=some (fr',h',n',lgs):=by
 unfold Q9 at e;cases e1:Xo call P A f nt ops ops.toList fr h n with
 |none=>rw[e1]at e;cases e
 |some x=>
  obtain⟨fr1,h1,n1,lgs⟩:=x;rw[e1]at e;simp only at e;split at e
  ·simp only[Zs,Zp]at e;obtain⟨rfl,rfl,rfl,_⟩:=e;exact⟨lgs,rfl⟩
  ·unfold AM.both at e;split at e
   ·cases e
   ·rename_i a h3 n3 l3 e3;obtain⟨fr3,es⟩:=a;obtain⟨q1,_⟩:=Ylh P A f nt ops _ _ _ _ e3;rw[e1]at q1;split at e
    ·cases e
    ·rename_i sn h4 n4 l4 e4;split at e
     ·split at e
      ·rename_i y hy;replace hy:(if Yr0 ops es sn=true then some fr3 else none)=some y:=hy;simp only[Zs,Zp]at e;obtain⟨rfl,rfl,rfl,_⟩:=e;split at hy
       ·simp only[Zs]at hy;subst hy;exact⟨_,q1⟩
       ·cases hy
      ·cases e
     ·cases e
theorem Yft{b:Fr→AM (AX×Fr)}(hb:∀fr,Local (b fr)):∀(k:Nat) (fr:Fr),Local (Yeg b k fr)
 |0,_=>Local.fail
 |k+1,fr=>by
  unfold Yeg;refine Local.bind (hb fr) fun x=>?_;split
  ·exact Yft hb k _
  ·exact Local.pure _
theorem Qo(hc:∀g vs,Local (call g vs))(k:Nat):∀(c:Code) (fr:Fr),Local (Jr call P A f nt k c fr):=by
 intro c
 induction c with
 |skip=>intro fr;exact Local.pure _
 |region id ops draw=>
  intro fr;unfold Jr;exact Local.bind (Local.ite (Ylv P A f nt hc _ _) (Yeh P A f nt hc _ _ _)) fun _=>Local.pure _
 |seq a b iha ihb=>
  intro fr;unfold Jr;refine Local.bind (iha fr) fun x=>?_;split
  ·exact ihb _
  ·exact Local.pure _
 |cond c a b iha ihb=>
  intro fr;unfold Jr;split
  ·exact iha _
  ·exact ihb _
  ·exact Local.fail
 |block id b ih=>intro fr;unfold Jr;exact Local.bind (ih fr) fun _=>Local.pure _
 |loop b ih=>intro fr;unfold Jr;exact Yft (fun fr=>ih fr) k fr
 |rangeFunc=>intro fr;unfold Jr;exact Local.fail
 |exit id=>intro fr;exact Local.pure _
 |scope b ih=>intro fr;unfold Jr;exact Local.fail
 |label l=>intro fr;unfold Jr;exact Local.fail
 |goto l=>intro fr;unfold Jr;exact Local.fail
 |ret=>intro fr;exact Local.pure _
 |refuse w=>intro fr;unfold Jr;exact Local.fail
end
theorem Ya1{fz:AV→AM AV}(H:∀v,Local (fz v)):∀(l:List AV),Local (Ybm fz l)
 |[]=>by unfold Ybm;exact Local.pure _
 |v::r=>by
  unfold Ybm;exact Local.bind (H v) fun _=>Local.bind (Ya1 H r) fun _=>Local.pure _
theorem Jm:∀(k:Nat) (v:AV),Local (Xy k v)
 |0,_=>by unfold Xy;exact Local.fail
 |k+1,v=>by
  unfold Xy;split
  ·refine Local.bind (Local.get _) fun o=>?_;split
   ·exact Local.bind (Local.lift _) fun _=>Local.bind (Local.kill _) fun _=>Local.bind (Ya1 (Jm k) _) fun _=>Local.pure _
   ·exact Local.fail
  ·exact Local.bind (Ya1 (Jm k) _) fun _=>Local.pure _
  ·exact Local.bind (Ya1 (Jm k) _) fun _=>Local.pure _
  ·exact Local.pure _
theorem Yac(P:Program)(regs:Nat→AV):∀l:List ResultVar,Local (Qr P regs l)
 |[]=>Local.pure _
 |.tmp _::r=>Local.bind (Yac P regs r) fun _=>Local.pure _
 |.cell _ _::r=>Local.bind (Yfu _ _ _) fun _=>Local.bind (Yac P regs r) fun _=>Local.pure _
theorem Yhi(hc:∀g vs,Local (call g vs))(P:Program)(A:Ann)(k f:Nat)(args:List AV) :
  Local (body call P A k f args):=by
 unfold body;split
 ·split
  ·refine Local.ite Local.fail (Local.bind (Qo P A f _ hc k _ _) fun x=>?_);split
   ·exact Local.fail
   ·refine Local.bind (Yac _ _ _) fun vs=>Local.bind (Local.ite (Jm _ _) (Local.pure _)) fun _=>Local.pure _
  ·split
   ·exact Local.bind (Yrl _ _) fun _=>Local.pure _
   ·exact Local.fail
 ·exact Local.fail
theorem Yot(hc:∀g vs,Local (call g vs))(P:Program)(A:Ann)(k f:Nat)(args:List AV):Local (Ycb call P A k f args):=by
  intro h n r h' n' lg hf he;unfold Ycb at he;split at he
  ·cases he
  ·rename_i v boxes h1 n1 l1 e1;obtain⟨s,t⟩:=Yhi hc P A k f args h n (v,boxes) h1 n1 l1 hf e1;have hn:=s.le;simp only[Zs]at he;unfold Ybn at he;dsimp only at he;by_cases hp:(A.still f&&v.tree&&(l1.2.filter (· < n)).isEmpty)=true
   ·rw[if_pos hp]at he;simp only[Zp]at he;obtain⟨rfl,rfl,rfl,rfl⟩:=he;simp only[Za,isEmpty_iff]at hp;have hw:∀id,id∈l1.2→n≤id:=by
     intro id hid;rcases Nat.lt_or_ge id n with hlt|hge
     ·have:id∈l1.2.filter (· < n):=mem_filter.2 ⟨hid,by simpa using hlt⟩;rw[hp.2]at this;cases this
     ·exact hge
    refine⟨⟨hn,fun id hid=>hf id (by omega),?_,fun _ _ _=>rfl,fun id hid=>s.live id (by rcases hid with h|h;exact .inl (mem_filter.1 h).1;cases h)⟩,fun g hg=>?_⟩
    ·intro id hid;rcases hid with hid|hid
     ·exact s.lt id (.inl (mem_filter.1 hid).1)
     ·cases hid
    ·have hg':Yjs g h n n1 l1:=by
      intro id hid;rcases hid with hid|hid|hid
      ·rcases Nat.lt_or_ge id n with hlt|hge
       ·exact hg id (.inl (mem_filter.2 ⟨hid,by simpa using hlt⟩))
       ·exact hg id (.inr (.inr ⟨hge,s.lt id (.inl hid)⟩))
      ·exact hg id (.inr (.inr ⟨hw id hid,s.lt id (.inr hid)⟩))
      ·exact hg id (.inr (.inr hid))
     unfold Ycb;rw[t g hg'];simp only[Ybn];rw[if_pos (by simp only[hp.1.1,hp.1.2,hp.2];rfl)]
     congr 3
     funext id;unfold Yda;by_cases hc:id∈([]:List Nat)∨(n≤id∧id<n1)
     ·rw[if_pos hc];exact hg id (.inr (.inr (by simpa using hc)))
     ·rw[if_neg hc]
   ·rw[if_neg hp]at he;simp only[Zp]at he;obtain⟨rfl,rfl,rfl,rfl⟩:=he;refine⟨⟨hn,?_,?_,?_,fun id hid=>s.live id (by rcases hid with h|h;exact .inl (mem_filter.1 h).1;exact .inr (mem_filter.1 h).1)⟩,fun g hg=>?_⟩
    ·intro id hid;unfold Q2;split
     ·rfl
     ·exact s.fresh id hid
    ·intro id hid;rcases hid with hid|hid
     ·exact s.lt id (.inl (mem_filter.1 hid).1)
     ·exact s.lt id (.inr (mem_filter.1 hid).1)
    ·intro id hid hnn;have hid':id∉l1.2:=fun hm=>by
      rcases Nat.lt_or_ge id n with hlt|hge
      ·exact hid (mem_filter.2 ⟨hm,by simpa using hlt⟩)
      ·exact hnn ⟨hge,s.lt id (.inr hm)⟩
     unfold Q2;split
     ·rename_i hb;exact absurd ⟨hb.1,hb.2.1⟩ hnn
     ·exact s.same id hid' hnn
    ·have hg':Yjs g h n n1 l1:=by
      intro id hid;rcases hid with hid|hid|hid
      ·rcases Nat.lt_or_ge id n with hlt|hge
       ·exact hg id (.inl (mem_filter.2 ⟨hid,by simpa using hlt⟩))
       ·exact hg id (.inr (.inr ⟨hge,s.lt id (.inl hid)⟩))
      ·rcases Nat.lt_or_ge id n with hlt|hge
       ·exact hg id (.inr (.inl (mem_filter.2 ⟨hid,by simpa using hlt⟩)))
       ·exact hg id (.inr (.inr ⟨hge,s.lt id (.inr hid)⟩))
      ·exact hg id (.inr (.inr hid))
     unfold Ycb;rw[t g hg'];simp only[Ybn];rw[if_neg hp]
     congr 3
     funext id;unfold Q2 Yda;simp only[mem_filter,decide_eq_true_eq];by_cases hb:n≤id∧id<n1∧boxes.contains id=true
     ·rw[if_pos hb,if_pos (.inr ⟨hb.1,hb.2.1⟩),if_pos hb]
     ·rw[if_neg hb];by_cases hc:id∈l1.2∨(n≤id∧id<n1)
      ·rw[if_pos hc];rw[if_pos (by
        rcases hc with hc|hc
        ·rcases Nat.lt_or_ge id n with hlt|hge
         ·exact .inl ⟨hc,hlt⟩
         ·exact .inr ⟨hge,s.lt id (.inr hc)⟩
        ·exact .inr hc),if_neg hb]
      ·rw[if_neg hc,if_neg];rintro(h3|h3)
       ·exact hc (.inl h3.1)
       ·exact hc (.inr h3)
theorem Ycy{m:AM AV}{h':Ya}{n':Nat}(e:Yoa m h n=some (v,h',n',lg)):h'=h∧n'=n∧lg=([],[])∧v.tree=true∧∃h1 n1 l1,m (fun _=>none) 0=some (v,h1,n1,l1):=by
 unfold Yoa at e;split at e
 ·cases e
 ·rename_i v1 x e1;obtain⟨h1,n1,l1⟩:=x;split at e
  ·rename_i ht;simp only[Zs,Zp]at e;obtain⟨rfl,rfl,rfl,rfl⟩:=e;exact⟨rfl,rfl,rfl,ht,h1,n1,l1,e1⟩
  ·cases e
theorem Yio{m:AM AV}{h1:Ya}{n1:Nat}{l1:Log}(ht:v.tree=true)(e:m (fun _=>none) 0=some (v,h1,n1,l1))(h:Ya)(n:Nat):Yoa m h n=some (v,h,n,([],[])):=by
 unfold Yoa;rw[e];simp only;rw[if_pos ht]
theorem You(m:AM AV):Local (Yoa m):=by
 intro h n r h' n' lg hf he;obtain⟨rfl,rfl,rfl,ht,h1,n1,l1,e1⟩:=Ycy he;refine⟨⟨Zl _,hf,by simp,by simp,by simp⟩,fun g _=>?_⟩;rw[Yio ht e1,Ygc]
theorem Xa(P:Program)(A:Ann):∀(k f:Nat) (args:List AV),Local (Xg P A k f args)
 |0,_,_=>Local.fail
 |k+1,f,args=>by
  unfold Xg;exact Local.ite (You _) (Yot (fun g vs=>Xa P A k g vs) P A k f args)
end Go.Abs
