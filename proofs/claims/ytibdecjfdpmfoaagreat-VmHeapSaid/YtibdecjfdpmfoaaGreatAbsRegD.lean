import Derived.Test.YtibdecjfdpmfoaaGreatAbsLs
namespace Go.Abs
open List hiding cons nil
variable {v:AV} {ops:Array Oper} {w:Bool} {l r:List SO} {d e off:Nat} {o:Oper} {dst n:Option Nat} {x:SX} {h h':Ya}
inductive CD where
 |L|C|W
variable {c:CD}
def okD:CD→CD→Bool
 |.W,.W | .C,.W=>false
 |_,_=>true
abbrev PS:=List (Nat×Nat×Nat×List AV)
variable {S:PS}
def Stb (S:PS) (h:Ya):Prop:=∀x∈S,sliceAt h (x.1,x.2.1,x.2.2.1)=some x.2.2.2
theorem Stb.nil:Stb [] h:=fun _ h=>by cases h
theorem Stb.cons{id n:Nat}{v:List AV}(h1:sliceAt h (id,off,n)=some v)(h2:Stb S h):Stb ((id,off,n,v)::S) h:=fun x hx=>by
 rcases mem_cons.1 hx with rfl|hx
 ·exact h1
 ·exact h2 x hx
section
variable {P:Program} {A:Ann} {f nt:Nat}
def Liv (S:PS) (h:Ya):Prop:=∀x∈S,h x.1≠none
def ClD (A:Ann) (P:Program) (f:Nat) (S:PS) (ops:Array Oper) (o:Oper) (fr:Fr) (lg:Yf1):CD→Prop
 |.L=>(∃p v,Yij P A f ops o fr=some p∧(p.1,p.2.1,p.2.2,v)∈S)∨lg.1=([],[])∧lg.2.1=lg.2.2∧Yij P A f ops o fr=none
 |.C=>lg.1=([],[])∧Yij P A f ops o fr=none
 |.W=>Yij P A f ops o fr=none
inductive RunS (P:Program) (A:Ann) (f nt:Nat) (S:PS) (ops:Array Oper) (k:Nat):Nat→List CD→List Oper→Fr→Ya→Nat→Fr→Ya→Nat→List Yf1→Prop where
 |nil {q:Nat} {fr:Fr} {h:Ya} {n:Nat} (hs:0<q→Stb S h) (hl:Liv S h):RunS P A f nt S ops k q [] [] fr h n fr h n []
 |cons {q:Nat} {c:CD} {cls:List CD} {o:Oper} {r:List Oper} {fr fr1 fr2:Fr} {h h1 h2:Ya} {n n1 n2:Nat} {lg:Log} {lgs:List Yf1} (hs:0<q→Stb S h) (hl:Liv S h) (e:Qd (Xg P A k) P A f nt ops o fr h n=some (fr1,h1,n1,lg))
  (hc:1<q→ClD A P f S ops o fr (lg,n,n1) c) (H:RunS P A f nt S ops k (q-1) cls r fr1 h1 n1 fr2 h2 n2 lgs):RunS P A f nt S ops k q (c::cls) (o::r) fr h n fr2 h2 n2 ((lg,n,n1)::lgs)
section
variable {S:PS} {ops:Array Oper} {k k' q:Nat} {cls:List CD} {l:List Oper} {fr fr':Fr} {h h':Ya} {n n':Nat} {lgs:List Yf1}
theorem RunS.up(hk:k≤k')(H:RunS P A f nt S ops k q cls l fr h n fr' h' n' lgs):RunS P A f nt S ops k' q cls l fr h n fr' h' n' lgs:=by
 induction H with
 |nil hs hl=>exact .nil hs hl
 |cons hs hl e hc _ ih=>exact .cons hs hl (Yb0 (fun g vs=>Qx hk g vs) ops _ _ _ _ _ e) hc ih
theorem RunS.log(H:RunS P A f nt S ops k q cls l fr h n fr' h' n' lgs):Xo (Xg P A k) P A f nt ops l fr h n=some (fr',h',n',lgs):=by
 induction H with
 |nil=>rfl
 |cons _ _ e _ _ ih=>unfold Xo;rw[e];simp only;rw[ih]
noncomputable def Yi1 (A:Ann) (P:Program) (f nt:Nat) (ops:Array Oper) (k:Nat):List Oper→Fr→Ya→Nat→List Pl
 |[],_,_,_=>[]
 |o::r,fr,h,n=>Yij P A f ops o fr::(match Qd (Xg P A k) P A f nt ops o fr h n with
  |some (fr1,h1,n1,_)=>Yi1 A P f nt ops k r fr1 h1 n1
  |none=>[])
theorem RunS.runD(H:RunS P A f nt S ops k q cls l fr h n fr' h' n' lgs):Go.Abs.runD (Xg P A k) P A f nt ops l fr h n=some ((fr',lgs.zip (Yi1 A P f nt ops k l fr h n)),h',n',Xk lgs):=by
 induction H with
 |nil=>rfl
 |cons _ _ e _ _ ih=>
  unfold Go.Abs.runD;simp only[AM.bind,withLog,e,ih,AM.pure,Yi1,zip_cons_cons,Xk,flatMap_cons,append_nil]
theorem look_run{p:Nat×Nat×Nat}(hl:h p.1≠none)(n:Nat):AM.look p h n=some (sliceAt h p,h,n,([p.1],[])):=by
 unfold AM.look sliceAt;cases hi:h p.1 with
 |none=>exact absurd hi hl
 |some o=>
  simp only[AM.bind,AM.get,hi,AM.pure];cases o<;>rfl
def InS (S:PS):Pl→Prop
 |none=>True
 |some p=>∃v,(p.1,p.2.1,p.2.2,v)∈S
theorem Ygg(hs:Liv S h):∀{ps:List Pl},(∀p∈ps,InS S p)→∀n,∃rd,Yi9 ps h n=some (ps.map (Ycg h),h,n,(rd,[]))∧∀id∈rd,∃p,some p∈ps∧id=p.1
 |[],_,n=>⟨[],rfl,by simp⟩
 |none::ps,hp,n=>by
  obtain⟨rd,e,hr⟩:=Ygg hs (fun p h=>hp p (.tail _ h)) n;refine⟨rd++[],?_,fun id hid=>?_⟩
  ·simp only[Yi9,AM.bind,e,AM.pure,map_cons,Ycg];rfl
  ·rw[append_nil]at hid;obtain⟨p,h1,h2⟩:=hr id hid;exact⟨p,.tail _ h1,h2⟩
 |some p::ps,hp,n=>by
  obtain⟨v,hv⟩:=hp _ (.head _);obtain⟨rd,e,hr⟩:=Ygg hs (fun p h=>hp p (.tail _ h)) n;refine⟨p.1::(rd++[]),?_,fun id hid=>?_⟩
  ·simp only[Yi9,AM.bind,look_run (hs _ hv),e,AM.pure,map_cons,Ycg];rfl
  ·rw[append_nil]at hid;rcases mem_cons.1 hid with rfl|hid
   ·exact⟨p,.head _,rfl⟩
   ·obtain⟨q,h1,h2⟩:=hr id hid;exact⟨q,.tail _ h1,h2⟩
theorem RunS.look(H:RunS P A f nt S ops k q cls l fr h n fr' h' n' lgs){ps:List Pl}(hp:∀p∈ps,InS S p):∃L sn,Ybh (Xg P A k) P A f nt ops ps l fr h n=some (sn,h',n',L)∧(∀id∈L.1,id∈(Xk lgs).1∨∃p,some p∈ps∧id=p.1)∧L.2=(Xk lgs).2 ∧
  ∀j,j<q→j≤lgs.length→∃X,sn[j]?=some (ps.map (Ycg X))∧Stb S X:=by
 induction H with
 |@nil q fr h n hs hl=>
  obtain⟨rd,e,hr⟩:=Ygg hl hp n;refine⟨(rd,[]),[ps.map (Ycg h)],?_,fun id hid=> .inr (hr id hid),rfl,fun j hj hjl=>?_⟩
  ·unfold Ybh;simp only[AM.bind,e,AM.pure,append_nil]
  ·obtain rfl:j=0:=by simpa using hjl
   exact⟨h,rfl,hs hj⟩
 |@cons q c cls o r fr fr1 fr2 h h1 h2 n n1 n2 lg lgs hs hl e _ H ih=>
  obtain⟨rd,e1,hr⟩:=Ygg hl hp n;obtain⟨L,sn,e2,hL,hL2,hsn⟩:=ih;refine⟨(rd++(lg.1++L.1),lg.2++L.2),ps.map (Ycg h)::sn,?_,fun id hid=>?_,?_,fun j hj hjl=>?_⟩
  ·unfold Ybh;simp only[AM.bind,e1,e,e2,AM.pure,append_nil,nil_append]
  ·simp only[mem_append]at hid;simp only[Xk,flatMap_cons,mem_append];rcases hid with hid|hid|hid
   ·exact .inr (hr id hid)
   ·exact .inl (.inl hid)
   ·rcases hL id hid with h|h
    ·exact .inl (.inr h)
    ·exact .inr h
  ·rw[hL2];simp[Xk]
  ·cases j with
   |zero=>exact⟨h,rfl,hs hj⟩
   |succ j=>
    obtain⟨X,x1,x2⟩:=hsn j (by omega) (by simpa using hjl);exact⟨X,by simpa using x1,x2⟩
theorem RunS.at(H:RunS P A f nt S ops k q cls l fr h n fr' h' n' lgs):∀(j:Nat) (x:Yf1),lgs[j]?=some x→j+1<q→∃c p,cls[j]?=some c∧(Yi1 A P f nt ops k l fr h n)[j]?=some p∧match c with
  |.L=>(∃q v,p=some q∧(q.1,q.2.1,q.2.2,v)∈S)∨x.1=([],[])∧x.2.1=x.2.2∧p=none
  |.C=>x.1=([],[])∧p=none
  |.W=>p=none:=by
 induction H with
 |nil=>intro j x hx;simp at hx
 |@cons q c cls o r fr fr1 fr2 h h1 h2 n n1 n2 lg lgs hs hl e hc H ih=>
  intro j x hx hj;cases j with
  |zero=>
   simp only[Zc,Zs]at hx;subst hx;refine⟨_,_,rfl,rfl,?_⟩;have hc:=hc (by omega);cases c with
   |L=>exact hc
   |C=>exact hc
   |W=>exact hc
  |succ j=>
   obtain⟨c,p,h1,h2,h3⟩:=ih j x (by simpa using hx) (by omega);exact⟨c,p,by simpa using h1,by simpa[Yi1,e]using h2,h3⟩
theorem RunS.own(H:RunS P A f nt S ops k q cls l fr h n fr' h' n' lgs):∀(j:Nat) (x:Yf1) q,lgs[j]?=some x→(Yi1 A P f nt ops k l fr h n)[j]?=some (some q)→q.1∈x.1.1:=by
 induction H with
 |nil=>intro j x q hx;simp at hx
 |@cons q c cls o r fr fr1 fr2 h h1 h2 n n1 n2 lg lgs hs hl e hc H ih=>
  intro j x q hx hq;cases j with
  |zero=>
   simp only[Zc,Zs]at hx;subst hx;simp only[Yi1,Zc,Zs]at hq;obtain⟨hw,hv⟩:=ld_opV (call:=Xg P A k) hq;unfold Qd at e;rw[hw]at e;simp only at e;unfold AM.bind at e;split at e
   ·cases e
   ·rename_i e1;obtain⟨_,_,rfl,_⟩:=hv e1;split at e
    ·cases e
    ·simp only[Zs,Zp]at e;rw[←e.2.2.2];simp
  |succ j=>
   exact ih j x q (by simpa using hx) (by simpa[Yi1,e]using hq)
theorem RunS.len(H:RunS P A f nt S ops k q cls l fr h n fr' h' n' lgs):lgs.length=l.length∧(Yi1 A P f nt ops k l fr h n).length=l.length:=by
 induction H with
 |nil=>exact⟨rfl,rfl⟩
 |cons _ _ e _ _ ih=>simp only[Yi1,e,length_cons,ih,and_self]
end
mutual
theorem Yql:∀a:AV,eqV a a=true
 |.bool b=>show(b==b)=true by simp
 |.int k n=>show(decide (k=k)&&decide (n=n))=true by simp
 |.str t=>show decide (t=t)=true by simp
 |.nil k=>show decide (k=k)=true by simp
 |.ptr a b=>show(Nat.beq a a&&Nat.beq b b)=true by simp
 |.tptr cs o=>show(eqV (.agg cs) (.agg cs)&&Nat.beq o o)=true by rw[Yan cs];simp
 |.sl a b c d=>show(Nat.beq a a&&Nat.beq b b&&Nat.beq c c&&Nat.beq d d)=true by simp
 |.tsl cs n=>show(eqV (.agg cs) (.agg cs)&&Nat.beq n n)=true by rw[Yan cs];simp
 |.map a=>show Nat.beq a a=true by simp
 |.fn f a b=>show(Nat.beq f f&&eqV (.agg a) (.agg a)&&eqV (.agg b) (.agg b))=true by rw[Yan a,Yan b];simp
 |.agg cs=>Yan cs
 |.tup cs=>show eqV (.agg cs) (.agg cs)=true from Yan cs
 |.ifc t v=>show(Nat.beq t t&&eqV v v)=true by rw[Yql v];simp
theorem Yan:∀l:List AV,eqV (.agg l) (.agg l)=true
 |[]=>rfl
 |a::l=>show(eqV a a&&eqV (.agg l) (.agg l))=true by rw[Yql a,Yan l];rfl
end
section
theorem Yhn{a b:Yf1}(h:a.1=([],[]))(h2:a.2.1=a.2.2):Js a b=false:=by
 have:∀x:Nat,(decide (a.2.2≤x)&&decide (x<a.2.2))=false:=fun x=>by simp
 unfold Js;rw[h,h2];simp only[Ygu,Bool.true_and,this,Bool.not_false];simp[Yl5]
theorem Ydq{a b:Yf1}(h:b.1=([],[])):Js a b=false:=by
 unfold Js;rw[h];simp[Yl5]
end
section
variable {P:Program} {A:Ann} {f nt:Nat} {fr:Fr} {h:Ya} {Q:AX→Fr→Ya→Prop}
def OpsD (P:Program) (A:Ann) (f nt:Nat) (S:PS) (q:Nat) (cls:List CD) (ops:Array Oper) (l:List Oper) (fr:Fr) (h:Ya) (Q:Fr→Ya→Prop):Prop:=
 ∀n,Qt h n→∃k fr' h' n' lgs,RunS P A f nt S ops k q cls l fr h n fr' h' n' lgs∧Q fr' h'
theorem Yn7:∀(l:List (Nat×Nat)) (m:Nat),m≤l.foldl (fun m p=>max m (max p.1 p.2+1)) m∧∀p∈l,max p.1 p.2+1≤l.foldl (fun m p=>max m (max p.1 p.2+1)) m
 |[],m=>⟨Zl _,by simp⟩
 |q::l,m=>by
  obtain⟨h1,h2⟩:=Yn7 l (max m (max q.1 q.2+1));refine⟨by rw[foldl_cons];omega,fun p hp=>?_⟩;rw[foldl_cons];rcases mem_cons.1 hp with rfl|hp
  ·omega
  ·exact h2 p hp
theorem bnd_lt{l:List (Nat×Nat)}{p:Nat×Nat}(h:p∈l):p.1<bnd l∧p.2<bnd l:=by
 have:=(Yn7 l 0).2 p h;unfold bnd;omega
theorem Yrs{i:Nat}{dr:Bool}{cls:List CD}(hps:(Yi4 A f ops).all (fun p=>match cls[p.1]?,cls[p.2]? with|some a,some b=>okD a b|_,_=>false)=true)
  (H:OpsD P A f nt S (bnd (Yi4 A f ops)+1) cls ops ops.toList fr h (rq Q)):Runs P A f nt (.region i ops dr) fr h Q:=by
 intro n hn;obtain⟨k,fr1,h1,n1,lgs,R,q⟩:=H n hn;have e:=R.log;have ev:(if dr then Q9 (Xg P A k) P A f nt ops fr else Ybx (Xg P A k) P A f nt ops ops.toList fr) h n=some (fr1,h1,n1,Xk lgs):=by
  cases dr with
  |false=>exact Kj ops _ _ _ _ e
  |true=>
   simp only[if_true];unfold Q9;rw[e];simp only;by_cases hc:calm ops lgs=true
   ·rw[if_pos hc]
   rw[if_neg hc];obtain⟨l1,l2⟩:=R.len;obtain⟨pl,hpl⟩:∃pl,pl=Yi1 A P f nt ops k ops.toList fr h n:=⟨_,rfl⟩;have hD:=R.runD;have hat:=R.at
   have hown:=R.own;rw[←hpl]at l2 hD hat hown;obtain⟨es,hes⟩:∃es,es=lgs.zip pl:=⟨_,rfl⟩;rw[←hes]at hD;have hel:es.length=lgs.length:=by rw[hes,length_zip];omega
   have hget:∀j (x:Yf1),lgs[j]?=some x→∃p,pl[j]?=some p∧es[j]?=some (x,p):=fun j x hx=>by
    have hj:=(Zi.1 hx).1;have hj2:j<pl.length:=by omega
    exact⟨pl[j],Zg hj2,by rw[hes];exact getElem?_zip_eq_some.2 ⟨hx,Zg hj2⟩⟩
   have hgl:∀j,Yp9 es j=lgs.getD j (([],[]),0,0):=fun j=>by
    unfold Yp9;rw[Zd,Zd];cases hj:lgs[j]? with
    |none=>rw[getElem?_eq_none (by rw[hel];exact getElem?_eq_none_iff.1 hj)];rfl
    |some x=>obtain⟨p,_,e2⟩:=hget j x hj;rw[e2];rfl
   have hpair:∀pp∈Q8 ops,Js (Yp9 es pp.1) (Yp9 es pp.2)=true→∃x y a b,es[pp.1]?=some (x,a)∧es[pp.2]?=some (y,b)∧pp.1<bnd (Yi4 A f ops)∧pp.2<bnd (Yi4 A f ops) ∧
     ((∃q v,a=some q∧(q.1,q.2.1,q.2.2,v)∈S)∨∃q v,b=some q∧(q.1,q.2.1,q.2.2,v)∈S)∧InS S a∧InS S b:=by
    intro pp hm hcl;rw[hgl,hgl,Zd,Zd]at hcl;cases e1:lgs[pp.1]? with
    |none=>rw[e1,Yhn rfl rfl]at hcl;cases hcl
    |some x=>
     cases e2:lgs[pp.2]? with
     |none=>rw[e2,Ydq rfl]at hcl;cases hcl
     |some y=>
      rw[e1,e2]at hcl;simp only[Option.getD_some]at hcl;have hs:∀j z,lgs[j]?=some z→Qq A f ops j=true→z.1=([],[])∧z.2.1=z.2.2:=by
       intro j z hz hj;unfold Qq at hj;split at hj
       ·rename_i o ho;obtain⟨m,hm⟩:=Ye2 ops.toList e j o (by simpa using ho) hj;rw[hm]at hz;cases hz;exact⟨rfl,rfl⟩
       ·cases hj
      have s1:Qq A f ops pp.1=false:=by
       cases s1:Qq A f ops pp.1 with
       |false=>rfl
       |true=>obtain⟨a1,a2⟩:=hs _ _ e1 s1;rw[Yhn a1 a2]at hcl;cases hcl
      have s2:Qq A f ops pp.2=false:=by
       cases s2:Qq A f ops pp.2 with
       |false=>rfl
       |true=>rw[Ydq (hs _ _ e2 s2).1]at hcl;cases hcl
      have hin:pp∈Yi4 A f ops:=mem_filter.2 ⟨hm,by simp[s1,s2]⟩;obtain⟨b1,b2⟩:=bnd_lt hin;obtain⟨c1,p1,g1,g2,g3⟩:=hat _ _ e1 (by omega);obtain⟨c2,p2,k1,k2,k3⟩:=hat _ _ e2 (by omega);have hok:=all_eq_true.1 hps pp hin;rw[g1,k1]at hok;obtain⟨_,g4,g5⟩:=hget _ _ e1;obtain⟨_,k4,k5⟩:=hget _ _ e2;rw[g2]at g4;rw[k2]at k4;cases g4;cases k4;have i1:InS S p1:=by
       cases c1 with
       |L=>
        rcases g3 with ⟨q,v,rfl,hv⟩|g3
        ·exact⟨v,hv⟩
        ·rw[g3.2.2];trivial
       |C=>rw[g3.2];trivial
       |W=>rw[g3];trivial
      have i2:InS S p2:=by
       cases c2 with
       |L=>
        rcases k3 with ⟨q,v,rfl,hv⟩|k3
        ·exact⟨v,hv⟩
        ·rw[k3.2.2];trivial
       |C=>rw[k3.2];trivial
       |W=>rw[k3];trivial
      refine⟨x,y,p1,p2,g5,k5,b1,b2,?_,i1,i2⟩;cases c1 with
      |L=>
       rcases g3 with g3|g3
       ·exact .inl g3
       ·rw[Yhn g3.1 g3.2.1]at hcl;cases hcl
      |C|W=>
       cases c2 with
       |L=>
        rcases k3 with k3|k3
        ·exact .inr k3
        ·rw[Ydq k3.1]at hcl;cases hcl
       |C=>rw[Ydq k3.1]at hcl;cases hcl
       |W=>cases hok
   have hneed:∀i a x,es[i]?=some (x,a)→(∃pp∈Q8 ops,Js (Yp9 es pp.1) (Yp9 es pp.2)=true∧(pp.1=i∨pp.2=i))→(needs ops es)[i]?=some a:=by
    intro i a x hx hex;unfold needs;have hi:=(Zi.1 hx).1;rw[getElem?_map,getElem?_range hi];simp only[Option.map_some,Zs];rw[if_pos]
    ·rw[Zd,hx];rfl
    ·rw[any_eq_true];obtain⟨p,h1,h2,h3⟩:=hex;refine⟨p,h1,?_⟩;rw[h2];rcases h3 with h3|h3<;>simp[h3]
   have hin:∀p∈needs ops es,InS S p∧∀q,p=some q→∃(j:Nat) (x:Yf1),lgs[j]?=some x∧pl[j]?=some (some q):=by
    intro p hq;unfold needs at hq;obtain⟨i,hi,hq⟩:=mem_map.1 hq;split at hq
    ·rename_i hany;rw[any_eq_true]at hany;obtain⟨pp,hm,hcl⟩:=hany;simp only[Za,Bool.or_eq_true,beq_iff_eq]at hcl;obtain⟨x,y,a,b,h1,h2,_,_,_,i1,i2⟩:=hpair pp hm hcl.1;have fin:∀(i:Nat) (x:Yf1) (a:Pl),es[i]?=some (x,a)→∀q,a=some q→∃(j:Nat) (x:Yf1),lgs[j]?=some x∧pl[j]?=some (some q):=fun i x a h q hq=>by
      rw[hes]at h;obtain⟨z1,z2⟩:=getElem?_zip_eq_some.1 h;exact⟨i,x,z1,by rw[z2,hq]⟩
     rw[Zd]at hq;rcases hcl.2 with h3|h3
     ·rw[←h3,h1]at hq;obtain rfl:a=p:=hq;exact⟨i1,fin _ _ _ h1⟩
     ·rw[←h3,h2]at hq;obtain rfl:b=p:=hq;exact⟨i2,fin _ _ _ h2⟩
    ·rw[←hq];exact⟨trivial,fun q hq=>by cases hq⟩
   obtain⟨L,sn,e2,f1,f2,f3⟩:=R.look (fun p hp=>(hin p hp).1);have hcalm:Yr0 ops es sn=true:=by
    unfold Yr0;rw[all_eq_true];intro p hm;cases hcl:Js (Yp9 es p.1) (Yp9 es p.2) with
    |false=>simp
    |true=>
     obtain⟨x,y,a,b,h1,h2,l3,l4,hst,_,_⟩:=hpair p hm hcl;have n1:=hneed p.1 a x h1 ⟨p,hm,hcl,.inl rfl⟩;have n2:=hneed p.2 b y h2 ⟨p,hm,hcl,.inr rfl⟩;have key:∀(i j:Nat) (a:Pl),(needs ops es)[i]?=some a→j<bnd (Yi4 A f ops)→j<lgs.length→(∃q v,a=some q∧(q.1,q.2.1,q.2.2,v)∈S)→Yq3 sn i j=true:=by
      rintro i j a hi hj hjl ⟨q,v,rfl,hv⟩;obtain⟨X,x1,x2⟩:=f3 j (by omega) (by omega);obtain⟨Y,y1,y2⟩:=f3 (j+1) (by omega) (by omega);have ex:sliceAt X q=some v:=x2 _ hv;have ey:sliceAt Y q=some v:=y2 _ hv;unfold Yq3;simp only[Zd,x1,y1,Option.getD_some,getElem?_map,hi,Option.map_some,Ycg,ex,ey];exact Yan v
     have m1:=(Zi.1 h1).1;have m2:=(Zi.1 h2).1;rcases hst with hst|hst
     ·simp[key p.1 p.2 a n1 l4 (by omega) hst]
     ·simp[key p.2 p.1 b n2 l3 (by omega) hst]
   unfold AM.both;rw[hD];simp only;rw[e2];simp only;rw[if_pos,if_pos hcalm];refine⟨by simp,?_,?_⟩
   ·rw[all_eq_true];intro x hx;rw[Bool.or_eq_true];refine .inl ?_;simp only[contains_eq_mem,decide_eq_true_eq];rcases f1 x hx with h|⟨p,hp,rfl⟩
    ·exact h
    ·obtain⟨j,z,z1,z2⟩:=(hin _ hp).2 p rfl;exact mem_flatMap.2 ⟨z,mem_iff_getElem?.2 ⟨j,z1⟩,hown j z p z1 z2⟩
   ·rw[f2,all_eq_true];intro x hx;simpa using hx
 refine⟨k,.norm,fr1,h1,n1,((Xk lgs).1++[],(Xk lgs).2++[]),?_,q⟩;simp only[Jr];unfold AM.bind;rw[ev];rfl
end
section
variable {P:Program} {A:Ann} {f nt:Nat} {E:Env} {bx:List Nat} {h:Ya} {Q:AX→Env→List Nat→Ya→Prop} {S:PS} {q:Nat} {cls:List CD}
def Xu (P:Program) (A:Ann) (f nt:Nat) (S:PS) (q:Nat) (cls:List CD) (l:List SO) (E:Env) (bx:List Nat) (h:Ya) (Q:AX→Env→List Nat→Ya→Prop):Prop:=
 ∀ops l0 rg,Yjt P A f ops l0=some l→Sat (lk E) rg→(0<q→Stb S h)→Liv S h→OpsD P A f nt S q cls ops l0 ⟨rg,bx⟩ h (rq (cq Q))
theorem Stb.liv(H:Stb S h):Liv S h:=fun x hx e=>by
 have:=H x hx;unfold sliceAt at this;rw[show h (x.1,x.2.1,x.2.2.1).1=none from e]at this;cases this
theorem Stb.up(H:Stb S h)(hx:Ext h h'):Stb S h':=fun x hm=>by
 have:=H x hm;unfold sliceAt at this ⊢;split at this
 ·rename_i cs hi;rw[show h' (x.1,x.2.1,x.2.2.1).1=some (.cells cs) from hx _ _ hi];exact this
 ·cases this
theorem Liv.up(H:Liv S h)(hx:Ext h h'):Liv S h':=fun x hm e=>by
 cases hi:h x.1 with
 |none=>exact H x hm hi
 |some o=>rw[hx _ _ hi]at e;cases e
theorem Ke{ps:List (Nat×Nat)}(S:PS)(cls:List CD)(hS:Stb S h)(H:Xu P A f nt S (bnd ps+1) cls l E bx h Q)(hps:ps.all (fun p=>match cls[p.1]?,cls[p.2]? with|some a,some b=>okD a b|_,_=>false)=true:=by rfl):Yb5 P A f nt (.reg ps l) E bx h Q:=by
 intro c0 rg hc hs;obtain⟨i,ops,dr,rfl,h1,rfl⟩:=Ybd hc;cases dr with
 |true=>exact Yrs hps (H ops ops.toList rg h1 hs (fun _=>hS) hS.liv)
 |false=>
  intro n hn;obtain⟨k,fr1,h1,n1,lgs,R,q⟩:=H ops ops.toList rg h1 hs (fun _=>hS) hS.liv n hn;refine⟨k,.norm,fr1,h1,n1,((Xk lgs).1++[],(Xk lgs).2++[]),?_,q⟩;simp only[Jr];unfold AM.bind;simp only[Zf,if_false];rw[Kj ops _ _ _ _ R.log];rfl
theorem d_nil(H:Q .norm E bx h):Xu P A f nt S q [] [] E bx h Q:=by
 intro ops l0 rg hl hs hS hL;cases l0 with
 |nil=>exact fun n _=>⟨0,⟨rg,bx⟩,h,n,[],.nil hS hL,E,hs,H⟩
 |cons o r=>
  simp only[Yjt]at hl;split at hl<;>simp at hl
def Ylp:SK→Bool
 |.ld _ _ | .raw=>false
 |_=>true
theorem Ygi{s:SO}(e:slO P A f ops o=some s)(hk:Ylp s.k=true)(fr:Fr):Yij P A f ops o fr=none:=by
 obtain⟨_,e2,_⟩:=Xn e;unfold Yij;split
 ·rename_i t a hop hro _;exfalso;have:Yiz P A f o.dst o.op=s.k:=e2.symm;rw[hop]at this;unfold Yiz at this;rw[hro]at this;simp only[slK,slH,Zf,if_false]at this;split at this
  ·rename_i k hk2;split at hk2
   ·cases hk2;rw[←this]at hk;cases hk
   ·cases hk2
  ·rw[←this]at hk;cases hk
 ·rfl
theorem d_W{o:SO}{R:Env→List Nat→Ya→Prop}(hk:1<q→Ylp o.k=true)(H1:Yu P A f nt h 0 [o] E bx h fun x E' bx' h1=>x= .norm∧R E' bx' h1)
  (H2:∀E' bx' h1,R E' bx' h1→(1<q→Stb S h1)∧Liv S h1∧Xu P A f nt S (q-1) cls l E' bx' h1 Q):Xu P A f nt S q (.W::cls) (o::l) E bx h Q:=by
 intro ops l0 rg hl hs hS hL;obtain⟨o0,r0,rfl,g1,g2⟩:=Y7 hl;intro n hn;obtain⟨k1,fr1,h1,n1,lgs,e,_,E',hs',⟨_,hR⟩⟩:=H1 ops [o0] rg (by simp only[Yjt,g1]) hs n hn;simp only[Xo]at e;split at e
 ·cases e
 ·rename_i fr2 h2 n2 lg e2;simp only[Zs,Zp]at e;obtain⟨rfl,rfl,rfl,_⟩:=e;have st:=(Qk P A f nt (fun g vs=>Xa P A k1 g vs) ops o0 ⟨rg,bx⟩ _ n _ _ _ _ hn e2).1;obtain⟨s1,s2,H3⟩:=H2 E' fr2.boxes h2 hR;obtain⟨k2,fr3,h3,n3,lgs3,R3,qq⟩:=H3 ops r0 fr2.regs g2 hs' (fun hq=>s1 (by omega)) s2 n2 st.fresh;exact⟨max k1 k2,fr3,h3,n3,(lg,n,n2)::lgs3,.cons hS hL (Yb0 (fun g vs=>Qx (Nat.le_max_left k1 k2) g vs) ops o0 ⟨rg,bx⟩ _ _ _ e2) (fun hq=>Ygi g1 (hk hq) _) (R3.up (Nat.le_max_right k1 k2)),qq⟩
theorem Ym8{r:List Oper}{fr:Fr}{R:Fr→Ya→Prop}(hS:0<q→Stb S h)(hL:Liv S h)(hw:Yy ops o fr.regs=some true)
  (hv:∀n,Qt h n→∃k v h' n' lg fr1,opV (Xg P A k) P A f o fr.regs h n=some (v,h',n',lg)∧ClD A P f S ops o fr (lg,n,n') c∧Yh4 A f nt o v fr=some fr1∧OpsD P A f nt S (q-1) cls ops r fr1 h' R):OpsD P A f nt S q (c::cls) ops (o::r) fr h R:=by
 intro n hn;obtain⟨k1,v,h1,n1,lg,fr1,e1,hc,hp,H⟩:=hv n hn;have st:=(Ycp P A f (fun g vs=>Xa P A k1 g vs) o fr.regs h n _ _ _ _ hn e1).1;obtain⟨k2,fr2,h2,n2,lgs,R2,qq⟩:=H n1 st.fresh;have hs:Qd (Xg P A (max k1 k2)) P A f nt ops o fr h n=some (fr1,h1,n1,lg):=by
  unfold Qd;rw[hw];simp only;unfold AM.bind;rw[le_op (Nat.le_max_left k1 k2) o fr.regs _ _ _ e1];simp only;rw[hp];simp[AM.lift,AM.pure]
 exact⟨max k1 k2,fr2,h2,n2,(lg,n,n1)::lgs,.cons hS hL hs (fun _=>hc) (R2.up (Nat.le_max_right k1 k2)),qq⟩
theorem Yjh{k:SK}(h:slO P A f ops o=some ⟨dst,none,k⟩):o.guard=none:=by
 obtain⟨_,_,e3⟩:=Xn h;rcases e3 with ⟨e,_⟩|⟨_,_,_,_,e,_⟩
 ·exact e
 ·cases e
theorem d_v{k:SK}{p:Prop}(hk:Yfg k=false)(hl:Ylp k=true)(hlt:(decide (d<nt))=true)(hv:sv (lk E) k=some (p,v))(hp:p)(H:Xu P A f nt S (q-1) cls r ((d,v)::E) bx h Q):Xu P A f nt S q (.C::cls) (⟨some d,none,k⟩::r) E bx h Q:=by
 intro ops l0 rg hl0 hs hS hL;obtain⟨o0,r0,rfl,h1,h2⟩:=Y7 hl0;obtain⟨e1,e2,e3⟩:=Xn h1;have hsl:=Jp e2 hk;refine Ym8 hS hL (by unfold Yy;rw[Yjh h1]) fun n hn=>?_;obtain⟨k1,n',rd,hrd,e⟩:=sv_rd (h0:=fun _=>none) (q:=1) hsl hs hv hp (h:=h) n hn;have:rd=[]:=eq_nil_iff_forall_not_mem.2 fun id hid=>hrd (by omega) id hid rfl;subst this;exact⟨k1,v,h,n',_,_,e,⟨rfl,Ygi h1 hl _⟩,Qw e1.symm (by simpa using hlt) (fun hb=>Yph hsl hv hb),H ops r0 _ h2 (hs.put d v) (fun hq=>hS (by omega)) hL⟩
theorem d_ld{m:Nat}{id:Nat}{l:List AV}(hlt:(decide (d<nt))=true)(hx:ev (lk E) x=some (.ptr id off))(hm:(id,off,m,l)∈S)(hv:LdV n l v)(hlm:l.length=m)(hq:0<q)
  (H:Xu P A f nt S (q-1) cls r ((d,v)::E) bx h Q):Xu P A f nt S q (.L::cls) (⟨some d,none,.ld x n⟩::r) E bx h Q:=by
 intro ops l0 rg hl hs hS hL;obtain⟨o0,r0,rfl,h1,h2⟩:=Y7 hl;obtain⟨e1,e2,e3⟩:=Xn h1;obtain⟨t,x0,hop,q1,q2,hro⟩:=Ybz e2;have hst:=hS hq _ hm;unfold sliceAt at hst;simp only at hst;split at hst
 ·rename_i cs hid;have hw:Yy ops o0 rg=some true:=by unfold Yy;rw[Yjh h1]
  refine Ym8 hS hL hw fun n' hn=>?_;have hpl:Yh4 A f nt o0 v ⟨rg,bx⟩=some ⟨upd rg d v,bx⟩:=Qw e1.symm (by simpa using hlt) (fun hb=>by rw[hop]at hb;simp[Ycs]at hb);refine⟨0,v,h,n',([id],[]),_,?_,.inl ⟨(id,off,m),l,?_,hm⟩,hpl,H ops r0 _ h2 (hs.put d v) (fun hq=>hS (by omega)) hL⟩
  ·unfold opV;rw[hop];simp only[hro,Zf,if_false,opM,Yg hs q1 hx,Kq,Xt];rcases Xz q2 with ⟨m',rfl,g1,g2⟩|⟨rfl,g1,m',g2⟩
   ·cases hv with
    |many e hm'=>
     subst e;obtain rfl:m=m':=hlm.symm.trans hm';simp only[g1,g2,AM.bind,AM.lift,AM.pure,AM.get,hid,if_true,hst,X9];rfl
   ·cases hv with
    |one e=>
     subst e;obtain rfl:m=1:=hlm.symm;simp only[g1,g2,AM.bind,AM.lift,AM.pure,AM.get,hid,Zf,if_false,hst,X9];rfl
  ·unfold Yij;rw[hop,hro];simp only[hw,Yg hs q1 hx];unfold Yqs;rcases Xz q2 with ⟨m',rfl,g1,g2⟩|⟨rfl,g1,m',g2⟩
   ·cases hv with
    |many e hm'=>
     subst e;obtain rfl:m=m':=hlm.symm.trans hm';rw[g1,g2]
   ·cases hv with
    |one e=>
     subst e;obtain rfl:m=1:=hlm.symm;rw[g1,g2]
 ·cases hst
theorem Yo5{os l:List AV}(hlt:(decide (d<nt))=true)(hx:ev (lk E) x=some (.tptr os off))(hsl:Yp os off l.length=some l)(hv:LdV n l v)
  (H:Xu P A f nt S (q-1) cls r ((d,v)::E) bx h Q):Xu P A f nt S q (.L::cls) (⟨some d,none,.ld x n⟩::r) E bx h Q:=by
 intro ops l0 rg hl hs hS hL;obtain⟨o0,r0,rfl,h1,h2⟩:=Y7 hl;obtain⟨e1,e2,e3⟩:=Xn h1;obtain⟨t,x0,hop,q1,q2,hro⟩:=Ybz e2;have hw:Yy ops o0 rg=some true:=by unfold Yy;rw[Yjh h1]
 refine Ym8 hS hL hw fun n' hn=>?_;have hpl:Yh4 A f nt o0 v ⟨rg,bx⟩=some ⟨upd rg d v,bx⟩:=Qw e1.symm (by simpa using hlt) (fun hb=>by rw[hop]at hb;simp[Ycs]at hb);refine⟨0,v,h,n',([],[]),_,?_,.inr ⟨rfl,rfl,?_⟩,hpl,H ops r0 _ h2 (hs.put d v) (fun hq=>hS (by omega)) hL⟩
 ·unfold opV;rw[hop];simp only[hro,Zf,if_false,opM,Yg hs q1 hx,Kq,Xt];rcases Xz q2 with ⟨m',rfl,g1,g2⟩|⟨rfl,g1,m',g2⟩
  ·cases hv with
   |many e hm'=>
    subst e;subst hm';simp only[g1,g2,AM.bind,AM.lift,AM.pure,if_true,hsl,X9];rfl
  ·cases hv with
   |one e=>
    subst e;rw[show([v]:List AV).length=1 from rfl]at hsl;simp only[g1,g2,AM.bind,AM.lift,AM.pure,Zf,if_false,hsl,X9];rfl
 ·unfold Yij;rw[hop,hro];simp only[hw,Yg hs q1 hx]
theorem d_alc{esc:Bool}{z:List AV}(hlt:(decide (d<nt))=true)
  (H:∀i,h i=none→Xu P A f nt S (q-1) cls r ((d,.ptr i 0)::E) (if esc then bx else i::bx) (upd h i (some (.cells z))) Q):Xu P A f nt S q (.C::cls) (⟨some d,none,.alc esc z⟩::r) E bx h Q:=by
 intro ops l0 rg hl hs hS hL;obtain⟨o0,r0,rfl,h1,h2⟩:=Y7 hl;obtain⟨e1,e2,e3⟩:=Xn h1;obtain⟨d',t,zz,hd',hop,hz,rfl,ho,hsz,hro,hesc⟩:=Xw (Yfa e2 rfl (by simp));have hd:o0.dst=some d:=e1.symm;rw[hd]at hd';cases hd';refine Ym8 hS hL (by unfold Yy;rw[Yjh h1]) fun n hn=>?_;have hi:=hn n (Zl _);have hx:Ext h (upd h n (some (.cells zz.cells))):= .upd hi;refine⟨0,.ptr n 0,upd h n (some (.cells zz.cells)),n+1,([],[]),_,?_,⟨rfl,Ygi h1 rfl _⟩,Ypw hd hlt (by rw[hop];rfl),?_⟩
 ·unfold opV;rw[hop];simp only[hro,Zf,if_false,opM,hz,Yd,Yj];rw[if_pos ⟨ho,hsz⟩];rfl
 ·have:=H n hi ops r0 _ h2 (hs.put d _) (fun hq=>(hS (by omega)).up hx) (hL.up hx);rw[hesc];exact this
theorem d_gT{k:SK}(he:lk E e=some (.bool w))(H:Xu P A f nt S q cls (⟨dst,none,k⟩::r) E bx h Q):Xu P A f nt S q cls (⟨dst,some (e,w),k⟩::r) E bx h Q:=by
 intro ops l0 rg hl hs hS hL;obtain⟨o0,r0,rfl,h1,h2⟩:=Y7 hl;obtain⟨e1,e2,e3⟩:=Xn h1;rcases e3 with ⟨_,e3⟩|⟨j,w',e',g1,g2,g3⟩
 ·cases e3
 ·simp only[Zs,Zp]at g2;obtain⟨rfl,rfl⟩:=g2;have hw':Yy ops o0 rg=some true:=by
   unfold Yy;rw[g1];simp only[g3,hs e _ he];simp
  have hstep:∀call h n,Qd call P A f nt ops o0 ⟨rg,bx⟩ h n=Qd call P A f nt ops {o0 with guard:=none} ⟨rg,bx⟩ h n:=by
   intro call h n;unfold Qd;rw[hw'];rfl
  have hld:Yij P A f ops o0 ⟨rg,bx⟩=Yij P A f ops {o0 with guard:=none} ⟨rg,bx⟩:=by
   unfold Yij;rw[hw'];rfl
  have hsl:Yjt P A f ops ({o0 with guard:=none}::r0)=some (⟨dst,none,k⟩::r):=by
   simp only[Yjt,slO,h2];simp only at e1 e2;rw[←e2,←e1]
  intro n hn;obtain⟨kk,fr1,h1',n1,lgs,R,q3⟩:=H ops _ rg hsl hs hS hL n hn;refine⟨kk,fr1,h1',n1,lgs,?_,q3⟩;cases R with
  |@cons _ c _ _ _ _ _ _ _ _ _ _ _ _ _ _ a1 a2 a3 a4 a5=>
   refine .cons a1 a2 (by rw[hstep];exact a3) (fun hq=>?_) a5;have:=a4 hq;cases c<;>simp only[ClD,hld]<;>exact this
theorem d_skip{k:SK}(hw:∀ops o0 rg,Sat (lk E) rg→slO P A f ops o0=some ⟨dst,some (e,w),k⟩→Yy ops o0 rg=some false)(hd:Y8 nt dst=true)(H:Xu P A f nt S (q-1) cls r (Qn dst E) bx h Q):Xu P A f nt S q (c::cls) (⟨dst,some (e,w),k⟩::r) E bx h Q:=by
 intro ops l0 rg hl hs hS hL;obtain⟨o0,r0,rfl,h1,h2⟩:=Y7 hl;obtain⟨e1,e2,e3⟩:=Xn h1;have hw:=hw ops o0 rg hs h1;simp only at e1;have key:∃rg1,Sat (lk (Qn dst E)) rg1∧Yf3 nt o0 ⟨rg,bx⟩=some ⟨rg1,bx⟩:=by
  cases dst with
  |none=>exact⟨rg,hs,by unfold Yf3;rw[←e1]⟩
  |some d=>
   simp only[Y8,decide_eq_true_eq]at hd;exact⟨upd rg d .undef,hs.put d .undef,by unfold Yf3;rw[←e1];simp only[hd,if_true]⟩
 obtain⟨rg1,k1,k3⟩:=key;intro n hn;obtain⟨k2,fr2,h2',n2,lgs,R,q3⟩:=H ops r0 rg1 h2 k1 (fun hq=>hS (by omega)) hL n hn;have hst:Qd (Xg P A k2) P A f nt ops o0 ⟨rg,bx⟩ h n=some (⟨rg1,bx⟩,h,n,([],[])):=by
  unfold Qd;rw[hw];show AM.lift (Yf3 nt o0 ⟨rg,bx⟩) h n=_;rw[k3];rfl
 have hld:Yij P A f ops o0 ⟨rg,bx⟩=none:=by
  unfold Yij;rw[hw];split
  ·rename_i e;cases e
  ·rfl
 exact⟨k2,fr2,h2',n2,(([],[]),n,n)::lgs,.cons hS hL hst (fun _=>by cases c<;>simp[ClD,hld]) R,q3⟩
theorem d_gF{k:SK}(he:lk E e=some (.bool (!w)))(hd:Y8 nt dst=true)(H:Xu P A f nt S (q-1) cls r (Qn dst E) bx h Q):Xu P A f nt S q (c::cls) (⟨dst,some (e,w),k⟩::r) E bx h Q:=
 d_skip (fun ops o0 rg hs h1=>by
  obtain⟨e1,e2,e3⟩:=Xn h1;rcases e3 with ⟨_,e3⟩|⟨j,w',e',g1,g2,g3⟩
  ·cases e3
  ·simp only[Zs,Zp]at g2;obtain⟨rfl,rfl⟩:=g2;unfold Yy;rw[g1];simp only[g3,hs e _ he];simp) hd H
end
end
end Go.Abs
