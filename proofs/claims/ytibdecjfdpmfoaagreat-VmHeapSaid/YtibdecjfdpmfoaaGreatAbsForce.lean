import Derived.Test.YtibdecjfdpmfoaaGreatAbsOwn
namespace Go.Abs
open List hiding cons nil
variable {v:AV} {ops:Array Oper} {R:Env→List Nat→Ya→Prop} {cs:List AV} {S:List Nat} {l r:List SO} {d i n s:Nat} {x:Option SC} {p:Prop} {c:SC} {k:SK} {o:SO} {σ:Type} {h h':Ya} {env:σ→Env} {bxs:σ→List Nat} {m:σ→Nat} {HI:σ→Ya→Prop}
inductive Cl where
 |A|B|C|D|E|F|G
def okCl:Cl→Cl→Bool
 |.D,_|_,.D=>false
 |.C,.E | .E,.C | .G,.E=>true
 |.E,_|_,.E=>false
 |.F,.F | .G,.G | .F,.G | .G,.F=>true
 |.B,_|_,.B|_,.C=>true
 |_,_=>false
def Yr8 (S:List Nat):Cl→Yf1→Prop
 |.A,x=>∀id∈x.1.2,id∉S
 |.B,x=>x.1.2=[]∧(∀id∈x.1.1,id∈S)∧x.2.2=x.2.1
 |.C,x=>x.1=([],[])
 |.D,_=>True
 |.E,x=>∀id∈x.1.1++x.1.2,id∈S
 |.F,x=>x.1.2=[]∧x.2.2=x.2.1
 |.G,x=>x.1.2=[]∧x.2.2=x.2.1∧∀id∈x.1.1,id∉S
section
variable {P:Program} {A:Ann} {f nt:Nat}
def OpsX (P:Program) (A:Ann) (f nt:Nat) (S:List Nat) (cls:List Cl) (ops:Array Oper) (l:List Oper) (fr:Fr) (h:Ya) (Q:Fr→Ya→Prop):Prop:=
 ∀n,Qt h n→∃k fr' h' n' lgs,Xo (Xg P A k) P A f nt ops l fr h n=some (fr',h',n',lgs) ∧
  (∀(j:Nat) (x:Yf1),lgs[j]?=some x→n≤x.2.1∧∃c,cls[j]?=some c∧Yr8 S c x)∧Q fr' h'
theorem clash_ok {S : List Nat} {n : Nat} (hS : ∀ id ∈ S, id < n) {a b : Cl} {x y : Yf1} (hx : Yr8 S a x) (hy : Yr8 S b y) (n1 : n ≤ x.2.1) (ok : okCl a b = true) : Js x y = false := by
 have dj : ∀ {u v : List Nat}, (∀ id ∈ u, id ∉ v) → Yl5 u v = true := fun {u v} h => by
  unfold Yl5;rw [List.all_eq_true];intro id hid;simpa using h id hid
 have key : Yl5 x.1.2 y.1.1 = true ∧ Yl5 x.1.2 y.1.2 = true ∧ Yl5 y.1.2 x.1.1 = true ∧ (∀ id ∈ y.1.1 ++ y.1.2, ¬(x.2.1 ≤ id ∧ id < x.2.2)) := by
  cases a with
  | D => cases b <;> cases ok
  | E =>
   cases b with
   | C =>
    have e1 : y.1.1 = [] := congrArg Prod.fst hy;have e2 : y.1.2 = [] := congrArg Prod.snd hy;refine ⟨by rw [e1]; exact dj fun _ _ => by simp, by rw [e2]; exact dj fun _ _ => by simp, by rw [e2]; rfl, fun id hid => ?_⟩;rw [e1, e2] at hid;cases hid
   | A | B | D | E | F | G => cases ok
  | F =>
   obtain ⟨h1, h3⟩ := hx;refine ⟨by rw [h1]; rfl, by rw [h1]; rfl, ?_, fun id _ => by omega⟩;cases b with
   | B => rw [hy.1]; rfl
   | F => rw [hy.1]; rfl
   | G => rw [hy.1]; rfl
   | C => rw [show y.1.2 = [] from congrArg Prod.snd hy]; rfl
   | A | D | E => cases ok
  | G =>
   obtain ⟨h1, h3, h4⟩ := hx;refine ⟨by rw [h1]; rfl, by rw [h1]; rfl, ?_, fun id _ => by omega⟩;cases b with
   | B => rw [hy.1]; rfl
   | F => rw [hy.1]; rfl
   | G => rw [hy.1]; rfl
   | C => rw [show y.1.2 = [] from congrArg Prod.snd hy]; rfl
   | E => exact dj fun id hi hc => h4 id hc (hy id (List.mem_append_right _ hi))
   | A | D => cases ok
  | B =>
   obtain ⟨h1, h2, h3⟩ := hx;refine ⟨by rw [h1]; rfl, by rw [h1]; rfl, ?_, fun id _ => by omega⟩;cases b with
   | B => rw [hy.1]; rfl
   | A => exact dj fun id hid hc => hy id hid (h2 id hc)
   | C => rw [show y.1.2 = [] from congrArg Prod.snd hy]; rfl
   | F => rw [hy.1]; rfl
   | G => rw [hy.1]; rfl
   | D | E => cases ok
  | A | C =>
   cases b with
   | B =>
    obtain ⟨h1, h2, h3⟩ := hy;have hw : ∀ id ∈ x.1.2, id ∉ S := by
     first
     | exact hx
     | (rw [show x.1.2 = [] from congrArg Prod.snd hx]; exact fun _ h => by cases h)
    refine ⟨dj fun id hid hc => hw id hid (h2 id hc), by rw [h1]; exact dj fun _ _ => by simp, by rw [h1]; rfl, fun id hid => ?_⟩;rw [h1, List.append_nil] at hid;have := hS id (h2 id hid);omega
   | A => cases ok
   | D => cases ok
   | F => cases ok
   | G => cases ok
   | E =>
    first
    | (cases ok; done)
    | (have e1 : x.1.1 = [] := congrArg Prod.fst hx
       have e2 : x.1.2 = [] := congrArg Prod.snd hx;refine ⟨by rw [e2]; rfl, by rw [e2]; rfl, by rw [e1]; exact dj fun _ _ => by simp, fun id hid => ?_⟩;have := hS id (hy id hid);omega)
   | C =>
    have e1 : y.1.1 = [] := congrArg Prod.fst hy;have e2 : y.1.2 = [] := congrArg Prod.snd hy;refine ⟨by rw [e1]; exact dj fun _ _ => by simp, by rw [e2]; exact dj fun _ _ => by simp, by rw [e2]; rfl, fun id hid => ?_⟩;rw [e1, e2] at hid;cases hid
 obtain ⟨k1, k2, k3, k4⟩ := key;unfold Js;rw [k1, k2, k3];simp only [Bool.true_and, Bool.not_eq_false', List.all_eq_true, Bool.not_eq_true', Bool.and_eq_false_iff, decide_eq_false_iff_not];intro id hid;have := k4 id hid;omega
variable {fr:Fr} {h:Ya} {Q:AX→Fr→Ya→Prop}
theorem Yrr{dr:Bool}{cls:List Cl}(hS:∀id∈S,h id≠none)(hps:(Yi4 A f ops).all (fun p=>match cls[p.1]?,cls[p.2]? with|some a,some b=>okCl a b|_,_=>false)=true)
  (H:OpsX P A f nt S cls ops ops.toList fr h (rq Q)):Runs P A f nt (.region i ops dr) fr h Q:=by
 intro n hn;obtain⟨k,fr1,h1,n1,lgs,e,hd,q⟩:=H n hn;have ev:(if dr then Q9 (Xg P A k) P A f nt ops fr else Ybx (Xg P A k) P A f nt ops ops.toList fr) h n=some (fr1,h1,n1,Xk lgs):=by
  cases dr with
  |false=>exact Kj ops _ _ _ _ e
  |true=>
   simp only[if_true];unfold Q9;rw[e];simp only;have hlive:∀id∈S,id<n:=fun id hid=>by
    rcases Nat.lt_or_ge id n with hlt|hge
    ·exact hlt
    ·exact absurd (hn id hge) (hS id hid)
   have hs:∀j,Qq A f ops j=true→(lgs.getD j (([],[]),0,0)).1=([],[])∧(lgs.getD j (([],[]),0,0)).2.1=(lgs.getD j (([],[]),0,0)).2.2:=by
    intro j hj;unfold Qq at hj;split at hj
    ·rename_i o ho;obtain⟨m,hm⟩:=Ye2 ops.toList e j o (by simpa using ho) hj;rw[Zd,hm];exact⟨rfl,rfl⟩
    ·cases hj
   have:calm ops lgs=true:=by
    unfold calm;rw[all_eq_true];intro p hp;by_cases s1:Qq A f ops p.1=true
    ·obtain⟨a1,a2⟩:=hs p.1 s1;simp only[Js,a1,Ygu,Bool.true_and,Bool.not_not,Za,all_eq_true,Bool.not_eq_true',Bool.and_eq_false_iff,decide_eq_false_iff_not];refine⟨by simp[Yl5],fun id _=>?_⟩;rw[a2];omega
    ·by_cases s2:Qq A f ops p.2=true
     ·obtain⟨a1,a2⟩:=hs p.2 s2;simp only[Js,a1];simp[Yl5]
     ·have hpp:=all_eq_true.1 hps p (mem_filter.2 ⟨hp,by simp[s1,s2]⟩);split at hpp
      ·rename_i a b ha hb;rw[Bool.not_eq_true'];have ll:∀j c,cls[j]?=some c→lgs[j]?=none→Yr8 S .C (lgs.getD j (([],[]),0,0)):=fun j c _ hj=>by rw[Zd,hj];rfl
       cases e1:lgs[p.1]? with
       |none=>
        have:lgs.getD p.1 (([],[]),0,0)=(([],[]),0,0):=by rw[Zd,e1];rfl
        rw[this];simp only[Js,Ygu,Bool.true_and];simp[Yl5]
       |some x=>
        obtain⟨g1,c1,g2,g3⟩:=hd p.1 x e1;rw[ha]at g2;cases g2;have ex:lgs.getD p.1 (([],[]),0,0)=x:=by rw[Zd,e1];rfl
        rw[ex];cases e2:lgs[p.2]? with
        |none=>
         have:lgs.getD p.2 (([],[]),0,0)=(([],[]),0,0):=by rw[Zd,e2];rfl
         rw[this];simp only[Js];simp[Yl5]
        |some y=>
         obtain⟨k1,c2,k2,k3⟩:=hd p.2 y e2;rw[hb]at k2;cases k2;have ey:lgs.getD p.2 (([],[]),0,0)=y:=by rw[Zd,e2];rfl
         rw[ey];exact clash_ok hlive g3 k3 g1 hpp
      ·cases hpp
   rw[this];rfl
 refine⟨k,.norm,fr1,h1,n1,((Xk lgs).1++[],(Xk lgs).2++[]),?_,q⟩;simp only[Jr];unfold AM.bind;rw[ev];rfl
end
section
variable {P:Program} {A:Ann} {f nt:Nat} {E:Env} {bx:List Nat} {h:Ya} {Q:AX→Env→List Nat→Ya→Prop} {S:List Nat} {cls:List Cl}
def Xe (P:Program) (A:Ann) (f nt:Nat) (S:List Nat) (cls:List Cl) (l:List SO) (E:Env) (bx:List Nat) (h:Ya) (Q:AX→Env→List Nat→Ya→Prop):Prop:=
 ∀ops l0 rg,Yjt P A f ops l0=some l→Sat (lk E) rg→(∀id∈S,h id≠none)→OpsX P A f nt S cls ops l0 ⟨rg,bx⟩ h (rq (cq Q))
theorem Ybe{ps:List (Nat×Nat)}(S:List Nat)(cls:List Cl)(hS:∀id∈S,h id≠none)(hps:ps.all (fun p=>match cls[p.1]?,cls[p.2]? with|some a,some b=>okCl a b|_,_=>false)=true)(H:Xe P A f nt S cls l E bx h Q):Yb5 P A f nt (.reg ps l) E bx h Q:=by
 intro c0 rg hc hs;obtain⟨i,ops,dr,rfl,h1,rfl⟩:=Ybd hc;cases dr with
 |true=>exact Yrr hS hps (H ops ops.toList rg h1 hs hS)
 |false=>
  intro n hn;obtain⟨k,fr1,h1,n1,lgs,e,hd,q⟩:=H ops ops.toList rg h1 hs hS n hn;refine⟨k,.norm,fr1,h1,n1,((Xk lgs).1++[],(Xk lgs).2++[]),?_,q⟩;simp only[Jr];unfold AM.bind;simp only[Zf,if_false];rw[Kj ops _ _ _ _ e];rfl
theorem Yba(H:Q .norm E bx h):Xe P A f nt S [] [] E bx h Q:=by
 intro ops l0 rg hl hs hS;cases l0 with
 |nil=>exact fun n _=>⟨0,⟨rg,bx⟩,h,n,[],rfl,by simp,E,hs,H⟩
 |cons o r=>
  simp only[Yjt]at hl;split at hl<;>simp at hl
def Jv (S:List Nat) (h h1:Ya):Ya:=fun id=>if S.contains id=true then h id else h1 id
theorem Ya8:Jv S h (Yv S h)=h:=by
 funext id;unfold Jv Yv;split<;>rfl
theorem x_A(H1:Yu P A f nt (Yv S h) 0 [o] E bx (Yv S h) fun x E' bx' h1=>x= .norm∧R E' bx' h1)
  (H2:∀E' bx' h1,R E' bx' h1→(∀id∈S,h1 id=none)→Xe P A f nt S cls l E' bx' (Jv S h h1) Q):Xe P A f nt S (.A::cls) (o::l) E bx h Q:=by
 intro ops l0 rg hl hs hS;obtain⟨o0,r0,rfl,g1,g2⟩:=Y7 hl;intro n hn;have hlt:∀id∈S,id<n:=fun id hid=>by
  rcases Nat.lt_or_ge id n with hlt|hge
  ·exact hlt
  ·exact absurd (hn id hge) (hS id hid)
 have hfr:Qt (Yv S h) n:=fun id hid=>by
  unfold Yv;split
  ·rfl
  ·exact hn id hid
 obtain⟨k1,fr1,h1,n1,lgs,e,_,E',hs',⟨_,hR⟩⟩:=H1 ops [o0] rg (by simp only[Yjt,g1]) hs n hfr;simp only[Xo]at e;split at e
 ·cases e
 ·rename_i fr2 h2 n2 lg e2;simp only[Zs,Zp]at e;obtain⟨rfl,rfl,rfl,_⟩:=e;obtain⟨st,loc⟩:=Qk P A f nt (fun g vs=>Xa P A k1 g vs) ops o0 ⟨rg,bx⟩ _ n _ _ _ _ hfr e2;have hout:∀id,id∈lg.1∨id∈lg.2→id∉S:=by
   intro id hid hc;refine st.live id hid (hlt id hc) ?_;unfold Yv;rw[if_pos (by simpa using hc)]
  have key:=loc h (fun id hid=>by
   have:id∉S:=by
    rcases hid with hid|hid|hid
    ·exact hout id (.inl hid)
    ·exact hout id (.inr hid)
    ·intro hc;have:=hlt id hc;omega
   unfold Yv;rw[if_neg (by simpa using this)])
  have hov:Yda h h2 n n2 lg.2=Jv S h h2:=by
   funext id;unfold Yda Jv;by_cases hc:id∈S
   ·have c1:id∉lg.2:=fun hid=>hout id (.inr hid) hc;have:=hlt id hc;rw[if_neg (by intro hx;rcases hx with hx|hx;exact c1 hx;omega),if_pos (by simpa using hc)]
   ·rw[if_neg (c:=S.contains id=true) (by simpa using hc)];split
    ·rfl
    ·rename_i hx;simp only[not_or]at hx;rw[st.same id hx.1 hx.2];unfold Yv;rw[if_neg (by simpa using hc)]
  rw[hov]at key;have st2:=(Qk P A f nt (fun g vs=>Xa P A k1 g vs) ops o0 ⟨rg,bx⟩ _ n _ _ _ _ hn key).1;have hS2:∀id∈S,Jv S h h2 id≠none:=fun id hid=>by
   unfold Jv;rw[if_pos (by simpa using hid)];exact hS id hid
  have hS3:∀id∈S,h2 id=none:=fun id hid=>by
   rw[st.same id (fun hx=>hout id (.inr hx) hid) (by have:=hlt id hid;omega)];unfold Yv;rw[if_pos (by simpa using hid)]
  obtain⟨k2,fr3,h3,n3,lgs3,e3,hd,qq⟩:=H2 E' fr2.boxes h2 hR hS3 ops r0 fr2.regs g2 hs' hS2 n2 st2.fresh;refine⟨max k1 k2,fr3,h3,n3,(lg,n,n2)::lgs3,?_,?_,qq⟩
  ·unfold Xo;rw[Yb0 (fun g vs=>Qx (Nat.le_max_left k1 k2) g vs) ops o0 ⟨rg,bx⟩ _ _ _ key];simp only;rw[Ycq (fun g vs=>Qx (Nat.le_max_right k1 k2) g vs) ops r0 _ _ _ _ e3]
  ·intro j x hx;cases j with
   |zero=>
    simp only[Zc,Zs]at hx;subst hx;exact⟨Zl _,.A,rfl,fun id hid=>hout id (.inr hid)⟩
   |succ j=>
    obtain⟨a,c,b1,b2⟩:=hd j x (by simpa using hx);exact⟨Nat.le_trans st2.le a,c,by simpa using b1,b2⟩
theorem x_D(H1:Yu P A f nt h 0 [o] E bx h fun x E' bx' h1=>x= .norm∧R E' bx' h1)
  (H2:∀E' bx' h1,R E' bx' h1→(∀id∈S,h1 id≠none)∧Xe P A f nt S cls l E' bx' h1 Q):Xe P A f nt S (.D::cls) (o::l) E bx h Q:=by
 intro ops l0 rg hl hs hS;obtain⟨o0,r0,rfl,g1,g2⟩:=Y7 hl;intro n hn;obtain⟨k1,fr1,h1,n1,lgs,e,_,E',hs',⟨_,hR⟩⟩:=H1 ops [o0] rg (by simp only[Yjt,g1]) hs n hn;simp only[Xo]at e;split at e
 ·cases e
 ·rename_i fr2 h2 n2 lg e2;simp only[Zs,Zp]at e;obtain⟨rfl,rfl,rfl,_⟩:=e;have st:=(Qk P A f nt (fun g vs=>Xa P A k1 g vs) ops o0 ⟨rg,bx⟩ _ n _ _ _ _ hn e2).1;obtain⟨hS2,H3⟩:=H2 E' fr2.boxes h2 hR;obtain⟨k2,fr3,h3,n3,lgs3,e3,hd,qq⟩:=H3 ops r0 fr2.regs g2 hs' hS2 n2 st.fresh;refine⟨max k1 k2,fr3,h3,n3,(lg,n,n2)::lgs3,?_,?_,qq⟩
  ·unfold Xo;rw[Yb0 (fun g vs=>Qx (Nat.le_max_left k1 k2) g vs) ops o0 ⟨rg,bx⟩ _ _ _ e2];simp only;rw[Ycq (fun g vs=>Qx (Nat.le_max_right k1 k2) g vs) ops r0 _ _ _ _ e3]
  ·intro j x hx;cases j with
   |zero=>
    simp only[Zc,Zs]at hx;subst hx;exact⟨Zl _,.D,rfl,trivial⟩
   |succ j=>
    obtain⟨a,c,b1,b2⟩:=hd j x (by simpa using hx);exact⟨Nat.le_trans st.le a,c,by simpa using b1,b2⟩
theorem x_v(hlt:(decide (d<nt))=true)(hv:sv (lk E) k=some (p,v))(hp:p)(H:Xe P A f nt S cls r ((d,v)::E) bx h Q):Xe P A f nt S (.A::cls) (⟨some d,none,k⟩::r) E bx h Q:=
 x_A (R:=fun E' bx' h1=>E'=(d,v)::E∧bx'=bx∧h1=Yv S h) (Yq hlt hv hp (X8 ⟨rfl,rfl,rfl,rfl⟩)) (by
  rintro _ _ _ ⟨rfl,rfl,rfl⟩ _;rw[Ya8];exact H)
theorem OSl.kill{g gg:Ya}(H:OSl gg s v cs n h)(hx:Ext g gg)(hS:∀id∈S,gg id≠none∧g id=none):OSl g s v cs n (Yv S h):=by
 refine⟨(hx.trans H.ext).kill fun i hi=>(hS i hi).2,?_⟩;rcases H.own with h0|⟨i,e,h1,h2,h3⟩
 ·exact .inl h0
 ·have hi:i∉S:=fun hi=>(hS i hi).1 h1;refine .inr ⟨i,e,?_,?_,h3⟩
  ·cases hh:g i with
   |none=>rfl
   |some o=>rw[hx i o hh]at h1;cases h1
  ·unfold Yv;rw[if_neg (by simpa using hi)];exact h2
theorem OSl.join{g gg h1:Ya}(H:OSl g s v cs n h1)(hx:Ext gg h)(h0:∀id∈S,h1 id=none)(hg:∀id,id∉S→gg id=g id):OSl gg s v cs n (Jv S h h1):=by
 refine⟨fun id o e=>?_,?_⟩
 ·unfold Jv;split
  ·exact hx id o e
  ·rename_i hs;rw[hg id (by simpa using hs)]at e;exact H.ext id o e
 ·rcases H.own with h0|⟨i,e,g1,g2,g3⟩
  ·exact .inl h0
  ·have hi:i∉S:=fun hi=>by rw[h0 i hi]at g2;cases g2
   refine .inr ⟨i,e,by rw[hg i hi];exact g1,?_,g3⟩;unfold Jv;rw[if_neg (by simpa using hi)];exact g2
theorem OSl.up{g:Ya}(H:OSl g s v cs n h)(hx:Ext h h'):OSl g s v cs n h':=by
 refine⟨H.ext.trans hx,?_⟩;rcases H.own with h0|⟨i,e,g1,g2,g3⟩
 ·exact .inl h0
 ·exact .inr ⟨i,e,g1,hx _ _ g2,g3⟩
theorem Ygk{o:AObj}(hi:i∉S):Jv S h (upd (Yv S h) i (some o))=upd h i (some o):=by
 funext id;unfold Jv upd Yv;by_cases e:id=i
 ·subst e;rw[if_neg (by simpa using hi)];simp
 ·simp only[if_neg e];split<;>rfl
theorem Ky(hi:i∉S):Yv S h i=h i:=by
 unfold Yv;rw[if_neg (by simpa using hi)]
theorem Ext.killed(hx:Ext h h'):Ext (Yv S h) (Yv S h'):=by
 intro id o e;unfold Yv at e ⊢;split at e
 ·cases e
 ·rename_i hs;rw[if_neg hs];exact hx id o e
theorem x_ld{x:SX}{id off:Nat}(hlt:(decide (d<nt))=true)(hx:ev (lk E) x=some (.ptr id off))(hid:h id=some (.cells cs))(hm:id∈S)(hv:cs[off]?=some v)
  (H:Xe P A f nt S cls r ((d,v)::E) bx h Q):Xe P A f nt S (.B::cls) (⟨some d,none,.ld x none⟩::r) E bx h Q:=by
 intro ops l0 rg hl hs hS;obtain⟨o0,r0,rfl,h1,h2⟩:=Y7 hl;obtain⟨e1,e2,e3⟩:=Xn h1;obtain⟨t,x0,hop,q1,q2,hro⟩:=Ybz e2;have hg:o0.guard=none:=by
  rcases e3 with ⟨e,_⟩|⟨_,_,_,_,e,_⟩
  ·exact e
  ·cases e
 have hsl:Yp cs off 1=some [v]:=by
  have hlt:=(Zi.1 hv).1;unfold Yp;rw[if_pos (by omega)]
  congr 1
  rw[drop_eq_getElem_cons hlt,(Zi.1 hv).2];rfl
 rcases Xz q2 with ⟨m,e,_,_⟩|⟨_,g1,m,g2⟩
 ·cases e
 intro n hn;have hpl:Yh4 A f nt o0 v ⟨rg,bx⟩=some ⟨upd rg d v,bx⟩:=Qw e1.symm (by simpa using hlt) (fun hb=>by rw[hop]at hb;simp[Ycs]at hb);obtain⟨k,fr3,h3,n3,lgs3,e4,hd,qq⟩:=H ops r0 _ h2 (hs.put d v) hS n hn;have hst:Qd (Xg P A k) P A f nt ops o0 ⟨rg,bx⟩ h n=some (⟨upd rg d v,bx⟩,h,n,([id],[])):=by
  unfold Qd;have hw:Yy ops o0 rg=some true:=by unfold Yy;rw[hg]
  simp only[hw];unfold opV;rw[hop];simp only[hro,Zf,if_false,opM,Yg hs q1 hx,Kq,Xt,g1,g2];simp only[AM.bind,AM.lift,AM.pure,AM.get,hid,hsl,X9,Zf,if_false];rw[hpl];rfl
 refine⟨k,fr3,h3,n3,(([id],[]),n,n)::lgs3,?_,?_,qq⟩
 ·unfold Xo;rw[hst];simp only;rw[e4]
 ·intro j y hy;cases j with
  |zero=>
   simp only[Zc,Zs]at hy;subst hy;exact⟨Zl _,.B,rfl,rfl,by simpa using hm,rfl⟩
  |succ j=>
   obtain⟨a,c,b1,b2⟩:=hd j y (by simpa using hy);exact⟨a,c,by simpa using b1,b2⟩
theorem x_ldO{x:SX}{id off:Nat}(hlt:(decide (d<nt))=true)(hx:ev (lk E) x=some (.ptr id off))(hid:h id=some (.cells cs))(hm:id∉S)(hv:cs[off]?=some v)
  (H:Xe P A f nt S cls r ((d,v)::E) bx h Q):Xe P A f nt S (.G::cls) (⟨some d,none,.ld x none⟩::r) E bx h Q:=by
 intro ops l0 rg hl hs hS;obtain⟨o0,r0,rfl,h1,h2⟩:=Y7 hl;obtain⟨e1,e2,e3⟩:=Xn h1;obtain⟨t,x0,hop,q1,q2,hro⟩:=Ybz e2;have hg:o0.guard=none:=by
  rcases e3 with ⟨e,_⟩|⟨_,_,_,_,e,_⟩
  ·exact e
  ·cases e
 have hsl:Yp cs off 1=some [v]:=by
  have hlt:=(Zi.1 hv).1;unfold Yp;rw[if_pos (by omega)]
  congr 1
  rw[drop_eq_getElem_cons hlt,(Zi.1 hv).2];rfl
 rcases Xz q2 with ⟨m,e,_,_⟩|⟨_,g1,m,g2⟩
 ·cases e
 intro n hn;have hpl:Yh4 A f nt o0 v ⟨rg,bx⟩=some ⟨upd rg d v,bx⟩:=Qw e1.symm (by simpa using hlt) (fun hb=>by rw[hop]at hb;simp[Ycs]at hb);obtain⟨k,fr3,h3,n3,lgs3,e4,hd,qq⟩:=H ops r0 _ h2 (hs.put d v) hS n hn;have hst:Qd (Xg P A k) P A f nt ops o0 ⟨rg,bx⟩ h n=some (⟨upd rg d v,bx⟩,h,n,([id],[])):=by
  unfold Qd;have hw:Yy ops o0 rg=some true:=by unfold Yy;rw[hg]
  simp only[hw];unfold opV;rw[hop];simp only[hro,Zf,if_false,opM,Yg hs q1 hx,Kq,Xt,g1,g2];simp only[AM.bind,AM.lift,AM.pure,AM.get,hid,hsl,X9,Zf,if_false];rw[hpl];rfl
 refine⟨k,fr3,h3,n3,(([id],[]),n,n)::lgs3,?_,?_,qq⟩
 ·unfold Xo;rw[hst];simp only;rw[e4]
 ·intro j y hy;cases j with
  |zero=>
   simp only[Zc,Zs]at hy;subst hy;exact⟨Zl _,.G,rfl,rfl,rfl,by simpa using hm⟩
  |succ j=>
   obtain⟨a,c,b1,b2⟩:=hd j y (by simpa using hy);exact⟨a,c,by simpa using b1,b2⟩
theorem Ym7{o:Oper}{r:List Oper}{fr:Fr}{c:Cl}{R:Fr→Ya→Prop}(hw:Yy ops o fr.regs=some true)
  (hv:∀n,Qt h n→∃k v h' n' lg fr1,opV (Xg P A k) P A f o fr.regs h n=some (v,h',n',lg)∧Yr8 S c (lg,n,n')∧Yh4 A f nt o v fr=some fr1∧OpsX P A f nt S cls ops r fr1 h' R):OpsX P A f nt S (c::cls) ops (o::r) fr h R:=by
 intro n hn;obtain⟨k1,v,h1,n1,lg,fr1,e1,hc,hp,H⟩:=hv n hn;have st:=(Ycp P A f (fun g vs=>Xa P A k1 g vs) o fr.regs h n _ _ _ _ hn e1).1;obtain⟨k2,fr2,h2,n2,lgs,e2,hd,qq⟩:=H n1 st.fresh;have hs:Qd (Xg P A (max k1 k2)) P A f nt ops o fr h n=some (fr1,h1,n1,(lg.1++[],lg.2++[])):=by
  unfold Qd;rw[hw];simp only;unfold AM.bind;rw[le_op (Nat.le_max_left k1 k2) o fr.regs _ _ _ e1];simp only;rw[hp];simp[AM.lift,AM.pure]
 refine⟨max k1 k2,fr2,h2,n2,((lg.1++[],lg.2++[]),n,n1)::lgs,?_,?_,qq⟩
 ·unfold Xo;rw[hs];simp only;rw[Ycq (fun g vs=>Qx (Nat.le_max_right k1 k2) g vs) ops r _ _ _ _ e2]
 ·intro j x hx;cases j with
  |zero=>
   simp only[Zc,Zs]at hx;subst hx;rw[append_nil,append_nil];exact⟨Zl _,c,rfl,hc⟩
  |succ j=>
   obtain⟨a,c,b1,b2⟩:=hd j x (by simpa using hx);exact⟨Nat.le_trans st.le a,c,by simpa using b1,b2⟩
theorem x_vC(hk:Yfg k=false)(hlt:(decide (d<nt))=true)(hv:sv (lk E) k=some (p,v))(hp:p)(H:Xe P A f nt S cls r ((d,v)::E) bx h Q):Xe P A f nt S (.C::cls) (⟨some d,none,k⟩::r) E bx h Q:=by
 intro ops l0 rg hl hs hS;obtain⟨o0,r0,rfl,h1,h2⟩:=Y7 hl;obtain⟨e1,e2,e3⟩:=Xn h1;have hg:o0.guard=none:=by
  rcases e3 with ⟨e,_⟩|⟨_,_,_,_,e,_⟩
  ·exact e
  ·cases e
 have hsl:=Jp e2 hk;refine Ym7 (by unfold Yy;rw[hg]) fun n hn=>?_;obtain⟨k1,n',rd,hrd,e⟩:=sv_rd (h0:=fun _=>none) (q:=1) hsl hs hv hp (h:=h) n hn;have:rd=[]:=eq_nil_iff_forall_not_mem.2 fun id hid=>hrd (by omega) id hid rfl;subst this;refine⟨k1,v,h,n',_,_,e,rfl,Qw e1.symm (by simpa using hlt) (fun hb=>?_),H ops r0 _ h2 (hs.put d v) hS⟩;exact Yph hsl hv hb
theorem callN_log{k g:Nat}{vs:List AV}{n':Nat}{lg:Log}(e:Xg P A k g vs h n=some (v,h',n',lg)):∀id,id∈lg.1∨id∈lg.2→id<n:=by
 intro id hid;cases k with
 |zero=>cases e
 |succ k=>
  unfold Xg at e;split at e
  ·unfold Yoa at e;split at e
   ·cases e
   ·split at e
    ·simp only[Zs,Zp]at e;rw[←e.2.2.2]at hid;simp at hid
    ·cases e
  ·unfold Ycb at e;split at e
   ·cases e
   ·simp only[Zs]at e;unfold Ybn at e;simp only at e;split at e
    ·simp only[Zp]at e;rw[←e.2.2.2]at hid;simp only[mem_filter,decide_eq_true_eq,not_mem_nil,or_false]at hid;exact hid.2
    ·simp only[Zp]at e;rw[←e.2.2.2]at hid;simp only[mem_filter,decide_eq_true_eq]at hid;rcases hid with hid|hid<;>exact hid.2
def plus (h h1:Ya):Ya:=fun id=>match h id with
 |some o=>some o
 |none=>h1 id
theorem Yll{h1:Ya}:Ext h (plus h h1):=fun id o e=>by unfold plus;rw[e]
theorem x_callC{x:SX}{args:List SX}{g:Nat}{first cap vs:List AV}{Q1:AV→Ya→Prop}(hlt:(decide (d<nt))=true)(hx:ev (lk E) x=some (.fn g first cap))(ha:evS (lk E) args=some vs)
  (hc:HCallC P A g (first++vs++cap) (fun _=>none) Q1)(H:∀v h1,Q1 v h1→(∀id,h1 id≠none→h id=none)→Xe P A f nt S cls r ((d,v)::E) bx (plus h h1) Q):Xe P A f nt S (.C::cls) (⟨some d,none,.call x args⟩::r) E bx h Q:=by
 intro ops l0 rg hl hs hS;obtain⟨o0,r0,rfl,h1,h2⟩:=Y7 hl;obtain⟨e1,e2,e3⟩:=Xn h1;have hg:o0.guard=none:=by
  rcases e3 with ⟨e,_⟩|⟨_,_,_,_,e,_⟩
  ·exact e
  ·cases e
 obtain⟨x0,a0,ts,ho,hx0,ha0⟩:=Yma (Jp e2 rfl);refine Ym7 (by unfold Yy;rw[hg]) fun n hn=>?_;obtain⟨k,v,h1,n',lg,e,q1⟩:=hc n (fun _ _=>rfl);obtain⟨st,loc⟩:=Xa P A k g (first++vs++cap) _ n _ _ _ _ (fun _ _=>rfl) e;have hlog:lg=([],[]):=by
  have key:∀id,id∈lg.1∨id∈lg.2→False:=by
   intro id hid;rcases Nat.lt_or_ge id n with hl|hl
   ·exact st.live id hid hl rfl
   ·have:=callN_log e id hid;omega
  obtain⟨a,b⟩:=lg;have ea:a=[]:=eq_nil_iff_forall_not_mem.2 fun id hid=>key id (.inl hid);have eb:b=[]:=eq_nil_iff_forall_not_mem.2 fun id hid=>key id (.inr hid);rw[ea,eb]
 subst hlog;have hnew:∀id,h1 id≠none→n≤id∧id<n':=by
  intro id hid;refine Decidable.byContradiction fun hc=>hid ?_;exact st.same id (by simp) hc
 have key:=loc h (fun id hid=>by
  rcases hid with hid|hid|hid
  ·cases hid
  ·cases hid
  ·exact hn id hid.1)
 have hov:Yda h h1 n n' []=plus h h1:=by
  funext id;unfold Yda plus;by_cases hc:n≤id∧id<n'
  ·rw[if_pos (.inr hc),hn id hc.1]
  ·rw[if_neg (by simpa using hc)];cases hh:h id with
   |some o=>rfl
   |none=>
    cases hh1:h1 id with
    |none=>rfl
    |some o=>exact absurd (hnew id (by rw[hh1];simp)) hc
 rw[hov]at key;refine⟨k,v,plus h h1,n',([],[]),_,?_,(show _=_ from rfl),Qw e1.symm (by simpa using hlt) (fun hb=>by rw[ho]at hb;simp[Ycs]at hb),H v h1 q1 (fun id hid=>hn id (hnew id hid).1) ops r0 _ h2 (hs.put d v) fun id hid=>?_⟩
 ·unfold opV;rw[ho];simp only[Yg hs hx0 hx,J0 hs ha0 ha];unfold AM.bind;simp only[AM.lift,AM.pure];rw[key];rfl
 ·have:=hS id hid;cases hh:h id with
  |none=>exact absurd hh this
  |some o=>rw[Yll id o hh];simp
end
section
variable {P:Program} {A:Ann} {f nt:Nat} {E:Env} {bx:List Nat} {h:Ya} {Q:AX→Env→List Nat→Ya→Prop}
def slqB {σ:Type} (env:σ→Env) (bxs:σ→List Nat) (H:σ→Ya→Prop) (m:σ→Nat) (s:σ) (Q:AX→Env→List Nat→Ya→Prop):AX→Env→List Nat→Ya→Prop:=fun x E bx h=>match x with
 |.norm=>∃s',m s'<m s∧Sub (env s') E∧bx=bxs s'∧H s' h
 |e=>Q e E bx h
theorem Kg{b:SC}(env:σ→Env)(bxs:σ→List Nat)(HI:σ→Ya→Prop)(m:σ→Nat)(s0:σ)(h0:Sub (env s0) E)(hb:bx=bxs s0)(hH:HI s0 h)(H:∀s h,HI s h→Yb5 P A f nt b (env s) (bxs s) h (slqB env bxs HI m s Q)):Yb5 P A f nt (.loop b) E bx h Q:=by
 intro c0 rg hc hs;obtain⟨b0,rfl,h1⟩:=Ybd hc;refine go_loop (fun s fr h=>Sat (lk (env s)) fr.regs∧fr.boxes=bxs s∧HI s h) m s0 ⟨fun t v e=>hs t v (h0 t v e),hb,hH⟩ ?_;rintro s ⟨rg',bx'⟩ h' ⟨hs',hbx,hI⟩;simp only at hs' hbx;subst hbx;refine(H s h' hI b0 rg' h1 hs').mono ?_;rintro x fr h2 ⟨E2,hs2,hq⟩;cases x with
 |norm=>
  obtain⟨s',hm,hsub,hbx,hH'⟩:=hq;exact⟨s',hm,fun t v e=>hs2 t v (hsub t v e),hbx,hH'⟩
 |exit i=>exact⟨E2,hs2,hq⟩
 |ret=>exact⟨E2,hs2,hq⟩
theorem Jl{s:σ}(H:Q (.exit i) E bx h):slqB env bxs HI m s Q (.exit i) E bx h:=H
theorem Yaw{s:σ}(H:Q .ret E bx h):slqB env bxs HI m s Q .ret E bx h:=H
def jqB {σ:Type} (env:σ→Env) (bxs:σ→List Nat) (HI:σ→Ya→Prop) (Q:AX→Env→List Nat→Ya→Prop):AX→Env→List Nat→Ya→Prop:=fun x E bx h=>match x with
 |.norm=>∃s,Sub (env s) E∧bx=bxs s∧HI s h
 |e=>Q e E bx h
theorem Yg9{a b:SC}(env:σ→Env)(bxs:σ→List Nat)(HI:σ→Ya→Prop)(H1:Yb5 P A f nt a E bx h (jqB env bxs HI Q))(H2:∀s h',HI s h'→Yb5 P A f nt b (env s) (bxs s) h' Q):Yb5 P A f nt (.seq a b) E bx h Q:=by
 apply K5;intro c0 rg hc hs;refine(H1 c0 rg hc hs).mono ?_;rintro x ⟨rg',bx'⟩ h' ⟨E',hs',q⟩;cases x with
 |norm=>
  obtain⟨s,w1,w2,w3⟩:=q;refine⟨E',hs',?_⟩;show Yb5 P A f nt b E' bx' h' Q;have w2:bx'=bxs s:=w2;subst w2;exact Ypj w1 (H2 s h' w3)
 |exit i=>exact⟨E',hs',q⟩
 |ret=>exact⟨E',hs',q⟩
theorem Ydh(H:Q .ret E bx h):jqB env bxs HI Q .ret E bx h:=H
end
section
variable {α:Type}
def fN (n:Nat) (K:Nat→α):α:=match n with
 |0=>K 0
 |1=>K 1
 |2=>K 2
 |3=>K 3
 |4=>K 4
 |5=>K 5
 |6=>K 6
 |7=>K 7
 |8=>K 8
 |9=>K 9
 |10=>K 10
 |11=>K 11
 |12=>K 12
 |13=>K 13
 |14=>K 14
 |15=>K 15
 |16=>K 16
 |24=>K 24
 |32=>K 32
 |40=>K 40
 |48=>K 48
 |56=>K 56
 |64=>K 64
 |72=>K 72
 |80=>K 80
 |88=>K 88
 |96=>K 96
 |104=>K 104
 |112=>K 112
 |120=>K 120
 |128=>K 128
 |136=>K 136
 |144=>K 144
 |152=>K 152
 |160=>K 160
 |168=>K 168
 |176=>K 176
 |184=>K 184
 |192=>K 192
 |200=>K 200
 |208=>K 208
 |216=>K 216
 |224=>K 224
 |232=>K 232
 |240=>K 240
 |248=>K 248
 |256=>K 256
 |n=>K n
def fB (b:Bool) (K:Bool→α):α:=match b with
 |true=>K true
 |false=>K false
def fV (v:AV) (K:AV→α):α:=match v with
 |.bool b=>K (.bool b)
 |.int k n=>K (.int k n)
 |.nil k=>K (.nil k)
 |v=>K v
def fVs:List AV→(List AV→α)→α
 |[],K=>K []
 |v::l,K=>fV v fun v=>fVs l fun l=>K (v::l)
def fX (x:SX) (K:SX→α):α:=match x with
 |.r t=>K (.r t)
 |.c v=>fV v fun v=>K (.c v)
def fXs:List SX→(List SX→α)→α
 |[],K=>K []
 |x::l,K=>fX x fun x=>fXs l fun l=>K (x::l)
def fXO (x:Option SX) (K:Option SX→α):α:=match x with
 |none=>K none
 |some x=>fX x fun x=>K (some x)
def fNO (n:Option Nat) (K:Option Nat→α):α:=match n with
 |none=>K none
 |some n=>fN n fun n=>K (some n)
def fPs:List (Nat×Nat×SX)→(List (Nat×Nat×SX)→α)→α
 |[],K=>K []
 |(a,b,x)::l,K=>fN a fun a=>fN b fun b=>fX x fun x=>fPs l fun l=>K ((a,b,x)::l)
def fNN:List (Nat×Nat)→(List (Nat×Nat)→α)→α
 |[],K=>K []
 |(a,b)::l,K=>fN a fun a=>fN b fun b=>fNN l fun l=>K ((a,b)::l)
def fG (g:Option (Nat×Bool)) (K:Option (Nat×Bool)→α):α:=match g with
 |none=>K none
 |some (a,b)=>fB b fun b=>K (some (a,b))
def fK (k:SK) (K:SK→α):α:=match k with
 |.mv x=>fX x fun x=>K (.mv x)
 |.pick c a b=>fX c fun c=>fX a fun a=>fX b fun b=>K (.pick c a b)
 |.bin op x y=>fX x fun x=>fX y fun y=>K (.bin op x y)
 |.beq n x y=>fB n fun n=>fX x fun x=>fX y fun y=>K (.beq n x y)
 |.isnil n k x=>fB n fun n=>fX x fun x=>K (.isnil n k x)
 |.un op x=>fX x fun x=>K (.un op x)
 |.fa x o=>fX x fun x=>fN o fun o=>K (.fa x o)
 |.ia x i n s=>fX x fun x=>fX i fun i=>fNO n fun n=>fN s fun s=>K (.ia x i n s)
 |.ld x n=>fX x fun x=>fNO n fun n=>K (.ld x n)
 |.fld x o n=>fX x fun x=>fN o fun o=>fNO n fun n=>K (.fld x o n)
 |.ext x i=>fX x fun x=>fN i fun i=>K (.ext x i)
 |.len x n=>fX x fun x=>fNO n fun n=>K (.len x n)
 |.lens x=>fX x fun x=>K (.lens x)
 |.cv k x=>fX x fun x=>K (.cv k x)
 |.ss x=>fX x fun x=>K (.ss x)
 |.chk x=>fX x fun x=>K (.chk x)
 |.bld z ps=>fVs z fun z=>fPs ps fun ps=>K (.bld z ps)
 |.mkf f a b=>fXs a fun a=>fXs b fun b=>K (.mkf f a b)
 |.slt x lo hi s=>fX x fun x=>fXO lo fun lo=>fXO hi fun hi=>fN s fun s=>K (.slt x lo hi s)
 |.sls x lo hi=>fX x fun x=>fXO lo fun lo=>fXO hi fun hi=>K (.sls x lo hi)
 |.b2s x=>fX x fun x=>K (.b2s x)
 |.box x=>fX x fun x=>K (.box x)
 |.bsl z s len ps=>fVs z fun z=>fN s fun s=>fPs ps fun ps=>K (.bsl z s len ps)
 |.call x l=>fX x fun x=>fXs l fun l=>K (.call x l)
 |.mnx m l=>fB m fun m=>fXs l fun l=>K (.mnx m l)
 |.raw=>K .raw
 |.hbox e x=>fB e fun e=>fX x fun x=>K (.hbox e x)
 |.alc e z=>fB e fun e=>fVs z fun z=>K (.alc e z)
 |.st x v n=>fX x fun x=>fX v fun v=>fN n fun n=>K (.st x v n)
 |.app s b x y=>fN s fun s=>fN b fun b=>fX x fun x=>fX y fun y=>K (.app s b x y)
 |.apps s b x y=>fN s fun s=>fN b fun b=>fX x fun x=>fX y fun y=>K (.apps s b x y)
 |.appT s b x y=>fN s fun s=>fN b fun b=>fX x fun x=>fX y fun y=>K (.appT s b x y)
 |.appsT s b x y=>fN s fun s=>fN b fun b=>fX x fun x=>fX y fun y=>K (.appsT s b x y)
 |.appz s b z x y=>fN s fun s=>fN b fun b=>fVs z fun z=>fX x fun x=>fX y fun y=>K (.appz s b z x y)
 |.sla x n lo hi s=>fX x fun x=>fXO lo fun lo=>fXO hi fun hi=>fN s fun s=>K (.sla x n lo hi s)
 |.cvs x=>fX x fun x=>K (.cvs x)
 |.ixs x i=>fX x fun x=>fX i fun i=>K (.ixs x i)
 |.ixa x i n s g=>fX x fun x=>fX i fun i=>fN n fun n=>fN s fun s=>fNO g fun g=>K (.ixa x i n s g)
 |.cpy s x y=>fN s fun s=>fX x fun x=>fX y fun y=>K (.cpy s x y)
 |.hbs z s len ps=>fVs z fun z=>fN s fun s=>fPs ps fun ps=>K (.hbs z s len ps)
 |.mks r z s b n c=>fB r fun r=>fVs z fun z=>fN s fun s=>fN b fun b=>fX n fun n=>fX c fun c=>K (.mks r z s b n c)
 |.s2b r x=>fB r fun r=>fX x fun x=>K (.s2b r x)
 |.eqs n l x y=>fB n fun n=>fNN l fun l=>fX x fun x=>fX y fun y=>K (.eqs n l x y)
 |.clr s z x=>fN s fun s=>fVs z fun z=>fX x fun x=>K (.clr s z x)
 |k=>K k
def fD (d:Option Nat) (K:Option Nat→α):α:=match d with
 |none=>K none
 |some d=>K (some d)
def fOs:List SO→(List SO→α)→α
 |[],K=>K []
 |⟨d,g,k⟩::l,K=>fD d fun d=>fG g fun g=>fK k fun k=>fOs l fun l=>K (⟨d,g,k⟩::l)
def fC:SC→(SC→α)→α
 |.skip,K=>K .skip
 |.reg ps l,K=>fNN ps fun ps=>fOs l fun l=>K (.reg ps l)
 |.seq a b,K=>fC a fun a=>fC b fun b=>K (.seq a b)
 |.cond x a b,K=>fX x fun x=>fC a fun a=>fC b fun b=>K (.cond x a b)
 |.block i b,K=>fC b fun b=>K (.block i b)
 |.loop b,K=>fC b fun b=>K (.loop b)
 |.exit i,K=>K (.exit i)
 |.ret,K=>K .ret
variable {β:Type}
theorem Yrv(n:Nat)(K:Nat→β):fN n K=K n:=by unfold fN;split<;>rfl
theorem fB_eq(n:Bool)(K:Bool→β):fB n K=K n:=by cases n<;>rfl
theorem fV_eq(n:AV)(K:AV→β):fV n K=K n:=by cases n<;>rfl
theorem fVs_eq:∀(l:List AV) (K:List AV→β),fVs l K=K l
 |[],_=>rfl
 |v::l,K=>by unfold fVs;rw[fV_eq,fVs_eq l]
theorem fX_eq(x:SX)(K:SX→β):fX x K=K x:=by cases x<;>simp[fX,fV_eq]
theorem fXs_eq:∀(l:List SX) (K:List SX→β),fXs l K=K l
 |[],_=>rfl
 |v::l,K=>by unfold fXs;rw[fX_eq,fXs_eq l]
theorem fXO_eq(x:Option SX)(K:Option SX→β):fXO x K=K x:=by cases x<;>simp[fXO,fX_eq]
theorem fNO_eq(x:Option Nat)(K:Option Nat→β):fNO x K=K x:=by cases x<;>simp[fNO,Yrv]
theorem fPs_eq:∀(l:List (Nat×Nat×SX)) (K:List (Nat×Nat×SX)→β),fPs l K=K l
 |[],_=>rfl
 |(a,b,x)::l,K=>by unfold fPs;rw[Yrv,Yrv,fX_eq,fPs_eq l]
theorem fNN_eq:∀(l:List (Nat×Nat)) (K:List (Nat×Nat)→β),fNN l K=K l
 |[],_=>rfl
 |(a,b)::l,K=>by unfold fNN;rw[Yrv,Yrv,fNN_eq l]
theorem fG_eq(g:Option (Nat×Bool))(K:Option (Nat×Bool)→β):fG g K=K g:=by
 rcases g with _|⟨a,b⟩
 ·rfl
 ·simp[fG,fB_eq]
theorem fK_eq(k:SK)(K:SK→β):fK k K=K k:=by
 cases k<;>simp only[fK,Yrv,fB_eq,fVs_eq,fX_eq,fXs_eq,fXO_eq,fNO_eq,fPs_eq,fNN_eq]
theorem fD_eq(d:Option Nat)(K:Option Nat→β):fD d K=K d:=by cases d<;>rfl
theorem fOs_eq:∀(l:List SO) (K:List SO→β),fOs l K=K l
 |[],_=>rfl
 |⟨d,g,k⟩::l,K=>by unfold fOs;rw[fD_eq,fG_eq,fK_eq,fOs_eq l]
theorem Yo3:∀(c:SC) (K:SC→β),fC c K=K c
 |.skip,_=>rfl
 |.reg ps l,K=>by unfold fC;rw[fNN_eq,fOs_eq]
 |.seq a b,K=>by unfold fC;rw[Yo3 a,Yo3 b]
 |.cond x a b,K=>by unfold fC;rw[fX_eq,Yo3 a,Yo3 b]
 |.block i b,K=>by unfold fC;rw[Yo3 b]
 |.loop b,K=>by unfold fC;rw[Yo3 b]
 |.exit i,_=>rfl
 |.ret,_=>rfl
end
def fOut:Option SC→Option SC
 |some c=>fC c some
 |none=>none
theorem frc(h:fOut x=some c):x=some c:=by
 cases x with
 |none=>cases h
 |some d=>
  exact(Yo3 d some).symm.trans h
theorem Zw(h:fOut x=some c:=by with_unfolding_all rfl):x=some c:=frc h
end Go.Abs
