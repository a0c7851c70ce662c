import Derived.Test.YtibdecjfdpmfoaaGreatAbsTac
namespace Go.Abs
open List hiding cons nil
variable {p v:AV} {Q:AV→Ya→Prop} {E:Env} {fn:Func} {k:IntKind} {args cs vs:List AV} {bx:List Nat} {r:List SO} {a b d n o q s z:Nat} {sc:SC} {i x:SX} {α:Type} {h h' h1 hb:Ya} {R:List AV→α→Prop} {l:List α} {g:α→AV}
def Ext (h h':Ya):Prop:=∀id o,h id=some o→h' id=some o
theorem Ext.refl:Ext h h:=fun _ _ e=>e
theorem Ext.trans{h2 h3:Ya}(a:Ext h1 h2)(b:Ext h2 h3):Ext h1 h3:=fun id o e=>b id o (a id o e)
theorem Ext.upd{i:Nat}{o:AObj}(hi:h i=none):Ext h (upd h i (some o)):=fun id o' e=>by
 rw[Ys (fun hid=>by rw[hid,hi]at e;cases e)];exact e
inductive VSl (h:Ya) (s:Nat):AV→List AV→Nat→Prop where
 |nil:VSl h s (.nil .sl) [] 0
 |tsl (cs:List AV) (n:Nat) (hl:cs.length=n*s):VSl h s (.tsl cs n) cs n
 |sl (id off n:Nat) (os cs:List AV) (hi:h id=some (.cells os)) (hc:Yp os off (n*s)=some cs):VSl h s (.sl id off n s) cs n
inductive VPtr (h:Ya):AV→List AV→Prop where
 |t (os cs:List AV) (off:Nat) (hc:Yp os off cs.length=some cs):VPtr h (.tptr os off) cs
 |p (id off:Nat) (os cs:List AV) (hi:h id=some (.cells os)) (hc:Yp os off cs.length=some cs):VPtr h (.ptr id off) cs
theorem VSl.mono(hx:Ext h h')(H:VSl h s v cs n):VSl h' s v cs n:=by
 cases H with
 |nil=>exact .nil
 |tsl _ _ hl=>exact .tsl _ _ hl
 |sl id off _ os _ hi hc=>exact .sl id off _ os _ (hx _ _ hi) hc
theorem VPtr.mono(hx:Ext h h')(H:VPtr h v cs):VPtr h' v cs:=by
 cases H with
 |t os _ off hc=>exact .t os _ off hc
 |p id off os _ hi hc=>exact .p id off os _ (hx _ _ hi) hc
theorem Yfs{r:List α}(h:Yp l o n=some r):r.length=n∧o+n≤l.length∧r=(l.drop o).take n:=by
 unfold Yp at h;split at h
 ·rename_i hl;simp only[Zs]at h;subst h;refine⟨?_,hl,rfl⟩;rw[length_take,length_drop];omega
 ·cases h
theorem Ybc(h:o+n≤l.length):Yp l o n=some ((l.drop o).take n):=by
 unfold Yp;rw[if_pos h]
theorem Ja{r t:List α}(h:Yp l o n=some r)(g:Yp r a b=some t):Yp l (o+a) b=some t:=by
 obtain⟨h1,h2,rfl⟩:=Yfs h;obtain⟨g1,g2,rfl⟩:=Yfs g;rw[Ybc (by omega)]
 congr 1
 rw[drop_take,drop_drop,take_take,Nat.min_eq_left (by omega)]
theorem VSl.len(H:VSl h s v cs n):cs.length=n*s:=by
 cases H with
 |nil=>simp
 |tsl _ _ hl=>exact hl
 |sl id off _ os _ hi hc=>exact(Yfs hc).1
theorem VSl.one(H:VSl h s v cs n):v.one=true:=by
 cases H<;>rfl
theorem VSl.of_T(H:TSl s v cs n):VSl h s v cs n:=by
 cases H with
 |nil=>exact .nil
 |tsl _ _ hl=>exact .tsl _ _ hl
theorem HasSl.ext(H:HasSl hb s v cs n h):Ext hb h:=by
 cases H with
 |nil=>exact .refl
 |sl i _ _ hi hl=>exact .upd hi
theorem VPtr.part{t:List AV}(H:VPtr h p cs)(g:Yp cs a t.length=some t):∃p',Yr4 p a=some p'∧VPtr h p' t:=by
 cases H with
 |t os _ off hc=>exact⟨_,rfl,.t os t (off+a) (Ja hc g)⟩
 |p id off os _ hi hc=>exact⟨_,rfl,.p id (off+a) os t hi (Ja hc g)⟩
section
variable {P:Program} {A:Ann} {f nt:Nat} {E:Env} {bx:List Nat} {h:Ya} {Q:AX→Env→List Nat→Ya→Prop} {h0:Ya} {q:Nat}
theorem Yec(hlt:(decide (d<nt))=true)(hx:ev (lk E) x=some v)(hv:VSl h s v cs n)(H:Yu P A f nt h0 (q-1) r ((d,.int .i64 n)::E) bx h Q) :
  Yu P A f nt h0 q (⟨some d,none,.len x none⟩::r) E bx h Q:=by
 cases hv with
 |nil=>exact Yq (p:=True) hlt (by simp only[sv,hx];rfl) trivial H
 |tsl _ _ hl=>exact Yq (p:=True) hlt (by simp only[sv,hx]) trivial H
 |sl _ _ _ _ _ _ _=>exact Yq (p:=True) hlt (by simp only[sv,hx]) trivial H
theorem o_iaV{z:Int}(hlt:(decide (d<nt))=true)(hx:ev (lk E) x=some v)(hi:ev (lk E) i=some (.int k z))(hv:VSl h s v cs n)(hz:0≤z)(hz':z<n)
  (H:∀p,VPtr h p ((cs.drop (z.toNat*s)).take s)→Yu P A f nt h0 (q-1) r ((d,p)::E) bx h Q):Yu P A f nt h0 q (⟨some d,none,.ia x i none s⟩::r) E bx h Q:=by
 have hl:=hv.len;have hb:z.toNat*s+s≤n*s:=by
  have:(z.toNat+1)*s≤n*s:=Zr s (by omega);rw[Nat.add_mul]at this;omega
 have hsl:Yp cs (z.toNat*s) s=some ((cs.drop (z.toNat*s)).take s):=Ybc (by omega);have hln:=(Yfs hsl).1;cases hv with
 |nil=>omega
 |tsl _ _ _=>exact Yq (p:=0≤z∧z<n) (v:= .tptr cs (z.toNat*s)) hlt (by simp only[sv,hx,hi]) ⟨hz,hz'⟩ (H _ (.t _ _ _ (by rw[hln];exact hsl)))
 |sl id off _ os _ hid hc=>exact Yq (p:=s=s∧0≤z∧z<n) (v:= .ptr id (off+z.toNat*s)) hlt (by simp only[sv,hx,hi]) ⟨rfl,hz,hz'⟩ (H _ (.p _ _ os _ hid (by rw[hln];exact Ja hc hsl)))
theorem Yjx(t:List AV)(hlt:(decide (d<nt))=true)(hx:ev (lk E) x=some p)(hp:VPtr h p cs)(ht:Yp cs o t.length=some t)
  (H:∀p,VPtr h p t→Yu P A f nt h0 (q-1) r ((d,p)::E) bx h Q):Yu P A f nt h0 q (⟨some d,none,.fa x o⟩::r) E bx h Q:=by
 obtain⟨p',e,hp'⟩:=hp.part ht;cases hp with
 |t os _ off hc=>
  simp only[Yr4,Zs]at e;subst e;exact Yq (p:=True) hlt (by simp only[sv,hx]) trivial (H _ hp')
 |p id off os _ hid hc=>
  simp only[Yr4,Zs]at e;subst e;exact Yq (p:=True) hlt (by simp only[sv,hx]) trivial (H _ hp')
theorem Yiy{r:List α}{v:α}(h:Yp l o (v::r).length=some (v::r)):l[o]?=some v:=by
 obtain⟨_,h2,h3⟩:=Yfs h;have:((l.drop o).take (v::r).length)[0]?=some v:=by rw[←h3];rfl
 rw[getElem?_take,getElem?_drop]at this;simpa using this
theorem Ydb(hlt:(decide (d<nt))=true)(hx:ev (lk E) x=some p)(hp:VPtr h p (v::cs))(hq:0<q→Ext h h0)
  (H:Yu P A f nt h0 (q-1) r ((d,v)::E) bx h Q):Yu P A f nt h0 q (⟨some d,none,.ld x none⟩::r) E bx h Q:=by
 cases hp with
 |t os _ off hc=>exact Yq (p:=True) hlt (by simp only[sv,hx,Yiy hc]) trivial H
 |p id off os _ hid hc=>exact Y2 hlt hx hid (fun hlt=>by rw[hq hlt _ _ hid];simp) (Yiy hc) H
theorem Ycm{m:Nat}(hlt:(decide (d<nt))=true)(hx:ev (lk E) x=some p)(hp:VPtr h p cs)(hm:cs.length=m)(hq:0<q→Ext h h0)
  (H:Yu P A f nt h0 (q-1) r ((d,.agg cs)::E) bx h Q):Yu P A f nt h0 q (⟨some d,none,.ld x (some m)⟩::r) E bx h Q:=by
 subst hm;cases hp with
 |t os _ off hc=>exact Yq (p:=True) hlt (by simp only[sv,hx,hc]) trivial H
 |p id off os _ hid hc=>exact X3 hlt hx hid (fun hlt=>by rw[hq hlt _ _ hid];simp) hc H
theorem o_sltV{lo hi:Option SX}{l m:Int}(hlt:(decide (d<nt))=true)(hx:ev (lk E) x=some v)(hv:VSl h s v cs n)(hlo:evI (lk E) 0 lo=some l)(hhi:evI (lk E) n hi=some m)(h1:0≤l)(h2:l≤m)(h3:m≤n)
  (H:∀w,VSl h s w ((cs.take (m.toNat*s)).drop (l.toNat*s)) (m.toNat-l.toNat)→Yu P A f nt h0 (q-1) r ((d,w)::E) bx h Q):Yu P A f nt h0 q (⟨some d,none,.slt x lo hi s⟩::r) E bx h Q:=by
 have hl:=hv.len;have hb:l.toNat*s≤m.toNat*s:=Zr s (by omega);have hb2:m.toNat*s≤n*s:=Zr s (by omega);have hlen:((cs.take (m.toNat*s)).drop (l.toNat*s)).length=(m.toNat-l.toNat)*s:=by
  rw[length_drop,length_take,hl,Nat.min_eq_left hb2,Nat.sub_mul]
 cases hv with
 |nil=>
  refine Yq (p:=l=0∧m=0) hlt (by simp only[sv,hx,hlo];rw[show((0:Nat):Int)=0 from rfl]at hhi;rw[hhi]) ⟨by omega,by omega⟩ (H _ ?_);have e1:l.toNat=0:=by omega
  have e2:m.toNat=0:=by omega
  rw[e1,e2];simpa using VSl.nil
 |tsl _ _ _=>exact Yq (p:=0≤l∧l≤m∧m≤n) hlt (by simp only[sv,hx,hlo,hhi]) ⟨h1,h2,h3⟩ (H _ (.tsl _ _ hlen))
 |sl id off _ os _ hid hc=>
  refine Yq (p:=s=s∧0≤l∧l≤m∧m≤n) (v:= .sl id (off+l.toNat*s) (m.toNat-l.toNat) s) hlt (by simp only[sv,hx,hlo,hhi]) ⟨rfl,h1,h2,h3⟩ (H _ (.sl _ _ _ os _ hid ?_));have e:Yp cs (l.toNat*s) ((m.toNat-l.toNat)*s)=some ((cs.take (m.toNat*s)).drop (l.toNat*s)):=by
   have hsub:(m.toNat-l.toNat)*s=m.toNat*s-l.toNat*s:=Nat.sub_mul _ _ _;rw[Ybc (by rw[hsub];omega),hsub,drop_take]
  exact Ja hc e
theorem Yiv(hv:VSl h s v cs n):Yaf s h v=some (cs,n):=by
 cases hv with
 |nil=>rfl
 |tsl _ _ hl=>simp only[Yaf,Yw hl]
 |sl id off _ os _ hid hc=>simp only[Yaf,if_true,hid,hc]
end
inductive Chunks {α:Type} (R:List AV→α→Prop) (s:Nat):List AV→List α→Prop where
 |nil:Chunks R s [] []
 |cons {c cs:List AV} {a:α} {l:List α} (hl:c.length=s) (ha:R c a) (H:Chunks R s cs l):Chunks R s (c++cs) (a::l)
theorem Chunks.len(H:Chunks R s cs l):cs.length=l.length*s:=by
 induction H with
 |nil=>simp
 |cons hl ha H ih=>rw[length_append,hl,ih,length_cons,Nat.add_mul];omega
theorem Chunks.imp{R':List AV→α→Prop}(hR:∀c a,R c a→R' c a)(H:Chunks R s cs l):Chunks R' s cs l:=by
 induction H with
 |nil=>exact .nil
 |cons hl ha H ih=>exact .cons hl (hR _ _ ha) ih
theorem Chunks.append{ds:List AV}{m:List α}(H:Chunks R s cs l)(G:Chunks R s ds m):Chunks R s (cs++ds) (l++m):=by
 induction H with
 |nil=>exact G
 |cons hl ha H ih=>rw[append_assoc];exact .cons hl ha ih
theorem Chunks.one{c:List AV}{a:α}(hl:c.length=s)(ha:R c a):Chunks R s c [a]:=by
 have:=Chunks.cons hl ha (.nil (R:=R) (s:=s));rwa[append_nil]at this
theorem Chunks.get(H:Chunks R s cs l):∀{i:Nat} (hi:i<l.length),R ((cs.drop (i*s)).take s) l[i]∧((cs.drop (i*s)).take s).length=s:=by
 induction H with
 |nil=>intro i hi;simp at hi
 |@cons c cs a l hl ha H ih=>
  intro i hi;cases i with
  |zero=>
   simp only[Nat.zero_mul,drop_zero,getElem_cons_zero];rw[←hl,take_left];exact⟨ha,rfl⟩
  |succ i=>
   have e:(c++cs).drop ((i+1)*s)=cs.drop (i*s):=by
    rw[drop_append,Nat.add_mul,hl];rw[drop_of_length_le (by omega),nil_append]
    congr 1
    omega
   rw[e];exact ih (by simpa using hi)
theorem Chunks.take(H:Chunks R s cs l):∀(n:Nat),Chunks R s (cs.take (n*s)) (l.take n):=by
 induction H with
 |nil=>intro n;simpa using Chunks.nil
 |@cons c cs a l hl ha H ih=>
  intro n;cases n with
  |zero=>simpa using Chunks.nil
  |succ n=>
   have e:(c++cs).take ((n+1)*s)=c++cs.take (n*s):=by
    rw[take_append,Nat.add_mul,hl,Zk (by omega)]
    congr 2
    omega
   rw[e];exact .cons hl ha (ih n)
theorem Chunks.drop(H:Chunks R s cs l):∀(n:Nat),Chunks R s (cs.drop (n*s)) (l.drop n):=by
 induction H with
 |nil=>intro n;simpa using Chunks.nil
 |@cons c cs a l hl ha H ih=>
  intro n;cases n with
  |zero=>simpa using Chunks.cons hl ha H
  |succ n=>
   have e:(c++cs).drop ((n+1)*s)=cs.drop (n*s):=by
    rw[drop_append,Nat.add_mul,hl,drop_of_length_le (by omega),nil_append]
    congr 1
    omega
   rw[e];exact ih n
theorem Chunks.map:∀{cs:List AV} {l:List α},Chunks (fun c a=>c=[g a]) 1 cs l→cs=l.map g
 |_,_,.nil=>rfl
 |_,_,.cons hl ha H=>by rw[ha,Chunks.map H];rfl
theorem Chunks.of_map:∀{l:List α},Chunks (fun c a=>c=[g a]) 1 (l.map g) l
 |[]=> .nil
 |a::_l=> .cons (c:=[g a]) rfl rfl Chunks.of_map
def Sl {α:Type} (R:Ya→List AV→α→Prop) (s:Nat) (h:Ya) (v:AV) (l:List α):Prop:=∃cs,VSl h s v cs l.length∧Chunks (R h) s cs l
def Yqy {α:Type} (R:Ya→List AV→α→Prop):Prop:=∀h h' c a,Ext h h'→R h c a→R h' c a
theorem Sl.mono{R:Ya→List AV→α→Prop}(hR:Yqy R)(hx:Ext h h')(H:Sl R s h v l):Sl R s h' v l:=by
 obtain⟨cs,h1,h2⟩:=H;exact⟨cs,h1.mono hx,h2.imp fun c a=>hR _ _ c a hx⟩
theorem Sl.one{R:Ya→List AV→α→Prop}(H:Sl R s h v l):v.one=true:=by
 obtain⟨cs,h1,_⟩:=H;exact h1.one
theorem Sl.nil{R:Ya→List AV→α→Prop}:Sl R s h (.nil .sl) []:=⟨[],.nil,.nil⟩
def RN (k:IntKind):Ya→List AV→Int→Prop:=fun _ c a=>c=[.int k a]
def RB:Ya→List AV→Bool→Prop:=fun _ c a=>c=[.bool a]
theorem RN.mono:Yqy (RN k):=fun _ _ _ _ _ h=>h
theorem RB.mono:Yqy RB:=fun _ _ _ _ _ h=>h
abbrev ub (b:UInt8):AV:= .int .u8 b.toNat
def ubs (l:List UInt8):List AV:=l.map ub
section
variable {P:Program} {A:Ann} {f nt:Nat} {E:Env} {bx:List Nat} {h:Ya} {Q:AX→Env→List Nat→Ya→Prop} {h0:Ya} {q:Nat} {α:Type} {R:Ya→List AV→α→Prop} {l:List α}
theorem Y0(hlt:(decide (d<nt))=true)(hx:ev (lk E) x=some v)(hv:Sl R s h v l)(H:Yu P A f nt h0 (q-1) r ((d,.int .i64 l.length)::E) bx h Q) :
  Yu P A f nt h0 q (⟨some d,none,.len x none⟩::r) E bx h Q:=by
 obtain⟨cs,h1,_⟩:=hv;exact Yec hlt hx h1 H
theorem Qg(hlt:(decide (d<nt))=true)(hx:ev (lk E) x=some v)(hi:ev (lk E) i=some (.int k (z:Int)))(hv:Sl R s h v l)(hz:z<l.length)
  (H:∀p c,VPtr h p c→R h c l[z]→c.length=s→Yu P A f nt h0 (q-1) r ((d,p)::E) bx h Q):Yu P A f nt h0 q (⟨some d,none,.ia x i none s⟩::r) E bx h Q:=by
 obtain⟨cs,h1,h2⟩:=hv;obtain⟨g1,g2⟩:=h2.get hz;refine o_iaV hlt hx hi h1 (by omega) (by omega) fun p hp=>?_;rw[Zn]at hp;exact H p _ hp g1 g2
theorem o_sltS{lo hi:Option SX}(hlt:(decide (d<nt))=true)(hx:ev (lk E) x=some v)(hv:Sl R s h v l)(hlo:evI (lk E) 0 lo=some (a:Int))(hhi:evI (lk E) l.length hi=some (b:Int))(h2:a≤b)(h3:b≤l.length)
  (H:∀w,Sl R s h w ((l.take b).drop a)→Yu P A f nt h0 (q-1) r ((d,w)::E) bx h Q):Yu P A f nt h0 q (⟨some d,none,.slt x lo hi s⟩::r) E bx h Q:=by
 obtain⟨cs,g1,g2⟩:=hv;refine o_sltV hlt hx g1 hlo hhi (by omega) (by omega) (by omega) fun w hw=>H w ⟨_,?_,(g2.take b).drop a⟩;simp only[Zn]at hw;have:((l.take b).drop a).length=b-a:=by simp;omega
 rw[this];exact hw
end
section
variable {P:Program} {A:Ann} {f nt:Nat}
def hretx (_P:Program) (A:Ann) (f:Nat) (l:List ResultVar) (h:Ya) (Q:AV→Ya→Prop):AX→Env→List Nat→Ya→Prop:=fun x E bx h1=>match x with
 |.exit _=>False
 |_=>∃vs,Yb8 E l=some vs∧A.fz f=false∧Q (Yx vs) (Yv bx h1)∧((Yx vs).tree=true→Q (Yx vs) h∨∃id,h id≠none∧h1 id≠h id)
theorem Yz(hp:(A.pure f&&AV.trees args)=false)(hf:P.funcs[f]?=some fn)(hb:fn.body.bind (slC P A f)=some sc)(hn:(fn.name == "runtime.NumGoroutine" || decide (fn.ntmps<args.length))=false)
  (run:Yb5 P A f fn.ntmps sc (Yhl 0 args) [] h (hretx P A f fn.results.toList h Q)):HCallC P A f args h Q:=by
 obtain⟨c,hcb,hsc⟩:=Option.bind_eq_some_iff.1 hb;intro n hh;have hsat:Sat (lk (Yhl 0 args)) (Qi args):=Ych args 0 _ (fun j a hj=>by simp[Qi,hj]);obtain⟨k,x,fr',h1,n1,lg,e,E',hs',q⟩:=run c (Qi args) hsc hsat n hh;have hcl:∀g vs,Local (Xg P A k g vs):=fun g vs=>Xa P A k g vs;have st:=(Qo P A f fn.ntmps hcl k c _ h n _ h1 n1 lg hh e).1;obtain⟨own,hle⟩:=Yig hcl k c hh e;have hx:(∀i,x≠ .exit i)∧∃vs,Yb8 E' fn.results.toList=some vs∧A.fz f=false∧Q (Yx vs) (Yv fr'.boxes h1)∧((Yx vs).tree=true→Q (Yx vs) h∨∃id,h id≠none∧h1 id≠h id):=by
  cases x with
  |exit i=>exact q.elim
  |norm=>exact⟨by simp,q⟩
  |ret=>exact⟨by simp,q⟩
 obtain⟨hx1,vs,hvs,hfz,hq,htr⟩:=hx;have hbody:body (Xg P A k) P A k f args h n=some ((Yx vs,fr'.boxes),h1,n1,(lg.1++[],lg.2++[])):=by
  unfold body;simp only[hf,hcb,hn,Zf,if_false];refine Xq (l2:=([],[])) e ?_;cases x with
  |exit i=>exact absurd rfl (hx1 i)
  |norm=>simp only[Yha hs' hvs,hfz,Zf,if_false,Yj];rfl
  |ret=>simp only[Yha hs' hvs,hfz,Zf,if_false,Yj];rfl
 have hfree:Q2 n n1 h1 fr'.boxes=Yv fr'.boxes h1:=by
  funext id;unfold Q2 Yv;by_cases hb:fr'.boxes.contains id=true
  ·have:=own id (by simpa using hb);simp only[not_mem_nil,false_or]at this;rw[if_pos ⟨this.1,this.2,hb⟩,if_pos hb]
  ·rw[if_neg (fun h=>hb h.2.2),if_neg hb]
 by_cases hfin:(A.still f&&(Yx vs).tree&&((lg.2++[]).filter (· < n)).isEmpty)=true
 ·refine⟨k+1,Yx vs,h,n1,((lg.1++[]).filter (· < n),[]),?_,?_⟩
  ·unfold Xg;rw[hp];simp only[Zf,if_false];unfold Ycb;rw[hbody];simp only[Ybn];rw[if_pos hfin]
  ·simp only[Za]at hfin;rcases htr hfin.1.2 with hQ|⟨id,hid,hne⟩
   ·exact hQ
   ·exfalso;apply hne;have hlt:id<n:=by
     rcases Nat.lt_or_ge id n with hlt|hge
     ·exact hlt
     ·exact absurd (hh id hge) hid
    refine st.same id ?_ (by omega);intro hm;have:id∈(lg.2++[]).filter (· < n):=mem_filter.2 ⟨by simpa using hm,by simpa using hlt⟩;rw[isEmpty_iff.1 hfin.2]at this;cases this
 ·refine⟨k+1,Yx vs,Yv fr'.boxes h1,n1,((lg.1++[]).filter (· < n),(lg.2++[]).filter (· < n)),?_,hq⟩;unfold Xg;rw[hp];simp only[Zf,if_false];unfold Ycb;rw[hbody];simp only[Ybn];rw[if_neg hfin,hfree]
def hretR (P:Program) (A:Ann) (f:Nat) (l:List ResultVar) (h:Ya) (Q:AV→Ya→Prop):AX→Env→List Nat→Ya→Prop:=fun x E bx h1=>match x with
 |.exit _=>False
 |_=>∃vs,ResR P E h1 l vs∧A.fz f=false∧Q (Yx vs) (Yv bx h1)∧((Yx vs).tree=true→Q (Yx vs) h∨∃id,h id≠none∧h1 id≠h id)
theorem Ynt{l:List ResultVar}(e1:ResR P E h1 l vs)(e2:A.fz f=false)(e3:Q (Yx vs) (Yv bx h1))(e4:(Yx vs).tree=true→Q (Yx vs) h∨∃id,h id≠none∧h1 id≠h id):hretR P A f l h Q .ret E bx h1:=⟨vs,e1,e2,e3,e4⟩
theorem Yf7(hp:(A.pure f&&AV.trees args)=false)(hf:P.funcs[f]?=some fn)(hb:fn.body.bind (slC P A f)=some sc)(hn:(fn.name == "runtime.NumGoroutine" || decide (fn.ntmps<args.length))=false)
  (run:Yb5 P A f fn.ntmps sc (Yhl 0 args) [] h (hretR P A f fn.results.toList h Q)):HCallC P A f args h Q:=by
 obtain⟨c,hcb,hsc⟩:=Option.bind_eq_some_iff.1 hb;intro n hh;have hsat:Sat (lk (Yhl 0 args)) (Qi args):=Ych args 0 _ (fun j a hj=>by simp[Qi,hj]);obtain⟨k,x,fr',h1,n1,lg,e,E',hs',q⟩:=run c (Qi args) hsc hsat n hh;have hcl:∀g vs,Local (Xg P A k g vs):=fun g vs=>Xa P A k g vs;have st:=(Qo P A f fn.ntmps hcl k c _ h n _ h1 n1 lg hh e).1;obtain⟨own,hle⟩:=Yig hcl k c hh e;have hx:(∀i,x≠ .exit i)∧∃vs,ResR P E' h1 fn.results.toList vs∧A.fz f=false∧Q (Yx vs) (Yv fr'.boxes h1)∧((Yx vs).tree=true→Q (Yx vs) h∨∃id,h id≠none∧h1 id≠h id):=by
  cases x with
  |exit i=>exact q.elim
  |norm=>exact⟨by simp,q⟩
  |ret=>exact⟨by simp,q⟩
 obtain⟨hx1,vs,hvs,hfz,hq,htr⟩:=hx;obtain⟨rd,er⟩:=hvs.run hs' n1;have hbody:body (Xg P A k) P A k f args h n=some ((Yx vs,fr'.boxes),h1,n1,(lg.1++(rd++[]),lg.2++[])):=by
  unfold body;simp only[hf,hcb,hn,Zf,if_false];have e2:=Xq (f:=fun vs=>AM.bind (if A.fz f then Xy 1000 (Yx vs) else AM.pure (Yx vs)) fun v=>AM.pure (v,fr'.boxes)) (l2:=([],[])) (b:=(Yx vs,fr'.boxes)) (h2:=h1) (n2:=n1) er (by simp only[hfz,Zf,if_false,Yj];rfl);refine(Xq (l2:=(rd++[],[])) (b:=(Yx vs,fr'.boxes)) (h2:=h1) (n2:=n1) e ?_);cases x with
  |exit i=>exact absurd rfl (hx1 i)
  |norm=>exact e2
  |ret=>exact e2
 have hfree:Q2 n n1 h1 fr'.boxes=Yv fr'.boxes h1:=by
  funext id;unfold Q2 Yv;by_cases hb:fr'.boxes.contains id=true
  ·have:=own id (by simpa using hb);simp only[not_mem_nil,false_or]at this;rw[if_pos ⟨this.1,this.2,hb⟩,if_pos hb]
  ·rw[if_neg (fun h=>hb h.2.2),if_neg hb]
 by_cases hfin:(A.still f&&(Yx vs).tree&&((lg.2++[]).filter (· < n)).isEmpty)=true
 ·refine⟨k+1,Yx vs,h,n1,((lg.1++(rd++[])).filter (· < n),[]),?_,?_⟩
  ·unfold Xg;rw[hp];simp only[Zf,if_false];unfold Ycb;rw[hbody];simp only[Ybn];rw[if_pos hfin]
  ·simp only[Za]at hfin;rcases htr hfin.1.2 with hQ|⟨id,hid,hne⟩
   ·exact hQ
   ·exfalso;apply hne;have hlt:id<n:=by
     rcases Nat.lt_or_ge id n with hlt|hge
     ·exact hlt
     ·exact absurd (hh id hge) hid
    refine st.same id ?_ (by omega);intro hm;have:id∈(lg.2++[]).filter (· < n):=mem_filter.2 ⟨by simpa using hm,by simpa using hlt⟩;rw[isEmpty_iff.1 hfin.2]at this;cases this
 ·refine⟨k+1,Yx vs,Yv fr'.boxes h1,n1,((lg.1++(rd++[])).filter (· < n),(lg.2++[]).filter (· < n)),?_,hq⟩;unfold Xg;rw[hp];simp only[Zf,if_false];unfold Ycb;rw[hbody];simp only[Ybn];rw[if_neg hfin,hfree]
theorem Ext.kill(hx:Ext h h1)(hb:∀i∈bx,h i=none):Ext h (Yv bx h1):=by
 intro id o e;unfold Yv;rw[if_neg]
 ·exact hx id o e
 ·intro hc;rw[hb id (by simpa using hc)]at e;cases e
def Looks (P:Program) (A:Ann) (g:Nat) (vs:List AV) (h:Ya) (v:AV):Prop:=HCallC P A g vs h fun w h'=>w=v∧Ext h h'
theorem Looks.go{g:Nat}(H:Looks P A g vs h v):HCallC P A g vs h fun w h'=>w=v∧Ext h h':=H
theorem HCallC.mono{g:Nat}{Q':AV→Ya→Prop}(H:HCallC P A g vs h Q)(hq:∀v h',Q v h'→Q' v h'):HCallC P A g vs h Q':=by
 intro n hn;obtain⟨k,v,h',n',lg,e,q⟩:=H n hn;exact⟨k,v,h',n',lg,e,hq _ _ q⟩
def lret (_P:Program) (A:Ann) (f:Nat) (l:List ResultVar) (h:Ya) (v:AV):AX→Env→List Nat→Ya→Prop:=fun x E bx h1=>match x with
 |.exit _=>False
 |_=>∃vs,Yb8 E l=some vs∧A.fz f=false∧Yx vs=v∧Ext h h1∧∀i∈bx,h i=none
theorem Y3{l:List ResultVar}(e1:Yb8 E l=some vs)(e2:A.fz f=false)(e3:Yx vs=v)(e4:Ext h h1)(e5:∀i∈bx,h i=none):lret P A f l h v .ret E bx h1:=⟨vs,e1,e2,e3,e4,e5⟩
theorem X7{l:List ResultVar}(e1:Yb8 E l=some vs)(e2:A.fz f=false)(e3:Q (Yx vs) (Yv bx h1))(e4:(Yx vs).tree=true→Q (Yx vs) h∨∃id,h id≠none∧h1 id≠h id):hretx P A f l h Q .ret E bx h1:=⟨vs,e1,e2,e3,e4⟩
theorem Xx{l:List ResultVar}(e1:Yb8 E l=some vs)(e2:A.fz f=false)(e3:Q (Yx vs) (Yv bx h1))(e4:(Yx vs).tree=true→Q (Yx vs) h∨∃id,h id≠none∧h1 id≠h id):hretx P A f l h Q .norm E bx h1:=⟨vs,e1,e2,e3,e4⟩
theorem Yo(hp:(A.pure f&&AV.trees args)=false)(hf:P.funcs[f]?=some fn)(hb:fn.body.bind (slC P A f)=some sc)(hn:(fn.name == "runtime.NumGoroutine" || decide (fn.ntmps<args.length))=false)
  (run:Yb5 P A f fn.ntmps sc (Yhl 0 args) [] h (lret P A f fn.results.toList h v)):Looks P A f args h v:=by
 refine Yz hp hf hb hn ?_;intro c0 rg hc hs;refine(run c0 rg hc hs).mono ?_;rintro x fr h' ⟨E,hs,H⟩;refine⟨E,hs,?_⟩;cases x with
 |exit i=>exact H
 |norm=>
  obtain⟨vs,h1,h2,h3,h4,h5⟩:=H;exact⟨vs,h1,h2,⟨h3,h4.kill h5⟩,fun _=> .inl ⟨h3,.refl⟩⟩
 |ret=>
  obtain⟨vs,h1,h2,h3,h4,h5⟩:=H;exact⟨vs,h1,h2,⟨h3,h4.kill h5⟩,fun _=> .inl ⟨h3,.refl⟩⟩
end
def Ya0 (h:Ya) (v:AV):Ya:=match v with
 |.sl i _ _ _=>upd h i none
 |_=>h
structure OSl (hb:Ya) (s:Nat) (v:AV) (cs:List AV) (n:Nat) (h:Ya):Prop where
 ext:Ext hb h
 own:(v= .nil .sl∧cs=[]∧n=0)∨∃i,v= .sl i 0 n s∧hb i=none∧h i=some (.cells cs)∧cs.length=n*s
theorem OSl.view(H:OSl hb s v cs n h):VSl h s v cs n:=by
 rcases H.own with ⟨rfl,rfl,rfl⟩|⟨i,rfl,_,h2,h3⟩
 ·exact .nil
 ·exact .sl i 0 n cs cs h2 (Yw h3)
theorem OSl.nil(hx:Ext hb h):OSl hb s (.nil .sl) [] 0 h:=⟨hx,.inl ⟨rfl,rfl,rfl⟩⟩
theorem OSl.has(H:OSl hb s v cs n h):HasSl (Ya0 h v) s v cs n h∧Ext hb (Ya0 h v):=by
 rcases H.own with ⟨rfl,rfl,rfl⟩|⟨i,rfl,h1,h2,h3⟩
 ·exact⟨.nil,H.ext⟩
 ·constructor
  ·have e:h=upd (upd h i none) i (some (.cells cs)):=by
    rw[Xm];funext j;unfold upd;split
    ·rename_i hj;rw[hj,h2]
    ·rfl
   have:=HasSl.sl (hb:=upd h i none) (s:=s) i cs n upd_same h3;rw[←e]at this;exact this
  ·intro id o e;show upd h i none id=_;rw[Ys (fun hid=>by rw[hid,h1]at e;cases e)];exact H.ext id o e
theorem OSl.of_has{hb':Ya}(H:HasSl hb' s v cs n h)(hx:Ext hb hb'):OSl hb s v cs n h:=by
 cases H with
 |nil=>exact .nil hx
 |sl i _ _ hi hl=>
  refine⟨hx.trans (.upd hi),.inr ⟨i,rfl,?_,upd_same,hl⟩⟩;cases e:hb i with
  |none=>rfl
  |some o=>rw[hx _ _ e]at hi;cases hi
theorem OSl.weaken{hb':Ya}(H:OSl hb' s v cs n h)(hx:Ext hb hb'):OSl hb s v cs n h:=by
 refine⟨hx.trans H.ext,?_⟩;rcases H.own with h0|⟨i,h1,h2,h3,h4⟩
 ·exact .inl h0
 ·refine .inr ⟨i,h1,?_,h3,h4⟩;cases e:hb i with
  |none=>rfl
  |some o=>rw[hx _ _ e]at h2;cases h2
section
variable {P:Program} {A:Ann} {f nt:Nat} {E:Env} {bx:List Nat} {h:Ya} {Q:AX→Env→List Nat→Ya→Prop} {h0:Ya}
theorem Yfm{y:SX}{vx vy:AV}{old new:List AV}{l:Nat}(hq:q=0)(hlt:(decide (d<nt))=true)(hx:ev (lk E) x=some vx)(hy:ev (lk E) y=some vy)(H0:OSl hb s vx old l h)(hsrc:Yaf s h vy=some (new,n))
  (hlen:new.length=n*s)(hone:new.all AV.one=true)(hbd:(l+n)*(b+1)≤2^44)
  (H:∀v h1,OSl hb s v (old++new) (l+n) h1→Ext (Ya0 h vx) h1→Yu P A f nt h0 0 r ((d,v)::E) bx h1 Q):Yu P A f nt h0 q (⟨some d,none,.app s b x y⟩::r) E bx h Q:=by
 subst hq;obtain⟨g1,g2⟩:=H0.has;exact o_app hlt hx hy g1 hsrc hlen hone hbd (.inl rfl) (fun h=>by omega) fun v h1 hv=>H v h1 (.of_has hv g2) hv.ext
theorem o_appsO{y:SX}{vx:AV}{old new:List AV}{l:Nat}{c:List UInt8}(hq:q=0)(hlt:(decide (d<nt))=true)(hx:ev (lk E) x=some vx)(hy:ev (lk E) y=some (.str c))(H0:OSl hb s vx old l h)(hsrc:Yaf s h (.str c)=some (new,n))
  (hlen:new.length=n*s)(hone:new.all AV.one=true)(hbd:(l+n)*(b+1)≤2^44)
  (H:∀v h1,OSl hb s v (old++new) (l+n) h1→Ext (Ya0 h vx) h1→Yu P A f nt h0 0 r ((d,v)::E) bx h1 Q):Yu P A f nt h0 q (⟨some d,none,.apps s b x y⟩::r) E bx h Q:=by
 subst hq;obtain⟨g1,g2⟩:=H0.has;exact o_apps hlt hx hy g1 hsrc hlen hone hbd (.inl rfl) fun v h1 hv=>H v h1 (.of_has hv g2) hv.ext
theorem Yjw{R:Ya→List AV→α→Prop}{g:Ya}(hlt:(decide (d<nt))=true)(hx:ev (lk E) x=some v)(hi:ev (lk E) i=some (.int k (z:Int)))(hg:Ext g h)(hv:Sl R s g v l)(hz:z<l.length)
  (H:∀p c,VPtr h p c→R g c l[z]→c.length=s→Yu P A f nt h0 (q-1) r ((d,p)::E) bx h Q):Yu P A f nt h0 q (⟨some d,none,.ia x i none s⟩::r) E bx h Q:=by
 obtain⟨cs,h1,h2⟩:=hv;obtain⟨g1,g2⟩:=h2.get hz;refine o_iaV hlt hx hi (h1.mono hg) (by omega) (by omega) fun p hp=>?_;rw[Zn]at hp;exact H p _ hp g1 g2
theorem Yai{R:Ya→List AV→α→Prop}{g:Ya}(hlt:(decide (d<nt))=true)(hx:ev (lk E) x=some v)(hg:Ext g h)(hv:Sl R s g v l)(H:Yu P A f nt h0 (q-1) r ((d,.int .i64 l.length)::E) bx h Q) :
  Yu P A f nt h0 q (⟨some d,none,.len x none⟩::r) E bx h Q:=by
 obtain⟨cs,h1,_⟩:=hv;exact Yec hlt hx (h1.mono hg) H
def reckK:SK→Bool
 |.mv _ | .pick _ _ _ | .isnil _ _ _ | .fa _ _ | .ld _ _ | .fld _ _ _ | .ext _ _ | .len _ _ | .lens _ | .ss _ | .chk _ | .mkf _ _ _=>true
 |_=>false
theorem Ym9{k:SK}{p:Prop}(_hk:reckK k=true)(hlt:(decide (d<nt))=true)(hv:sv (lk E) k=some (p,v))(hp:p)(H:Yu P A f nt h0 (q-1) r ((d,v)::E) bx h Q) :
  Yu P A f nt h0 q (⟨some d,none,k⟩::r) E bx h Q:=Yq hlt hv hp H
theorem Yfz:∀(bs:List UInt8),Yae (ubs bs)=some bs
 |[]=>rfl
 |b::bs=>by
  show(Yae (ubs bs)).map (UInt8.ofNat (b.toNat:Int).toNat:: ·)=_;rw[Yfz bs,Zn];simp
theorem Ynd{bs:List UInt8}(hlt:(decide (d<nt))=true)(hx:ev (lk E) x=some v)(hv:VSl h 1 v (ubs bs) n)(hq:0<q→Ext h h0)
  (H:Yu P A f nt h0 (q-1) r ((d,.str bs)::E) bx h Q):Yu P A f nt h0 q (⟨some d,none,.b2s x⟩::r) E bx h Q:=by
 generalize hcs:ubs bs=cs at hv;cases hv with
 |nil=>
  have:bs=[]:=by simpa[ubs]using hcs
  subst this;exact Yq (p:=True) hlt (by simp only[sv,hx]) trivial H
 |tsl _ _ hl=>
  refine Yq (p:=True) (v:= .str bs) hlt ?_ trivial H;simp only[sv,hx];rw[Yw (by omega),←hcs];simp only[Yfz]
 |sl id off _ os _ hid hc=>
  subst hcs;exact o_b2sh hlt hx hid (fun hlt=>by rw[hq hlt _ _ hid];simp) (by rw[Nat.mul_one]at hc;exact hc) (Yfz bs) H
theorem o_cvs{id off len:Nat}{l:List AV}(hlt:(decide (d<nt))=true)(hx:ev (lk E) x=some (.sl id off len 1))(h0l:0<len)(hid:h id=some (.cells cs))(h0id:0<q→h0 id≠none)(hl:Yp cs off len=some l)
  (H:Yu P A f nt h0 (q-1) r ((d,.sl id off len 1)::E) bx h Q):Yu P A f nt h0 q (⟨some d,none,.cvs x⟩::r) E bx h Q:=by
 refine o_heap (Q1:=fun w h1=>w= .sl id off len 1∧h1=h) ?_ ?_
 ·intro o rg hd e hs;obtain⟨s,dt,x0,e0,e',hop,hx0,hs1,hd1,hb1,hb,hro⟩:=Xw (Yfa e rfl (by simp));refine Ybk (by simp[NC,hop]) hro (fun n' hn=>?_);refine⟨_,h,n',([id],[]),?_,fun hq=>⟨rfl,by simpa using h0id hq⟩,rfl,rfl⟩;rw[hop];simp only[opM,Yg hs hx0 hx,Yd,Yj,K3,hs1,hd1];rw[if_pos ⟨hb1,hb,h0l,trivial⟩];simp only[AM.bind,Xt,AM.get,hid,AM.lift,hl,AM.pure];rfl
 ·rintro w h1 o rg hd e ⟨rfl,rfl⟩;obtain⟨s,dt,x0,e0,e',hop,_⟩:=Xw (Yfa e rfl (by simp));exact⟨bx,Jx hd (by simpa[Y8]using hlt) (by rw[hop];rfl),H⟩
end
end Go.Abs
