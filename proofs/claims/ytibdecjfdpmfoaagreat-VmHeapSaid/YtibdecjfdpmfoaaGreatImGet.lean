import Derived.Test.YtibdecjfdpmfoaaGreatImCut
section
namespace Go.Abs
open List
variable {Q:AV→Ya→Prop}
section
variable {P:Program} {A:Ann} {f nt:Nat}
def Yj6 (P:Program) (A:Ann) (f:Nat) (l:List ResultVar) (Q:AV→Ya→Prop):AX→Env→List Nat→Ya→Prop:=fun x E bx h1=>match x with
 |.exit _=>False
 |_=>∃vs,ResR P E h1 l vs∧A.fz f=false∧Q (Yx vs) (Yv bx h1)
theorem Xd{l:List ResultVar}{h1:Ya}{E:Env}{bx:List Nat}{vs:List AV}(e1:ResR P E h1 l vs)(e2:A.fz f=false)(e3:Q (Yx vs) (Yv bx h1)):Yj6 P A f l Q .ret E bx h1:=⟨vs,e1,e2,e3⟩
theorem Yt(hst:A.still f=false){fn:Func}{sc:SC}{args:List AV}{h:Ya}(hp:(A.pure f&&AV.trees args)=false)(hf:P.funcs[f]?=some fn)(hb:fn.body.bind (slC P A f)=some sc)(hn:(fn.name == "runtime.NumGoroutine" || decide (fn.ntmps<args.length))=false)
  (run:Yb5 P A f fn.ntmps sc (Yhl 0 args) [] h (Yj6 P A f fn.results.toList Q)):HCallC P A f args h Q:=by
 obtain⟨c,hcb,hsc⟩:=Option.bind_eq_some_iff.1 hb;intro n hh;have hsat:Sat (lk (Yhl 0 args)) (Qi args):=Ych args 0 _ (fun j a hj=>by simp[Qi,hj]);obtain⟨k,x,fr',h1,n1,lg,e,E',hs',q⟩:=run c (Qi args) hsc hsat n hh;have hcl:∀g vs,Local (Xg P A k g vs):=fun g vs=>Xa P A k g vs;obtain⟨own,hle⟩:=Yig hcl k c hh e;have hx:(∀i,x≠ .exit i)∧∃vs,ResR P E' h1 fn.results.toList vs∧A.fz f=false∧Q (Yx vs) (Yv fr'.boxes h1):=by
  cases x with
  |exit i=>exact q.elim
  |norm=>exact⟨by simp,q⟩
  |ret=>exact⟨by simp,q⟩
 obtain⟨hx1,vs,hvs,hfz,hq⟩:=hx;obtain⟨rd,er⟩:=hvs.run hs' n1;have hbody:body (Xg P A k) P A k f args h n=some ((Yx vs,fr'.boxes),h1,n1,(lg.1++(rd++[]),lg.2++[])):=by
  unfold body;simp only[hf,hcb,hn,Zf,if_false];have e2:=Xq (f:=fun vs=>AM.bind (if A.fz f then Xy 1000 (Yx vs) else AM.pure (Yx vs)) fun v=>AM.pure (v,fr'.boxes)) (l2:=([],[])) (b:=(Yx vs,fr'.boxes)) (h2:=h1) (n2:=n1) er (by simp only[hfz,Zf,if_false,Yj];rfl);refine(Xq (l2:=(rd++[],[])) (b:=(Yx vs,fr'.boxes)) (h2:=h1) (n2:=n1) e ?_);cases x with
  |exit i=>exact absurd rfl (hx1 i)
  |norm=>exact e2
  |ret=>exact e2
 have hfree:Q2 n n1 h1 fr'.boxes=Yv fr'.boxes h1:=by
  funext id;unfold Q2 Yv;by_cases hb:fr'.boxes.contains id=true
  ·have:=own id (by simpa using hb);simp only[not_mem_nil,false_or]at this;rw[if_pos ⟨this.1,this.2,hb⟩,if_pos hb]
  ·rw[if_neg (fun h=>hb h.2.2),if_neg hb]
 refine⟨k+1,Yx vs,Yv fr'.boxes h1,n1,((lg.1++(rd++[])).filter (· < n),(lg.2++[]).filter (· < n)),?_,hq⟩;unfold Xg;rw[hp];simp only[Zf,if_false];unfold Ycb;rw[hbody];simp only[Ybn];rw[if_neg (by rw[hst];simp),hfree]
end
end Go.Abs
namespace Go.Img
open List
open Go.Abs
end Go.Img
namespace Go.Abs
open List hiding nil
section
variable {P:Program} {A:Ann} {f nt:Nat} {E:Env} {bx:List Nat} {h:Ya} {Q:AX→Env→List Nat→Ya→Prop} {h0:Ya} {q:Nat}
theorem o_sltW{g:Ya}{d s n:Nat}{x:SX}{lo hi:Option SX}{r:List SO}{v:AV}{cs:List AV}{l m:Int}(hlt:(decide (d<nt))=true)(hx:ev (lk E) x=some v)(hv:VSl g s v cs n)(hlo:evI (lk E) 0 lo=some l)(hhi:evI (lk E) n hi=some m)(h1:0≤l)(h2:l≤m)(h3:m≤n)
  (H:∀w,VSl g s w ((cs.take (m.toNat*s)).drop (l.toNat*s)) (m.toNat-l.toNat)→Yu P A f nt h0 (q-1) r ((d,w)::E) bx h Q):Yu P A f nt h0 q (⟨some d,none,.slt x lo hi s⟩::r) E bx h Q:=by
 have hl:=hv.len;have hb:l.toNat*s≤m.toNat*s:=Zr s (by omega);have hb2:m.toNat*s≤n*s:=Zr s (by omega);have hlen:((cs.take (m.toNat*s)).drop (l.toNat*s)).length=(m.toNat-l.toNat)*s:=by
  rw[length_drop,length_take,hl,Nat.min_eq_left hb2,Nat.sub_mul]
 cases hv with
 |nil=>
  refine Yq (p:=l=0∧m=0) hlt (by simp only[sv,hx,hlo];rw[show((0:Nat):Int)=0 from rfl]at hhi;rw[hhi]) ⟨by omega,by omega⟩ (H _ ?_);have e1:l.toNat=0:=by omega
  have e2:m.toNat=0:=by omega
  rw[e1,e2];simpa using VSl.nil
 |tsl _ _ _=>exact Yq (p:=0≤l∧l≤m∧m≤n) hlt (by simp only[sv,hx,hlo,hhi]) ⟨h1,h2,h3⟩ (H _ (.tsl _ _ hlen))
 |sl id off _ os _ hid hc=>
  refine Yq (p:=s=s∧0≤l∧l≤m∧m≤n) (v:= .sl id (off+l.toNat*s) (m.toNat-l.toNat) s) hlt (by simp only[sv,hx,hlo,hhi]) ⟨rfl,h1,h2,h3⟩ (H _ (.sl _ _ _ os _ hid ?_));have e:Yp cs (l.toNat*s) ((m.toNat-l.toNat)*s)=some ((cs.take (m.toNat*s)).drop (l.toNat*s)):=by
   have hsub:(m.toNat-l.toNat)*s=m.toNat*s-l.toNat*s:=Nat.sub_mul _ _ _;rw[Ybc (by rw[hsub];omega),hsub,drop_take]
  exact Ja hc e
end
end Go.Abs
namespace Go.Img
open List hiding all
open Go.Abs
structure Rd (g:Ya) (w:Nat) (bs:B) (bad:Bool) (h:Ya):Prop where
 ext:Ext g h
 fresh:g w=none
 st:∃v,h w=some (.cells [v,.bool bad])∧VSl g 1 v (ubs bs) bs.length
inductive Out {α:Type} (p:Pa α) (K:Nat) (bs:B) (a:α) (c:Nat) (bs':B):Bool→Bool→Prop where
 |ok (h:p bs=some (a,bs')) (hl:bs'.length<bs.length) (hc:c+10*bs'.length≤10*bs.length):Out p K bs a c bs' false false
 |bad (bad:Bool) (h:bad=false→p bs=none) (hl:bs'.length≤bs.length) (hc:c+10*bs'.length≤10*bs.length+K):Out p K bs a c bs' bad true
section
variable {α β:Type} {p:Pa α} {K K1 K2:Nat} {bs bs1 bs2:B} {a:α} {b:β} {c c1 c2:Nat} {t t1 t2:Bool}
theorem Out.len(H:Out p K bs a c bs1 t t1):bs1.length≤bs.length:=by
 cases H with
 |ok h hl hc=>omega
 |bad _ h hl hc=>exact hl
theorem Out.cost(H:Out p K bs a c bs1 t t1):c+10*bs1.length≤10*bs.length+K:=by
 cases H with
 |ok h hl hc=>omega
 |bad _ h hl hc=>exact hc
theorem Out.bind{f:α→Pa β}(H:Out p K1 bs a c1 bs1 t t1)(G:Out (f a) K2 bs1 b c2 bs2 t1 t2):Out (Qp p f) (K1+K2) bs b (c1+c2) bs2 t t2:=by
 cases H with
 |ok h hl hc=>
  have e:Qp p f bs=f a bs1:=by
   unfold Qp;rw[h]
  cases G with
  |ok h' hl' hc'=>exact .ok (e.trans h') (by omega) (by omega)
  |bad _ h' hl' hc'=>exact .bad _ (fun _=>e.trans (h' rfl)) (by omega) (by omega)
 |bad _ h hl hc=>
  cases G with
  |bad _ h' hl' hc'=>
   refine .bad _ (fun ht=>?_) (by omega) (by omega);unfold Qp;rw[h ht]
theorem Out.map{f:α→β}(H:Out p K bs a c bs1 t t1):Out (Yi3 f p) K bs (f a) c bs1 t t1:=by
 cases H with
 |ok h hl hc=>
  refine .ok ?_ hl hc;unfold Yi3;rw[h];rfl
 |bad _ h hl hc=>
  refine .bad _ (fun ht=>?_) hl hc;unfold Yi3;rw[h ht];rfl
theorem Out.as{c' K':Nat}(H:Out p K bs a c bs1 t t1)(hc:c'=c)(hK:K≤K'):Out p K' bs a c' bs1 t t1:=by
 subst hc;cases H with
 |ok h hl hc=>exact .ok h hl hc
 |bad _ h hl hc=>exact .bad _ h hl (by omega)
end
structure RdR {α:Type} (p:Pa α) (K:Nat) (cost:α→Nat) (Rv:Ya→AV→α→Prop) (g:Ya) (w:Nat) (bs:B) (t:Bool) (h:Ya) (v:AV) (h' G:Ya) (a:α) (bs':B) (t':Bool):Prop where
 ext:Ext g G
 rd:Rd G w bs' t' h'
 val:Rv G v a
 out:Out p K bs a (cost a) bs' t t'
 frame:∀id o,id≠w→h id=some o→h' id=some o
 new:∀id,h id≠none→g id=none→G id=none
def Reads {α:Type} (P:Program) (A:Ann) (f:Nat) (args:List AV) (w:Nat) (p:Pa α) (K:Nat) (cost:α→Nat) (Rv:Ya→AV→α→Prop):Prop:=
 ∀(g:Ya) (bs:B) (t:Bool) (h:Ya),bs.length≤1048576→Rd g w bs t h→HCallC P A f args h fun v h'=>∃G a bs' t',RdR p K cost Rv g w bs t h v h' G a bs' t'
theorem Rd.up{g h h':Ya}{w:Nat}{bs:B}{t:Bool}(H:Rd g w bs t h)(hx:Ext h h'):Rd g w bs t h':=by
 obtain⟨v,h1,h2⟩:=H.st;exact⟨H.ext.trans hx,H.fresh,v,hx _ _ h1,h2⟩
theorem Rd.grow{g G h:Ya}{w:Nat}{bs:B}{t:Bool}(H:Rd g w bs t h)(hx:Ext g G)(hG:Ext G h)(hw:G w=none):Rd G w bs t h:=by
 obtain⟨v,h1,h2⟩:=H.st;exact⟨hG,hw,v,h1,h2.mono hx⟩
theorem Rd.set{g h:Ya}{w b:Nat}{bs:B}{t:Bool}{o:AObj}(H:Rd g w bs t h)(hg:g b=none)(hb:b≠w):Rd g w bs t (upd h b (some o)):=by
 obtain⟨v,h1,h2⟩:=H.st;refine⟨fun id o' e=>?_,H.fresh,v,?_,h2⟩
 ·rw[Ys (fun hid=>by rw[hid,hg]at e;cases e)];exact H.ext id o' e
 ·rw[Ys (Ne.symm hb)];exact h1
theorem Rd.kill{g h:Ya}{w:Nat}{bs:B}{t:Bool}{bx:List Nat}(H:Rd g w bs t h)(hb:∀b∈bx,g b=none∧b≠w):Rd g w bs t (Yv bx h):=by
 obtain⟨v,h1,h2⟩:=H.st;refine⟨H.ext.kill fun i hi=>(hb i hi).1,H.fresh,v,?_,h2⟩;unfold Yv;rw[if_neg]
 ·exact h1
 ·intro hc;exact(hb w (by simpa using hc)).2 rfl
theorem Rd.live{g h:Ya}{w:Nat}{bs:B}{t:Bool}(H:Rd g w bs t h):h w≠none:=by
 obtain⟨v,h1,_⟩:=H.st;rw[h1];simp
section
variable {α:Type} {p:Pa α} {K:Nat} {cost:α→Nat} {Rv:Ya→AV→α→Prop} {g h h1:Ya} {w:Nat} {bs bs':B} {t:Bool} {u u' v:AV} {a:α}
theorem Rd.box{b:Bool}(H:Rd g w bs t h)(hx:Ext h h1)(hu:VSl g 1 u (ubs bs') bs'.length):Rd g w bs' b (upd h1 w (some (.cells [u,.bool b]))):=by
 refine⟨fun id o e=>?_,H.fresh,u,upd_same,hu⟩;rw[Ys (fun hid=>by rw[hid,H.fresh]at e;cases e)];exact hx _ _ (H.ext id o e)
theorem RdR.stop(H:Rd g w bs t h)(hu:VSl g 1 u (ubs bs) bs.length)(hx:Ext h h1)(hp:t=false→p bs=none)(hR:Rv g v a)(hc:cost a≤K):RdR p K cost Rv g w bs t h v (upd h1 w (some (.cells [u,.bool true]))) g a bs true:=
 ⟨.refl,H.box hx hu,hR,.bad t hp (Zl _) (by omega),fun id o hid e=>by rw[Ys hid];exact hx _ _ e,fun _ _ h=>h⟩
theorem RdR.go(H:Rd g w bs false h)(hu:VSl g 1 u (ubs bs') bs'.length)(hx:Ext h h1)(hp:p bs=some (a,bs'))(hR:Rv g v a)(hl:bs'.length<bs.length)(hc:cost a+10*bs'.length≤10*bs.length):RdR p K cost Rv g w bs false h v (upd h1 w (some (.cells [u,.bool false]))) g a bs' false:=
 ⟨.refl,H.box hx hu,hR,.ok hp hl hc,fun id o hid e=>by rw[Ys hid];exact hx _ _ e,fun _ _ h=>h⟩
variable {β:Type} {f:α→β} {cost':β→Nat} {Rv':Ya→AV→β→Prop} {h' G:Ya} {t':Bool} {v':AV}
theorem RdR.map(H:RdR p K cost Rv g w bs t h v h' G a bs' t')(hv:Rv' G v' (f a))(hc:cost' (f a)≤10):RdR (Yi3 f p) 10 cost' Rv' g w bs t h v' h' G (f a) bs' t':=by
 refine⟨H.ext,H.rd,hv,?_,H.frame,H.new⟩;cases H.out with
 |ok e hl _=>exact .ok (by unfold Yi3;rw[e];rfl) hl (by omega)
 |bad _ e hl _=>exact .bad _ (fun ht=>by unfold Yi3;rw[e ht];rfl) hl (by omega)
end
def REl {α:Type} (R:Ya→List AV→α→Prop) (s:Nat) (W:α→Prop):Ya→AV→α→Prop:=fun h v a=>R h v.cells a∧v.cells.length=s∧v.cells.all AV.one=true∧W a
def RLs {α:Type} (R:Ya→List AV→α→Prop) (s:Nat) (W:α→Prop):Ya→AV→List α→Prop:=fun h v l=>Sl R s h v l∧l.length≤1048577∧∀a∈l,W a
structure LA {α:Type} (R:Ya→List AV→α→Prop) (s:Nat) (W:α→Prop) (w:Nat) (h0 g G h':Ya) (vv:AV) (l:List α):Prop where
 ext:Ext g G
 frame:∀id o,id≠w→h0 id=some o→h' id=some o
 new:∀id,h0 id≠none→g id=none→G id=none
 own:(vv= .nil .sl∧l=[])∨∃i cs,vv= .sl i 0 l.length s∧G i=none∧i≠w∧h0 i=none∧h' i=some (.cells cs)∧Chunks (R G) s cs l∧cs.all AV.one=true
 all:∀a∈l,W a
section
variable {α β:Type} {R:Ya→List AV→α→Prop} {s:Nat} {W:α→Prop} {w:Nat} {h0 g G h' h2 G2:Ya} {vv v:AV} {l:List α} {a:α} {bs bs1 bs2 bs3:B} {t t1 t2:Bool} {p:Pa α} {K:Nat} {cost:α→Nat}
theorem LA.start{q:Pa β}{K':Nat}{c':β→Nat}{Rv:Ya→AV→β→Prop}{b:β}{v:AV}(H:RdR q K' c' Rv g w bs t h0 v h' G b bs1 t1):LA R s W w h0 g G h' (.nil .sl) []:=
 ⟨H.ext,H.frame,H.new,.inl ⟨rfl,rfl⟩,by simp⟩
theorem Ylt{h:Ya}{i o n s id:Nat}(hi:id≠i):Ya0 h (.sl i o n s) id=h id:=Ys hi
theorem LA.step(hR:Yqy R)(H:LA R s W w h0 g G h' vv l)(rd:Rd G w bs t h')(R2:RdR p K cost (REl R s W) G w bs t h' v h2 G2 a bs2 t2) :
  ∃cs,cs.all AV.one=true∧OSl (Ya0 h2 vv) s vv cs l.length h2∧∀v' h3,OSl (Ya0 h2 vv) s v' (cs++v.cells) (l.length+1) h3→LA R s W w h0 g G2 h3 v' (l++[a])∧Rd G2 w bs2 t2 h3:=by
 obtain⟨r1,r2,r3,r4⟩:=R2.val;have hall:∀x∈l++[a],W x:=fun x hx=>by
  rcases mem_append.1 hx with hx|hx
  ·exact H.all x hx
  ·rw[Zm.1 hx];exact r4
 have fr:∀id o,id≠w→h0 id=some o→h2 id=some o:=fun id o hid e=>R2.frame id o hid (H.frame id o hid e);have nw:∀id,h0 id≠none→g id=none→G2 id=none:=fun id h1 h2=>by
  by_cases hw:id=w
  ·rw[hw];exact R2.rd.fresh
  ·refine R2.new id ?_ (H.new id h1 h2);cases e:h0 id with
   |none=>exact absurd e h1
   |some o=>rw[H.frame id o hw e];simp
 rcases H.own with ⟨rfl,rfl⟩|⟨i,cs,rfl,g1,g2,g3,g4,g5,g6⟩
 ·refine⟨[],rfl,.nil .refl,fun v' h3 O=>?_⟩;have O:OSl h2 s v' v.cells 1 h3:=O;have rd3:=R2.rd.up O.ext;rcases O.own with ⟨_,_,h4⟩|⟨j,rfl,h4,h5,h6⟩
  ·omega
  refine⟨⟨H.ext.trans R2.ext,fun id o hid e=>O.ext _ _ (fr id o hid e),nw,.inr ⟨j,v.cells,rfl,?_,?_,?_,h5,.one r2 r1,r3⟩,hall⟩,rd3⟩
  ·cases e:G2 j with
   |none=>rfl
   |some o=>rw[R2.rd.ext _ _ e]at h4;cases h4
  ·rintro rfl;exact R2.rd.live h4
  ·cases e:h0 j with
   |none=>rfl
   |some o=>
    by_cases hw:j=w
    ·subst hw;exact absurd h4 R2.rd.live
    ·rw[fr j o hw e]at h4;cases h4
 ·have hi2:=R2.frame i _ g2 g4;have gi2:G2 i=none:=R2.new i (by rw[g4];simp) g1;refine⟨cs,g6,⟨fun id o e=>?_,.inr ⟨i,rfl,upd_same,hi2,g5.len⟩⟩,fun v' h3 O=>?_⟩
  ·by_cases hid:id=i
   ·subst hid;rw[show Ya0 h2 (.sl id 0 l.length s) id=none from upd_same]at e;cases e
   ·rwa[Ylt hid]at e
  ·rcases O.own with ⟨_,_,h4⟩|⟨j,rfl,h4,h5,h6⟩
   ·omega
   have keep:∀id o,id≠i→h2 id=some o→h3 id=some o:=fun id o hid e=>O.ext id o (by rw[Ylt hid];exact e);have hj:j=i∨h2 j=none:=by
    by_cases hij:j=i
    ·exact .inl hij
    ·rw[Ylt hij]at h4;exact .inr h4
   refine⟨⟨H.ext.trans R2.ext,fun id o hid e=>keep id o (fun hc=>by rw[hc,g3]at e;cases e) (fr id o hid e),nw,.inr ⟨j,cs++v.cells,by rw[length_append];rfl,?_,?_,?_,h5,(g5.imp fun c x=>hR _ _ c x R2.ext).append (.one r2 r1),by rw[all_append,g6,r3];rfl⟩,hall⟩,?_⟩
   ·rcases hj with rfl|hj
    ·exact gi2
    ·cases e:G2 j with
     |none=>rfl
     |some o=>rw[R2.rd.ext _ _ e]at hj;cases hj
   ·rintro rfl;rcases hj with rfl|hj
    ·exact g2 rfl
    ·exact R2.rd.live hj
   ·rcases hj with rfl|hj
    ·exact g3
    ·cases e:h0 j with
     |none=>rfl
     |some o=>
      by_cases hw:j=w
      ·subst hw;exact absurd hj R2.rd.live
      ·rw[fr j o hw e]at hj;cases hj
   ·obtain⟨u,u1,u2⟩:=R2.rd.st;exact⟨fun id o e=>keep id o (fun hc=>by rw[hc,gi2]at e;cases e) (R2.rd.ext id o e),R2.rd.fresh,u,keep w _ (Ne.symm g2) u1,u2⟩
theorem LA.done(hR:Yqy R)(H:LA R s W w h0 g G h' vv l)(rd:Rd G w bs t h'):∃G',Ext g G'∧Rd G' w bs t h'∧Sl R s G' vv l∧∀id,h0 id≠none→g id=none→G' id=none:=by
 rcases H.own with ⟨rfl,rfl⟩|⟨i,cs,rfl,g1,g2,g3,g4,g5,g6⟩
 ·exact⟨G,H.ext,rd,.nil,H.new⟩
 ·have hx:Ext G (upd G i (some (.cells cs))):= .upd g1;refine⟨_,H.ext.trans hx,rd.grow hx (fun id o e=>?_) (by rw[Ys (Ne.symm g2)];exact rd.fresh),⟨cs,.sl i 0 _ cs _ upd_same (Yw g5.len),g5.imp fun c x=>hR _ _ c x hx⟩,fun id h1 h2=>?_⟩
  ·unfold upd at e;split at e
   ·rename_i hid;rw[hid,g4,e]
   ·exact rd.ext id o e
  ·rw[Ys (fun hc=>by rw[hc]at h1;exact h1 g3)];exact H.new id h1 h2
structure LO (p:Pa α) (K:Nat) (e:α→B) (n:Int) (bs1:B) (t1:Bool) (l:List α) (k:Int) (bs:B) (t:Bool):Prop where
 hk:k=n-l.length
 hl:l.length≤n.toNat
 good:t=false→t1=false∧(∀j,Yp1 p (l.length+j) bs1=(Yp1 p j bs).map fun x=>(l++x.1,x.2))∧(l.flatMap e).length+10*bs.length≤10*bs1.length∧l.length+bs.length≤bs1.length
 wrong:t=true→(t1=false→Yp1 p n.toNat bs1=none)∧(l.flatMap e).length+10*bs.length≤10*bs1.length+K∧l.length+bs.length≤bs1.length+1∧bs.length≤bs1.length
theorem LO.start{e:α→B}{n:Int}:LO p K e n bs1 t1 [] n bs1 t1:=by
 refine⟨by simp,by simp,fun h=>⟨h,fun j=>?_,by simp,by simp⟩,fun h=>⟨fun h'=>(by rw[h]at h';cases h'),by simp,by simp,Zl _⟩⟩;rw[length_nil,Nat.zero_add];cases Yp1 p j bs1<;>simp
theorem LO.len{e:α→B}{n k:Int}(H:LO p K e n bs1 t1 l k bs t):bs.length≤bs1.length+1∧l.length≤bs1.length+1:=by
 cases t with
 |false=>have:=(H.good rfl).2.2.2;omega
 |true=>have:=(H.wrong rfl).2.2.1;omega
theorem LO.step{e:α→B}{n k:Int}(H:LO p K e n bs1 t1 l k bs false)(h0:0<k)(O:Out p K bs a (e a).length bs2 false t2):LO p K e n bs1 t1 (l++[a]) (k-1) bs2 t2:=by
 obtain⟨q1,q2,q3,q4⟩:=H.good rfl;have hk:=H.hk;have hl:=H.hl;refine⟨by rw[length_append,length_singleton];omega,by rw[length_append,length_singleton];omega,?_,?_⟩
 ·rintro rfl;cases O with
  |ok h1 h2 h3=>
   refine⟨q1,fun j=>?_,by simp only[flatMap_append,flatMap_singleton,length_append];omega,by rw[length_append,length_singleton];omega⟩;rw[length_append,length_singleton,Nat.add_assoc,q2,Nat.add_comm 1 j];show(Qp p (fun a=>Yi3 (a:: ·) (Yp1 p j)) bs).map _=_;unfold Qp Yi3;rw[h1];simp only;cases Yp1 p j bs2<;>simp
 ·rintro rfl;cases O with
  |bad _ h1 h2 h3=>
   refine⟨fun _=>?_,by simp only[flatMap_append,flatMap_singleton,length_append];omega,by rw[length_append,length_singleton];omega,by omega⟩;obtain⟨j,hj⟩:∃j,n.toNat=l.length+(j+1):=⟨n.toNat-l.length-1,by omega⟩;rw[hj,q2];show(Qp p (fun a=>Yi3 (a:: ·) (Yp1 p j)) bs).map _=_;unfold Qp;rw[h1 rfl];rfl
theorem LO.out{e:α→B}{n k:Int}{c:Nat}(O:Out Ye6 10 bs3 n c bs1 t t1)(H:LO p K e n bs1 t1 l k bs t2)(h0:t2=true∨k≤0)(hp:(put l.length).length≤10):Out (Yah p) (K+10) bs3 l (Y4 e l).length bs t t2:=by
 have hlen:(Y4 e l).length=(put l.length).length+(l.flatMap e).length:=by unfold Y4;rw[length_append]
 have hk:=H.hk;have hl:=H.hl;cases t2 with
 |false=>
  obtain⟨rfl,q2,q3,q4⟩:=H.good rfl;cases O with
  |ok h1 h2 h3=>
   refine .ok ?_ (by omega) (by omega);show Qp Ye6 (fun n=>Yp1 p n.toNat) bs3=_;unfold Qp;rw[h1];simp only;have e:n.toNat=l.length+0:=by
    rcases h0 with h0|h0
    ·cases h0
    ·omega
   rw[e,q2];show some (l++[],bs)=_;rw[append_nil]
 |true=>
  obtain⟨q1,q2,q3,q4⟩:=H.wrong rfl;cases O with
  |ok h1 h2 h3=>
   refine .bad _ (fun _=>?_) (by omega) (by omega);show Qp Ye6 (fun n=>Yp1 p n.toNat) bs3=_;unfold Qp;rw[h1];exact q1 rfl
  |bad _ h1 h2 h3=>
   refine .bad _ (fun ht=>?_) ?_ (by omega)
   ·show Qp Ye6 (fun n=>Yp1 p n.toNat) bs3=_;unfold Qp;rw[h1 ht]
   ·omega
theorem Reads.val{P:Program}{A:Ann}{f:Nat}{args:List AV}{Rv Rv':Ya→AV→α→Prop}(H:Reads P A f args w p K cost Rv)(hv:∀h v a,Rv h v a→Rv' h v a):Reads P A f args w p K cost Rv':=by
 intro g bs t h hbs hr;refine(H g bs t h hbs hr).mono ?_;rintro v h' ⟨G,a,bs',t',r⟩;exact⟨G,a,bs',t',r.ext,r.rd,hv _ _ _ r.val,r.out,r.frame,r.new⟩
end
structure Ch (w:Nat) (h0 g G h':Ya) (bs:B) (t:Bool) (bx:List Nat):Prop where
 ext:Ext g G
 rd:Rd G w bs t h'
 frame:∀id o,id≠w→h0 id=some o→h' id=some o
 new:∀id,h0 id≠none→g id=none→G id=none
 bxs:∀b∈bx,h0 b=none∧G b=none∧b≠w
section
variable {α:Type} {w:Nat} {h0 g G h' h2 G2:Ya} {v:AV} {a:α} {bs bs1 bs2:B} {t t1 t2:Bool} {p:Pa α} {K:Nat} {cost:α→Nat} {Rv:Ya→AV→α→Prop} {bx:List Nat}
theorem Ch.start(H:Rd g w bs t h0):Ch w h0 g g h0 bs t []:=⟨.refl,H,fun _ _ _ e=>e,fun _ _ e=>e,by simp⟩
theorem Ch.box{b:Nat}{o:AObj}(H:Ch w h0 g G h' bs t bx)(hb:h' b=none):Ch w h0 g G (upd h' b (some o)) bs t (b::bx):=by
 have hw:b≠w:=by rintro rfl;exact H.rd.live hb
 have hG:G b=none:=by
  cases e:G b with
  |none=>rfl
  |some o=>rw[H.rd.ext b o e]at hb;cases hb
 refine⟨H.ext,H.rd.set hG hw,fun id o' hid e=>?_,H.new,fun c hc=>?_⟩
 ·have:=H.frame id o' hid e;rwa[Ys (fun hc=>by rw[hc,hb]at this;cases this)]
 ·rcases mem_cons.1 hc with rfl|hc
  ·refine⟨?_,hG,hw⟩;cases e:h0 c with
   |none=>rfl
   |some o=>rw[H.frame c o hw e]at hb;cases hb
  ·exact H.bxs c hc
theorem Ch.call(H:Ch w h0 g G h' bs t bx)(R:RdR p K cost Rv G w bs t h' v h2 G2 a bs2 t2)(hl:∀b∈bx,h' b≠none):Ch w h0 g G2 h2 bs2 t2 bx:=by
 refine⟨H.ext.trans R.ext,R.rd,fun id o hid e=>R.frame id o hid (H.frame id o hid e),fun id h1 h2=>?_,fun b hb=>⟨(H.bxs b hb).1,R.new b (hl b hb) (H.bxs b hb).2.1,(H.bxs b hb).2.2⟩⟩;by_cases hw:id=w
 ·rw[hw];exact R.rd.fresh
 ·refine R.new id ?_ (H.new id h1 h2);cases e:h0 id with
  |none=>exact absurd e h1
  |some o=>rw[H.frame id o hw e];simp
theorem Ch.keep{b:Nat}{o:AObj}(H:Ch w h0 g G h' bs t bx)(R:RdR p K cost Rv G w bs t h' v h2 G2 a bs2 t2)(hb:b∈bx)(e:h' b=some o):h2 b=some o:=R.frame b o (H.bxs b hb).2.2 e
theorem Ch.set{b:Nat}{o:AObj}(H:Ch w h0 g G h' bs t bx)(hb:b∈bx):Ch w h0 g G (upd h' b (some o)) bs t bx:=by
 obtain⟨h1,h2,h3⟩:=H.bxs b hb;exact⟨H.ext,H.rd.set h2 h3,fun id o' hid e=>by rw[Ys (fun hc=>by rw[hc,h1]at e;cases e)];exact H.frame id o' hid e,H.new,H.bxs⟩
theorem Ch.fin(H:Ch w h0 g G h' bs1 t1 bx)(hv:Rv G v a)(ho:Out p K bs a (cost a) bs1 t t1):RdR p K cost Rv g w bs t h0 v (Yv bx h') G a bs1 t1:=by
 refine⟨H.ext,H.rd.kill fun b hb=>⟨(H.bxs b hb).2.1,(H.bxs b hb).2.2⟩,hv,ho,fun id o hid e=>?_,H.new⟩;unfold Yv;rw[if_neg]
 ·exact H.frame id o hid e
 ·intro hc;rw[(H.bxs id (by simpa using hc)).1]at e;cases e
end
end Go.Img
end
section
open Go Go.Abs Go.Proofs.SlimCode Go.Img
set_option maxRecDepth 100000
namespace Go.Proofs
open List hiding get
open Go.Proofs.Tryz
variable {bs:B} {z:Int} {i:Nat} {h:Ya}
def getV:G→AV
 |.ok n k=> .tup [I n,I k,I 0]
 |.err e=> .tup [I 0,I 0,I e]
theorem and127{c:Nat}(h:c<256):AV.int .u8 (IntKind.wrap .u8 ((BitVec.ofInt (IntKind.bits .u8) (c:Int) &&& BitVec.ofInt (IntKind.bits .u8) 127).toNat))= .int .u8 ((c%128:Nat):Int):=by
 have key:∀a:Nat,a<256→IntKind.wrap .u8 ((BitVec.ofInt 8 (a:Int) &&& BitVec.ofInt 8 127).toNat)=((a%128:Nat):Int):=by decide +kernel
 exact congrArg _ (key c h)
theorem shlu64{a k:Nat}(hz:z=(k:Int))(hk:k≤63)(h:a*2^k<18446744073709551616):AV.int .u64 (IntKind.wrap .u64 ((a:Int)*2^(min z.toNat (IntKind.bits .u64))))= .int .u64 ((a*2^k:Nat):Int):=by
 subst hz;have e:min (k:Int).toNat (IntKind.bits .u64)=k:=by
  rw[Zn];exact Nat.min_eq_left (by show k≤64;omega)
 rw[e,show(a:Int)*2^k=((a*2^k:Nat):Int) by push_cast;rfl,wu64 (by omega) (by omega)]
theorem oru64{u x k:Nat}(hu:u<2^k)(h:x*2^k<18446744073709551616)(h2:u<18446744073709551616):AV.int .u64 (IntKind.wrap .u64 ((BitVec.ofInt (IntKind.bits .u64) (u:Int) ||| BitVec.ofInt (IntKind.bits .u64) ((x*2^k:Nat):Int)).toNat))= .int .u64 ((u+x*2^k:Nat):Int):=by
 show AV.int .u64 (IntKind.wrap .u64 ((BitVec.ofInt 64 (u:Int) ||| BitVec.ofInt 64 ((x*2^k:Nat):Int)).toNat))=_;have e:∀x:Nat,BitVec.ofInt 64 (x:Int)=BitVec.ofNat 64 x:=fun x=>BitVec.ofInt_natCast ..;have e2:u ||| x*2^k=u+x*2^k:=by
  rw[←Nat.shiftLeft_eq,Nat.or_comm,Nat.add_comm,Nat.shiftLeft_add_eq_or_of_lt hu]
 rw[e,e,BitVec.toNat_or,BitVec.toNat_ofNat,BitVec.toNat_ofNat,Nat.mod_eq_of_lt (by omega),Nat.mod_eq_of_lt (by omega)];have h3:u ||| x*2^k<2^64:=Nat.or_lt_two_pow (by omega) (by omega)
 rw[e2]at h3 ⊢;rw[wu64 (by omega) (by omega)]
theorem and1u64{u:Nat}(h:u<18446744073709551616):AV.int .u64 (IntKind.wrap .u64 ((BitVec.ofInt (IntKind.bits .u64) (u:Int) &&& BitVec.ofInt (IntKind.bits .u64) 1).toNat))= .int .u64 ((u%2:Nat):Int):=by
 show AV.int .u64 (IntKind.wrap .u64 ((BitVec.ofInt 64 (u:Int) &&& BitVec.ofInt 64 ((1:Nat):Int)).toNat))=_;have e:∀x:Nat,BitVec.ofInt 64 (x:Int)=BitVec.ofNat 64 x:=fun x=>BitVec.ofInt_natCast ..;rw[e,e,BitVec.toNat_and,BitVec.toNat_ofNat,BitVec.toNat_ofNat,Nat.mod_eq_of_lt (by omega),Nat.mod_eq_of_lt (a:=1) (by omega),Nat.and_one_is_mod,wu64 (by omega) (by omega)]
theorem not64{m:Nat}(h:m<9223372036854775808):AV.int .i64 (IntKind.wrap .i64 ((BitVec.ofInt (IntKind.bits .i64) (if IntKind.signed .i64 then -1 else IntKind.max .i64) ^^^ BitVec.ofInt (IntKind.bits .i64) (m:Int)).toNat))=I (-(m:Int)-1):=by
 show AV.int .i64 (IntKind.wrap .i64 ((BitVec.ofInt 64 (-1) ^^^ BitVec.ofInt 64 (m:Int)).toNat))=_;have e1:BitVec.ofInt 64 (-1:Int)=BitVec.allOnes 64:=by decide
 have e2:BitVec.ofInt 64 (m:Int)=BitVec.ofNat 64 m:=by rw[BitVec.ofInt_natCast]
 rw[e1,e2,BitVec.allOnes_xor,BitVec.toNat_not,BitVec.toNat_ofNat];simp only[IntKind.wrap,IntKind.bits,IntKind.signed];simp;omega
theorem byte_at(hi:i<bs.length):((ubs bs).drop ((i:Int).toNat*1)).take 1=[ub bs[i]]:=by
 rw[Zn,Nat.mul_one];unfold ubs;rw[drop_eq_getElem_cons (by simpa using hi)];simp
theorem Yqt{p:AV}(hz:z=(i:Int))(hi:i<bs.length)(hp:VPtr h p (((ubs bs).drop (z.toNat*1)).take 1)):VPtr h p [ub bs[i]]:=by
 subst hz;rwa[byte_at hi]at hp
theorem p111{v:AV}(hv:VSl h 1 v (ubs bs) bs.length)(_hl:bs.length≤9223372036854775807):Looks prog ann 174 [v] h (getV (get bs)):=by
 refine Yo rfl func174 Zw rfl ?_;refine tV ?_;apply Yec rfl rfl hv;refine tV ?_;refine Xv (fun s:Nat×Nat=>[(5,.int .u64 (s.2:Int)),(9,v),(10,.int .i64 (bs.length:Int)),(11,.int .i64 (s.1:Int))]) (fun s h'=>h'=h∧s.1≤bs.length∧s.1≤9∧s.2<2^(7*s.1)∧Yqf s.1 s.2 (bs.drop s.1)=get bs) (fun s=>bs.length-s.1) (0,0)
  tU ⟨rfl,Nat.zero_le _,by omega,by decide,rfl⟩ ?_
 rintro⟨i,u⟩ h' ⟨rfl,hi,h9,hu,he⟩;simp only at hi h9 hu he ⊢;refine tW ?_
 (refine tG ?_;refine oB fun b hb=>?_;cases b)
 case false=>
  have hil:i=bs.length:=by simp at hb;omega
  rw[hil,drop_length,Yqf]at he;rw[←he];refine tW ?_
  (first|apply Y3|apply lret_norm)
  ·exact rfl
  ·exact rfl
  ·exact rfl
  ·exact .refl
  ·simp
 have hil:i<bs.length:=by simpa using hb
 rw[drop_eq_getElem_cons hil,Yqf]at he;have hc8:bs[i].toNat<256:=bs[i].toNat_lt;have hp7:2^(7*i)≤2^63:=Nat.pow_le_pow_right (by omega) (by omega);refine tV ?_;apply o_iaV rfl rfl rfl hv (by omega) (by omega);intro p hp;replace hp:VPtr h' p [.int .u8 ((bs[i].toNat:Nat):Int)]:=Yqt (i:=i) rfl hil hp;apply Ydb rfl rfl hp (fun h=>by omega);generalize bs[i].toNat=c at he hc8 ⊢;refine tv ?_;refine tv ?_
 ((with_reducible apply X8);(with_reducible apply X0))
 apply Jc (σ:=Unit) (fun _=>[(5,.int .u64 (u:Int)),(6,.int .i64 (i:Int)),(7,.int .u8 (c:Int)),(9,v),(10,.int .i64 (bs.length:Int)),(11,.int .i64 (i:Int))]) (fun _ h2=>h2=h'∧(i=9→c≤1))
 ·refine tW ?_
  (refine tG ?_;refine oB fun b1 h1=>?_;cases b1)
  ·have hn:i≠9:=by simp at h1;omega
   refine tW ?_;exact⟨(),tU,rfl,rfl,fun h=>absurd h hn⟩
  ·have hn:i=9:=by simp at h1;omega
   refine tW ?_
   (refine tG ?_;refine oB fun b2 h2=>?_;cases b2)
   ·have hc:c≤1:=by simp at h2;omega
    refine tW ?_;exact⟨(),tU,rfl,rfl,fun _=>hc⟩
   ·have hc:1<c:=by simp at h2;omega
    rw[if_pos ⟨hn,hc⟩]at he;rw[←he];refine tW ?_
    (first|apply Y3|apply lret_norm)
    ·exact rfl
    ·exact rfl
    ·exact rfl
    ·exact .refl
    ·simp
 rintro _ h2 ⟨rfl,hc9⟩;rw[if_neg (by omega)]at he;have hm:c%128*2^(7*i)<18446744073709551616:=by
  rcases Nat.lt_or_ge i 9 with h|h
  ·have h1:c%128*2^(7*i)≤127*2^(7*i):=Zr _ (by omega);have h2:2^(7*i)≤2^56:=Nat.pow_le_pow_right (by omega) (by omega);omega
  ·have h1:=hc9 (by omega);have h3:c%128*2^(7*i)≤1*2^(7*i):=Zr _ (by omega);omega
 have hU:u+c%128*2^(7*i)<18446744073709551616:=by
  have h1:u ||| c%128*2^(7*i)<2^64:=Nat.or_lt_two_pow (by omega) (by omega)
  have e2:u ||| c%128*2^(7*i)=u+c%128*2^(7*i):=by
   rw[←Nat.shiftLeft_eq,Nat.or_comm,Nat.add_comm,Nat.shiftLeft_add_eq_or_of_lt hu]
  omega
 refine tV ?_;apply Y1 rfl rfl trivial (and127 hc8)
 (refine tG ?_;(with_reducible apply o_cvN (a:=c%128));exact rfl;exact rfl;exact wu64 (by omega) (by omega))
 refine tV ?_
 (refine tG ?_;(with_reducible apply o_mulN (a:=7) (b:=i));exact rfl;exact rfl;exact rfl;exact w64 (by omega) (by omega))
 apply Y1 rfl rfl (show(0:Int)≤((7*i:Nat):Int) by omega) (shlu64 (k:=7*i) rfl (by omega) hm);apply Y1 rfl rfl trivial (oru64 hu hm (by omega));have hU2:127<c→i<9→u+c%128*2^(7*i)<2^(7*(i+1)):=by
  intro _ _;have hp:2^(7*(i+1))=128*2^(7*i):=by rw[Nat.mul_add,Nat.pow_add,Nat.mul_comm]
  have hm:c%128*2^(7*i)≤127*2^(7*i):=Zr _ (by omega);omega
 generalize u+c%128*2^(7*i)=U at he hU hU2 ⊢;refine tW ?_
 (refine tG ?_;refine oB fun b3 h3=>?_;cases b3)
 case true=>
  have hc:127<c:=by simp at h3;omega
  rw[if_pos hc]at he;refine tW ?_;rw[w64 (n:=(i:Int)+1) (by omega) (by omega)];exact⟨(i+1,U),by simp only;omega,tU,rfl,rfl,hil,by omega,hU2 hc (by omega),he⟩
 have hc:¬ 127<c:=by simp at h3;omega
 rw[if_neg hc]at he
 ((with_reducible apply X8);(with_reducible apply X0);(with_reducible apply Yb6);exact rfl;(with_reducible apply Yci);(with_reducible apply X0))
 apply Jc (σ:=Unit) (fun _=>[(5,.int .u64 (U:Int)),(6,.int .i64 (i:Int))]) (fun _ h3=>h3=h2∧¬(0<i∧c=0))
 ·refine tW ?_
  (refine tG ?_;refine oB fun b1 h1=>?_;cases b1)
  ·have hn:i=0:=by simp at h1;omega
   refine tW ?_;exact⟨(),tU,rfl,rfl,by omega⟩
  ·have hn:0<i:=by simp at h1;omega
   refine tW ?_
   (refine tG ?_;refine oB fun b2 h2=>?_;cases b2)
   ·have hc:c≠0:=by simp at h2;omega
    refine tW ?_;exact⟨(),tU,rfl,rfl,by omega⟩
   ·have hc:c=0:=by simp at h2;omega
    rw[if_pos ⟨hn,hc⟩]at he;rw[←he];refine tW ?_
    (first|apply Y3|apply lret_norm)
    ·exact rfl
    ·exact rfl
    ·exact rfl
    ·exact .refl
    ·simp
 rintro _ h4 ⟨rfl,hc0⟩;rw[if_neg hc0]at he;rw[←he];refine tV ?_
 (refine tG ?_;(with_reducible apply Ykl (a:=U) (b:=1));exact rfl;exact rfl;exact rfl;(decide))
 (refine tG ?_;(with_reducible apply o_cvN (a:=U/2^1));exact rfl;exact rfl;exact w64 (by omega) (by omega))
 refine tv ?_
 ((with_reducible apply X8);(with_reducible apply X0))
 apply Jc (σ:=Unit) (fun _=>[(6,.int .i64 (i:Int)),(8,I (unzz U))]) (fun _ h3=>h3=h4)
 ·refine tV ?_;apply Y1 rfl rfl trivial (and1u64 hU)
  (refine tG ?_;refine oB fun b1 h1=>?_;cases b1)
  ·have e:U%2≠1:=by simp at h1;omega
   refine tW ?_;refine⟨(),Ka rfl (Ka ?_ Yg4),rfl,rfl⟩;unfold unzz;rw[if_neg e];rfl
  ·have e:U%2=1:=by simp at h1;omega
   refine tV ?_;apply Y1 rfl rfl trivial (not64 (m:=U/2^1) (by omega));refine tW ?_;refine⟨(),Ka rfl (Ka ?_ Yg4),rfl,rfl⟩;unfold unzz;rw[if_pos e];rfl
 rintro _ h5 rfl;refine tW ?_;rw[w64 (n:=(i:Int)+1) (by omega) (by omega)]
 (first|apply Y3|apply lret_norm)
 ·exact rfl
 ·exact rfl
 ·exact rfl
 ·exact .refl
 ·simp
end Go.Proofs
end
