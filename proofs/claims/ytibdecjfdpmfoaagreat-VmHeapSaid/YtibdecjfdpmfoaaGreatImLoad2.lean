import Derived.Test.YtibdecjfdpmfoaaGreatImVal12
section
open Go Go.Abs Go.Proofs.SlimCode Go.Img
set_option maxRecDepth 100000
namespace Go.Proofs
open List
end Go.Proofs
end
section
open Go Go.Abs Go.Proofs.SlimCode Go.Img
namespace Go.Img
open List
theorem Yk3{m:Image}{f:Nat}:Yjr m f (-1):=by cases f<;>simp[Yjr]
end Go.Img
set_option maxRecDepth 100000
namespace Go.Proofs
open List
theorem getD_at{α:Type}{l:List α}{i:Nat}{a:α}(h:i<l.length):l.getD i a=l[i]:=by rw[Zd,Zg h];rfl
end Go.Proofs
end
section
open Go Go.Abs Go.Proofs.SlimCode Go.Img
set_option maxRecDepth 100000
namespace Go.Proofs
open List
end Go.Proofs
end
section
open Go Go.Abs Go.Proofs.SlimCode Go.Img
namespace Go.Proofs
open List
variable {n:Int} {w:List Int} {i:Nat}
def smw (w:List Int):Image:={small with words:=w}
theorem Ypk:(smw w).classes.length=11:=by simp[smw,small]
theorem smw_at(hi:i<(smw w).classes.length):(smw w).classes[i]=X4 i:=by
 simp[smw,small]
theorem Yq5(h0:0≤n)(h1:n<11):IsT (smw w) n:=⟨h0,by rw[Ypk];omega⟩
theorem smw_c(h0:0≤n)(h1:n<11):cAt (smw w) n=X4 n.toNat:=by
 obtain⟨hk,e⟩:=Yk5 (Yq5 (w:=w) h0 h1);rw[e,smw_at]
theorem smw_gl:(smw w).given.length=10:=by simp[smw,small]
theorem smw_g(hi:i<(smw w).given.length):(smw w).given[i]=(i:Int):=by simp[smw,small]
theorem smw_code:Yhq (smw w) 0:=⟨⟨by decide,(by decide:(0:Int)<1)⟩,(by decide:0<1)⟩
theorem smw_given:Yoc (smw w):=by
 refine⟨smw_gl,fun i hi=>?_⟩;have h1:=smw_gl (w:=w);have g:=getD_at (a:=(0:Int)) hi;rw[smw_g hi]at g;refine⟨by rw[g];exact Yq5 (by omega) (by omega),fun hm=>?_,fun h0=>?_⟩
 ·rw[g]at hm;obtain⟨j,hj,e⟩:=mem_iff_getElem.1 hm;rw[length_take]at hj;rw[getElem_take,smw_g (by omega)]at e;omega
 ·rw[g,smw_c (by omega) (by omega)];unfold X4;simp only[Zn];rw[Zt h0,Zt (show i<10 by omega)];rfl
theorem smw_first:FirstP (smw w):=by
 refine⟨⟨⟨by rw[Ypk];omega,by rw[Ypk];omega⟩,(by decide:1≤400),(by decide:2≤200),rfl⟩,smw_given,fun i hi=>?_,⟨smw_code,rfl,rfl⟩,.inl rfl⟩;rw[smw_at hi];exact Yk3
theorem smw_kinds:∀i,(hi:i<(smw w).classes.length)→Yr6 (smw w) i (smw w).classes[i]:=by
 intro i hi;have h1:=Ypk (w:=w);rw[smw_at hi];refine⟨.inl rfl,by simp[X4],⟨fun s hs=>?_,fun j hj=>?_,by simp[X4]⟩,⟨by simp[X4],fun s hs=>?_⟩,⟨fun j hj=>?_,fun s hs=>?_⟩,?_⟩
 ·obtain rfl:s=(i:Int):=by simpa[X4]using hs
  exact Yq5 (by omega) (by omega)
 ·simp[X4]at hj
 ·simp[X4]at hs
 ·simp[X4]at hj
 ·simp[X4]at hs
 ·unfold X4 ArrP Yjq;simp only;by_cases h:i=10
  ·simp only[if_pos h];exact⟨by omega,.inl ⟨trivial,Yq5 (by omega) (by omega)⟩,.inr rfl⟩
  ·simp only[if_neg h];exact⟨by omega,.inr ⟨by omega,trivial⟩,.inl trivial⟩
theorem smw_meths:∀x∈(smw w).methods,MethP (smw w) x:=by
 intro x hx;obtain rfl:x=⟨0,0,0,false,[(46,0,0,0)],[]⟩:=by simpa[smw,small]using hx
 refine⟨by decide,by decide,by decide,fun _=>⟨by decide,by decide,?_⟩,fun t ht=>(by cases ht),fun i hi=>?_⟩
 ·exact .inr (.inl rfl)
 ·obtain rfl:i=(46,0,0,0):=by simpa using hi
  refine⟨by decide,?_,?_,?_,?_,?_,?_,?_,?_,?_,?_,?_,?_⟩<;>intro h<;>simp only at h<;>omega
theorem Yag(x:Int):K6 [0,0,10,1,x]=some [0,2]:=by
 have o0:Ob [0,0,10,1,x] 0:=⟨by simp,by unfold Yme;simp,by simp⟩;have o2:Ob [0,0,10,1,x] 2:=⟨by simp,by unfold Yme;simp,by simp⟩;unfold K6;rw[if_pos (by simp),Yg8 (by simp) o0];show(Yfk [0,0,10,1,x] 2).map _=_;rw[Yg8 (by simp) o2];show((Yfk [0,0,10,1,x] 5).map _).map _=_;rw[Ku (by simp)];rfl
theorem Yog(x:Int):Ybi (smw [0,0,10,1,x]) [0,2]=[4]:=by
 have c0:obC (smw [0,0,10,1,x]) 0=X4 0:=smw_c (n:=0) (by omega) (by omega);have c2:obC (smw [0,0,10,1,x]) 2=X4 10:=smw_c (n:=10) (by omega) (by omega);simp only[Ybi,flatMap_cons,flatMap_nil,Yga,Ycj,c0,c2];rfl
theorem Yfr:ValidP small:=by
 have e:small=smw [0,0,10,1,1]:=rfl;rw[e];refine⟨smw_first,smw_kinds,smw_meths,[0,2],Yag 1,⟨fun a ha=>?_,fun i hi hr=>?_,Yog 1,fun r hr=>?_⟩⟩
 ·rcases mem_cons.1 ha with rfl|ha
  ·exact⟨Yq5 (n:=0) (by omega) (by omega),fun _=>by rw[show obC (smw [0,0,10,1,1]) 0=X4 0 from smw_c (n:=0) (by omega) (by omega)];rfl⟩
  ·obtain rfl:=Zm.1 ha;refine⟨Yq5 (n:=10) (by omega) (by omega),fun h=>?_⟩;rw[show obC (smw [0,0,10,1,1]) 2=X4 10 from smw_c (n:=10) (by omega) (by omega)]at h;exact absurd h (by decide)
 ·have hi2:i<2:=hi;have:i=0∨i=1:=by omega
  rcases this with rfl|rfl
  ·cases hr
  ·exact .inr ⟨by decide,by decide⟩
 ·rw[Yog]at hr;obtain rfl:=Zm.1 hr;exact .inr ⟨by decide,by decide⟩
theorem bad_small:¬ValidP (smw [0,0,10,1,2]):=by
 intro h;obtain⟨l,e,H⟩:=h.heap;rw[show(smw [0,0,10,1,2]).words=[0,0,10,1,2] from rfl,Yag]at e;cases e;have:=H.refs 4 (by rw[Yog];simp);rcases this with h|⟨_,h⟩
 ·exact absurd h (by decide)
 ·exact absurd h (by decide)
theorem Yqu:¬ValidP noImage:=fun h=>absurd h.first.given.1 (by decide)
end Go.Proofs
end
section
open Go Go.Abs Go.Proofs.SlimCode Go.Img
set_option maxRecDepth 100000
namespace Go.Proofs
open List hiding cons nil
open Go.Proofs.Tryz
variable {o s:Nat} {α:Type} {k:Ya} {l:List α}
def i32b:AV→Bool
 |.int .i32 _=>true
 |_=>false
theorem Yaq{R R':Ya→List AV→α→Prop}{W W':List AV}{v:AV}(H:Sl R s k v l)(ho:k o=some (.cells W))(hlen:W'.length=W.length)
  (hR:∀c a,R k c a→R' (upd k o (some (.cells W'))) c a)(hne:∀off cs,Yp W off (l.length*s)=some cs→Chunks (R k) s cs l→l=[]):Sl R' s (upd k o (some (.cells W'))) v l:=by
 obtain⟨cs,c1,c2⟩:=H;refine⟨cs,?_,c2.imp hR⟩;have hl:=c2.len;have hz:∀off,Yp W off (l.length*s)=some cs→l=[]:=fun off e=>hne off cs e c2;generalize hn:l.length=n at *;cases c1 with
 |nil=>exact .nil
 |tsl _ _ h=>exact .tsl _ _ h
 |sl id off _ os _ hi hc=>
  by_cases e:id=o
  ·subst e;rw[ho]at hi;cases hi;have h0:=hz off hc;subst h0;obtain rfl:n=0:=by simpa using hn.symm
   refine .sl id off 0 W' _ upd_same ?_;unfold Yp at hc ⊢;simp only[Nat.zero_mul,Nat.add_zero,take_zero]at hc ⊢;rw[hlen];exact hc
  ·exact .sl id off _ os _ (by rw[Ys e];exact hi) hc
theorem Yef{R:Ya→List AV→α→Prop}{W:List AV}(hW:W.all i32b=true)(hh:∀c a,R k c a→∃x t,c=x::t∧i32b x=false):∀off cs,Yp W off (l.length*s)=some cs→Chunks (R k) s cs l→l=[]:=by
 intro off cs hc hch;cases hch with
 |nil=>rfl
 |@cons c cs a l h1 h2 h3=>
  exfalso;obtain⟨x,t,rfl,hx⟩:=hh c a (by assumption);unfold Yp at hc;split at hc
  ·have:=Option.some.inj hc;have hm:x∈W:=by
    have h4:x∈(W.drop off).take ((a::l).length*s):=by rw[this];simp
    exact mem_of_mem_drop (mem_of_mem_take h4)
   rw[all_eq_true.1 hW x hm]at hx;cases hx
  ·cases hc
def W5 (x:Int):List AV:=[.int .i32 0,.int .i32 0,.int .i32 10,.int .i32 1,.int .i32 x]
theorem img_poke{c:List AV}(H:RImg k c small)(hc:c[5]?=some (.sl o 0 5 1))(ho:k o=some (.cells (W5 1))):RImg (upd k o (some (.cells (W5 2)))) c (smw [0,0,10,1,2]):=by
 obtain⟨vc,vm,vg,vw,vr,vs,vf,rfl,h1,h2,h3,h4,h5,h6,h7⟩:=H;obtain rfl:vw= .sl o 0 5 1:=Option.some.inj hc;have hW:(W5 1).all i32b=true:=rfl;have i64:∀(c:List AV) (a:Int),RN .i64 k c a→∃x t,c=x::t∧i32b x=false:=fun c a h=>⟨_,_,(show c=[.int .i64 a] from h),rfl⟩;have bl:∀(c:List AV) (a:Bool),RB k c a→∃x t,c=x::t∧i32b x=false:=fun c a h=>⟨_,_,(show c=[.bool a] from h),rfl⟩;have pr:∀(c:List AV) (a:Int×Int),RPair k c a→∃x t,c=x::t∧i32b x=false:=fun c a h=>⟨_,_,(show c=[I a.1,I a.2] from h),rfl⟩;have fr:∀(c:List AV) (a:Kr),RFour k c a→∃x t,c=x::t∧i32b x=false:=fun c a h=>⟨_,_,(show c=[I a.1,I a.2.1,I a.2.2.1,I a.2.2.2] from h),rfl⟩;refine⟨vc,vm,vg,_,vr,vs,vf,rfl,Yaq h1 ho rfl (fun c a hca=>?_) (Yef hW fun c a hca=>?_),Yaq h2 ho rfl (fun c a hca=>?_) (Yef hW fun c a hca=>?_),Yaq h3 ho rfl (fun _ _ h=>h) (Yef hW i64),?_,Yaq h5 ho rfl (fun _ _ h=>h) (Yef hW i64),Yaq h6 ho rfl (fun _ _ h=>h) (fun off cs hs hch=>?_),Yaq h7 ho rfl (fun _ _ h=>h) (Yef hW bl)⟩
 ·obtain⟨w1,w2,w3,w4,e,u1,u2,u3,u4⟩:=hca;exact⟨w1,w2,w3,w4,e,Yaq u1 ho rfl (fun _ _ h=>h) (Yef hW bl),Yaq u2 ho rfl (fun _ _ h=>h) (Yef hW i64),Yaq u3 ho rfl (fun _ _ h=>h) (Yef hW i64),Yaq u4 ho rfl (fun _ _ h=>h) (Yef hW pr)⟩
 ·obtain⟨w1,w2,w3,w4,e,_⟩:=hca;exact⟨_,_,e,rfl⟩
 ·obtain⟨w1,w2,e,u1,u2⟩:=hca;exact⟨w1,w2,e,Yaq u1 ho rfl (fun _ _ h=>h) (Yef hW fr),Yaq u2 ho rfl (fun _ _ h=>h) (Yef hW fr)⟩
 ·obtain⟨w1,w2,e,_⟩:=hca;exact⟨_,_,e,rfl⟩
 ·exact⟨_,.sl o 0 5 _ _ upd_same rfl,.cons (c:=[_]) rfl rfl (.cons (c:=[_]) rfl rfl (.cons (c:=[_]) rfl rfl (.cons (c:=[_]) rfl rfl (.one rfl rfl))))⟩
 ·exfalso;have e:cs=[.int .i32 5,.int .i32 3]:=by
   change Chunks (RN .i32 k) 1 cs [5,3]at hch;cases hch with
   |@cons c1 cs1 _ _ _ a1 H1=>
    cases H1 with
    |@cons c2 cs2 _ _ _ a2 H2=>
     cases H2;rw[show c1=[.int .i32 5] from a1,show c2=[.int .i32 3] from a2];rfl
  subst e;have hs:Yp (W5 1) off 2=some [.int .i32 5,.int .i32 3]:=hs;unfold Yp at hs;split at hs
  ·rename_i hle;have hle:off+2≤5:=hle;have:off=0∨off=1∨off=2∨off=3:=by omega
   rcases this with rfl|rfl|rfl|rfl<;>simp[W5]at hs
  ·cases hs
theorem smw2_WF:(smw [0,0,10,1,2]).WF:={Qh with words:=⟨by simp[smw,Len],fun n hn=>by
 unfold I32;simp only[smw,mem_cons,not_mem_nil,or_false]at hn;omega⟩}
theorem Ypp(w:List Int):∀x∈(smw w).classes,x.faces.length≤1048577:=by
 intro x hx;obtain⟨i,hi,rfl⟩:=mem_map.1 hx;simp[X4]
theorem p74:PureC prog ann 216 [] (.bool true):=by
 refine Kf func216 Zw rfl rfl rfl ?_;refine tV ?_
 (refine tG ?_;(with_reducible apply Ykn);exact rfl;exact rfl;exact rfl;exact p14)
 refine tW ?_
 (first|apply Jk|apply sret_norm);exact Yb7 (vs:=[_]) rfl rfl
theorem p24:PureC prog ann 159 [] (.bool true):=by
 refine Kf func159 Zw rfl rfl rfl ?_;refine tV ?_;apply Yb rfl rfl rfl rfl (p27w (h:=hp0));rintro _ k1 ⟨_,c1,o1,rfl,hM1,_⟩;have hone1:=hM1.one;have hcl1:c1.length=9:=by obtain⟨_,_,_,_,_,_,_,rfl,_⟩:=hM1;rfl
 refine tW ?_;apply K8 rfl;intro b1 hb1;apply Ybr (v:= .agg c1) rfl rfl rfl rfl hcl1 hone1 upd_same (Yn (show c1.length=_ by rw[hcl1];rfl));rw[Xm];have e1:upd k1 b1 (some (.cells c1)) b1=some (.cells c1):=upd_same;replace hM1:=RImg.mono _ _ _ _ (.upd (o:= .cells c1) hb1) hM1;show Yu _ _ _ _ _ _ _ _ [b1] (upd k1 b1 (some (.cells c1))) _;generalize upd k1 b1 (some (.cells c1))=k2 at e1 hM1 ⊢;clear hb1;refine tV ?_;apply Yb rfl rfl rfl rfl p27w;rintro _ k3 ⟨hx3,c2,o2,rfl,hM2,hc2,ho2,hno⟩;have hone2:=hM2.one;have hcl2:c2.length=9:=by obtain⟨_,_,_,_,_,_,_,rfl,_⟩:=hM2;rfl
 refine tW ?_;apply K8 rfl;intro b2 hb2;apply Ybr (v:= .agg c2) rfl rfl rfl rfl hcl2 hone2 upd_same (Yn (show c2.length=_ by rw[hcl2];rfl));rw[Xm];have e2:upd k3 b2 (some (.cells c2)) b2=some (.cells c2):=upd_same;have n2:b2≠o2:=fun e=>by rw[e,ho2]at hb2;cases hb2
 replace hx3:=hx3.trans (.upd (o:= .cells c2) hb2);replace hM2:=RImg.mono _ _ _ _ (.upd (o:= .cells c2) hb2) hM2;replace ho2:=Ext.upd (o:= .cells c2) hb2 _ _ ho2;show Yu _ _ _ _ _ _ _ _ [b2,b1] (upd k3 b2 (some (.cells c2))) _;generalize upd k3 b2 (some (.cells c2))=k4 at e2 hM2 ho2 hx3 ⊢;clear hb2;refine tV ?_;apply Y2 rfl rfl e2 (fun h=>by omega) hc2;apply Yq (v:= .ptr o2 4) rfl rfl ⟨rfl,by decide,by decide⟩;apply Ybr (v:= .int .i32 2) (cs':=W5 2) rfl rfl rfl rfl rfl rfl ho2 rfl;have hx5:Ext k2 (upd k4 o2 (some (.cells (W5 2)))):=fun id o e=>by
  rw[Ys (fun h=>by rw[h,hno]at e;cases e)];exact hx3 _ _ e
 have hI2:=img_poke hM2 hc2 ho2;replace e2:upd k4 o2 (some (.cells (W5 2))) b2=some (.cells c2):=(Ys n2).trans e2;replace e1:=hx5 _ _ e1;replace hM1:=RImg.mono _ _ _ _ hx5 hM1;generalize upd k4 o2 (some (.cells (W5 2)))=k5 at e1 e2 hI2 hM1 ⊢;clear hx5 hx3 hno ho2 hM2;refine tV ?_;apply Ykn rfl rfl rfl p74;refine tW ?_;apply X3 rfl rfl e1 (fun h=>by omega) (Yw hcl1);refine tV ?_;apply Yb rfl rfl rfl rfl (p25 hM1 Qh (Ypp [0,0,10,1,1])).go;rintro _ k6 ⟨rfl,hy⟩;rw[Ym Yfr];refine tW ?_;apply X3 rfl rfl (hy _ _ e2) (fun h=>by omega) (Yw hcl2);refine tV ?_;apply Yb rfl rfl rfl rfl (p25 (RImg.mono _ _ _ _ hy hI2) smw2_WF (Ypp _)).go;rintro _ k7 ⟨rfl,hz⟩;rw[Yf bad_small];refine tW ?_;apply Yb rfl rfl rfl rfl (p25 (Yaj) Ye7 (fun x hx=>by cases hx)).go;rintro _ k8 ⟨rfl,hz⟩;rw[Yf Yqu];refine tW ?_;apply Jk;exact Yb7 (vs:=[_]) rfl rfl
end Go.Proofs
end
section
open Go Go.Abs Go.Proofs.SlimCode Go.Img
namespace Go.Img
open List hiding cons nil
variable {g:Bool} {m:Image} {by' fr:Int} {k:Nat}
def mvC (by' x:Int):Int:=if x=0 then 0 else w32 (x+by')
def mvG (fr x:Int):Bool:=decide (x=0)||decide (fr<x)
def Ycn (fr by':Int) (s:List Int×Bool) (r:Nat):List Int×Bool:=(s.1.set r (mvC by' (s.1.getD r 0)),s.2&&mvG fr (s.1.getD r 0))
def Ymp (fr by':Int) (f:List Bool) (s:List Int×Bool) (i:Nat):List Int×Bool:=if f.getD i false=true then Ycn fr by' s i else s
def mvW (fr by':Int) (m:Image) (k:Nat):List Int×Bool:=(m.rel.take k).foldl (fun s r=>Ycn fr by' s r.toNat) (m.words,true)
def mvS (fr by':Int) (m:Image) (g:Bool) (k:Nat):List Int×Bool:=(List.range k).foldl (Ymp fr by' m.statref) (m.stat,g)
def mvd (fr by':Int) (m:Image):Image:={m with words:=(mvW fr by' m m.rel.length).1,stat:=(mvS fr by' m (mvW fr by' m m.rel.length).2 m.stat.length).1}
def mvOk (fr by':Int) (m:Image):Bool:=(mvS fr by' m (mvW fr by' m m.rel.length).2 m.stat.length).2
theorem mvW_succ(hk:k<m.rel.length):mvW fr by' m (k+1)=Ycn fr by' (mvW fr by' m k) m.rel[k].toNat:=by
 unfold mvW;rw[take_add_one,Zg hk,foldl_append];rfl
theorem Ylq:mvS fr by' m g (k+1)=Ymp fr by' m.statref (mvS fr by' m g k) k:=by
 unfold mvS;rw[range_succ,foldl_append];rfl
theorem Yoq:∀k,(mvW fr by' m k).1.length=m.words.length:=by
 intro k;unfold mvW;generalize m.rel.take k=l
 suffices h:∀(s:List Int×Bool),(l.foldl (fun s r=>Ycn fr by' s r.toNat) s).1.length=s.1.length from h _
 induction l with
 |nil=>exact fun _=>rfl
 |cons r l ih=>exact fun s=>(ih _).trans (by simp[Ycn])
theorem Ylr:∀k,(mvS fr by' m g k).1.length=m.stat.length:=by
 intro k
 induction k with
 |zero=>rfl
 |succ k ih=>
  rw[Ylq];unfold Ymp;split
  ·simpa[Ycn]using ih
  ·exact ih
theorem w32_I(n:Int):I32 (w32 n):=by unfold I32 w32;omega
theorem mvC_I{x:Int}:I32 (mvC by' x):=by
 unfold mvC;split
 ·unfold I32;omega
 ·exact w32_I _
theorem Yp5{s:List Int×Bool}{r:Nat}(h:∀x∈s.1,I32 x):∀x∈(Ycn fr by' s r).1,I32 x:=by
 intro x hx;rcases mem_or_eq_of_mem_set hx with h1|rfl
 ·exact h x h1
 ·exact mvC_I
theorem mvW_I(hw:m.WF)(k:Nat):∀x∈(mvW fr by' m k).1,I32 x:=by
 unfold mvW;generalize m.rel.take k=l
 suffices h:∀(s:List Int×Bool),(∀x∈s.1,I32 x)→∀x∈(l.foldl (fun s r=>Ycn fr by' s r.toNat) s).1,I32 x from h _ hw.words.2
 induction l with
 |nil=>exact fun _ h=>h
 |cons r l ih=>exact fun s h=>ih _ (Yp5 h)
theorem mvS_I(hw:m.WF)(k:Nat):∀x∈(mvS fr by' m g k).1,I32 x:=by
 induction k with
 |zero=>exact hw.stat.2
 |succ k ih=>
  rw[Ylq];unfold Ymp;split
  ·exact Yp5 ih
  ·exact ih
theorem mvd_WF(hw:m.WF):(mvd fr by' m).WF:={hw with
 words:=⟨by have:=hw.words.1;unfold Len at *;rw[show(mvd fr by' m).words.length=_ from Yoq _];exact this,mvW_I hw _⟩
 stat:=⟨by have:=hw.stat.1;unfold Len at *;rw[show(mvd fr by' m).stat.length=_ from Ylr _];exact this,mvS_I hw _⟩}
end Go.Img
set_option maxRecDepth 100000
namespace Go.Proofs
open List
open Go.Proofs.Tryz
variable {K:Ya}
theorem upd2_or{b i:Nat}{o o' O O':AObj}(hb:K b=some o')(hi:K i=some O'):upd (upd K b (some o)) i (some O)=K∨∃id,K id≠none∧upd (upd K b (some o)) i (some O) id≠K id:=by
 by_cases e:upd (upd K b (some o)) i (some O)=K
 ·exact .inl e
 ·right;obtain⟨id,h⟩:∃id,upd (upd K b (some o)) i (some O) id≠K id:=Classical.byContradiction fun h=>e (funext fun id=>Classical.byContradiction fun h'=>h ⟨id,h'⟩);refine⟨id,fun h0=>h ?_,h⟩;have e1:id≠i:=fun e=>by rw[e,hi]at h0;cases h0
  have e2:id≠b:=fun e=>by rw[e,hb]at h0;cases h0
  rw[Ys e1,Ys e2]
theorem wrapC(x b:Int):IntKind.wrap .i32 (x+IntKind.wrap .i32 b)=Img.w32 (x+b):=by
 simp[IntKind.wrap,IntKind.bits,IntKind.signed,Img.w32];omega
theorem p144{i j b8 b4 b5:Nat}{cs:List AV}{x fr by':Int}{g:Bool}(hi:K i=some (.cells cs))(hx:cs[j]?=some (.int .i32 x))(h8:K b8=some (.cells [.bool g]))(h4:K b4=some (.cells [I fr]))(h5:K b5=some (.cells [I by']))
  (hn:i≠b8)(h32:I32 x):HCallC prog ann 115 [.ptr i j,.ptr b8 0,.ptr b4 0,.ptr b5 0] K fun v K'=>v= .tup []∧K'=upd (upd K b8 (some (.cells [.bool (g&&mvG fr x)]))) i (some (.cells (cs.set j (.int .i32 (mvC by' x))))):=by
 have n5:b5≠b8:=fun e=>by rw[e,h8]at h5;cases h5
 have hj:=(Zi.1 hx).1;refine Yz rfl func115 Zw rfl ?_;refine tV ?_;apply Y2 rfl rfl hi (fun h=>by omega) hx;refine oI (x≠0) (fun H=>?_) (fun H=>?_);rotate_left
 ·obtain rfl:x=0:=by omega
  refine tW ?_;have e:upd (upd K b8 (some (.cells [.bool (g&&mvG fr 0)]))) i (some (.cells (cs.set j (.int .i32 (mvC by' 0)))))=K:=by
   have e1:cs.set j (.int .i32 (mvC by' 0))=cs:=by
    apply ext_getElem?;intro n;rw[getElem?_set];split
    ·rename_i e;subst e;exact hx.symm
    ·rfl
   rw[e1,show(g&&mvG fr 0)=g by simp[mvG],Yic h8,Yic hi]
  (first|apply X7|apply Xx)
  ·exact(rfl:Yb8 _ []=some [])
  ·exact rfl
  ·rw[Yl];exact⟨rfl,e.symm⟩
  ·exact fun _=> .inl ⟨rfl,e.symm⟩
 have hg:mvG fr x=decide (fr<x):=by simp[mvG,H]
 have hc:mvC by' x=Img.w32 (x+by'):=if_neg H
 unfold I32 at h32
 ((with_reducible apply X8);(with_reducible apply X0))
 (with_reducible apply Ybf)
 exact rfl;refine Jc (σ:=Unit) (fun _=>[(0,.ptr i j),(3,.ptr b5 0)]) (fun _ h'=>h'=upd K b8 (some (.cells [.bool (g&&mvG fr x)]))) ?_ ?_
 ·refine tV ?_;apply Y2 rfl rfl h8 (fun _=>by rw[h8];simp) rfl;rw[hg];cases g with
  |false=>
   refine tW ?_;apply K7 rfl rfl rfl rfl rfl h8 (by decide);refine tW ?_;exact⟨(),tU,rfl,rfl⟩
  |true=>
   refine tW ?_;apply Y2 rfl rfl hi (fun _=>by rw[hi];simp) hx;refine tV ?_;apply Y1 (w:=I x) rfl rfl trivial (by rw[w64 (by omega) (by omega)]);refine tV ?_;apply Y2 rfl rfl h4 (fun _=>by rw[h4];simp) rfl;refine tV ?_;apply Yq rfl rfl trivial;apply Yq rfl rfl trivial;apply K7 rfl rfl rfl rfl rfl h8 (by decide);refine tW ?_;exact⟨(),tU,rfl,rfl⟩
 rintro _ _ rfl;have hi':upd K b8 (some (.cells [.bool (g&&mvG fr x)])) i=some (.cells cs):=(Ys hn).trans hi;have h5':upd K b8 (some (.cells [.bool (g&&mvG fr x)])) b5=some (.cells [I by']):=(Ys n5).trans h5;refine tV ?_;apply Y2 rfl rfl hi' (fun _=>by rw[hi'];simp) hx;apply Y2 rfl rfl h5' (fun _=>by rw[h5'];simp) rfl;apply Yq rfl rfl trivial;apply Y1 (w:= .int .i32 (mvC by' x)) rfl rfl trivial (by rw[wrapC,hc]);refine tV ?_;apply K7 rfl rfl rfl rfl rfl hi' hj;refine tW ?_
 (first|apply X7|apply Xx)
 ·exact(rfl:Yb8 _ []=some [])
 ·exact rfl
 ·rw[Yl];exact⟨rfl,rfl⟩
 ·intro _;rcases upd2_or (o:= .cells [.bool (g&&mvG fr x)]) (O:= .cells (cs.set j (.int .i32 (mvC by' x)))) h8 hi with e|e
  ·exact .inl ⟨rfl,e.symm⟩
  ·exact .inr e
theorem p90{h:Ya}{n:Int}:Looks prog ann 49 [I n] h (.bool (BP (0≤n∧n≤1048576))):=by
 refine Yo rfl func49 Zw rfl ?_;refine tV ?_;refine oI (0≤n) (fun H=>?_) (fun H=>?_);rotate_left
 ·refine tW ?_;exact noB rfl (fun h=>H h.1) .refl (by simp)
 refine tV ?_;refine oI (n≤1048576) (fun H2=>?_) (fun H2=>?_)
 ·refine tW ?_;exact Ycf rfl ⟨H,H2⟩ .refl (by simp)
 ·refine tW ?_;exact noB rfl (fun h=>H2 h.2) .refl (by simp)
end Go.Proofs
end
section
open Go Go.Abs Go.Proofs.SlimCode Go.Img
set_option maxRecDepth 100000
namespace Go.Proofs
open List
open Go.Proofs.Tryz
variable {s w:AV} {k:IntKind} {a b l:List Int} {r:Nat} {G h:Ya}
structure Own2 (h:Ya) (w s:AV) (a b:List Int) (G:Ya):Prop where
 o1:OSl h 1 w (Ygf .i32 a) a.length G
 o2:OSl h 1 s (Ygf .i32 b) b.length G
 dj:∀i∈Qm w,i∉Qm s
theorem own2_of{G1:Ya}(O1:OSl h 1 w (Ygf .i32 a) a.length G1)(O2:OSl G1 1 s (Ygf .i32 b) b.length G):Own2 h w s a b G:=⟨O1.upE O2.ext,O2.weaken O1.ext,fun i h1 h2=>by
 rcases O1.own with ⟨rfl,_⟩|⟨j,rfl,g1,g2,g3⟩
 ·cases h1
 rcases O2.own with ⟨rfl,_⟩|⟨k,rfl,k1,k2,k3⟩
 ·cases h2
 obtain rfl:=Zm.1 h1;obtain rfl:=Zm.1 h2;rw[g2]at k1;cases k1⟩
theorem Own2.symm(H:Own2 h w s a b G):Own2 h s w b a G:=⟨H.o2,H.o1,fun i h1 h2=>H.dj i h2 h1⟩
theorem nums_set{x:Int}:(Ygf k l).set r (.int k x)=Ygf k (l.set r x):=by unfold Ygf;rw[map_set]
theorem Own2.poke(H:Own2 h w s a b G)(hr:r<a.length):∃i,w= .sl i 0 a.length 1∧G i=some (.cells (Ygf .i32 a))∧∀x,Own2 h w s (a.set r x) b (upd G i (some (.cells ((Ygf .i32 a).set r (.int .i32 x))))):=by
 rcases H.o1.own with ⟨_,_,e⟩|⟨i,rfl,h1,h2,h3⟩
 ·omega
 refine⟨i,rfl,h2,fun x=>?_⟩;have hx:Ext h (upd G i (some (.cells ((Ygf .i32 a).set r (.int .i32 x))))):=fun id o e=>by
  rw[Ys fun e'=>by rw[e',h1]at e;cases e];exact H.o1.ext _ _ e
 refine⟨⟨hx,.inr ⟨i,by rw[length_set],h1,by rw[upd_same,nums_set],by simp[Ygf]⟩⟩,⟨hx,?_⟩,H.dj⟩;rcases H.o2.own with h0|⟨j,rfl,g1,g2,g3⟩
 ·exact .inl h0
 ·have:j≠i:=fun e=>H.dj i (.head _) (by rw[e];exact .head _);exact .inr ⟨j,rfl,g1,by rw[Ys this];exact g2,g3⟩
theorem nums_at(hr:r<l.length):(Ygf k l)[r]?=some (.int k (l.getD r 0)):=by
 unfold Ygf;rw[getElem?_map,Zg hr,Zd,Zg hr];rfl
abbrev LdL (b3 b4 b5 b6 b8:Nat) (g:Bool) (c:List AV) (fr by':Int):List (Nat×AObj):=[(b8,.cells [.bool g]),(b6,.cells Z9),(b5,.cells [I by']),(b4,.cells [I fr]),(b3,.cells c)]
theorem ld_poke{b3 b4 b5 b6 b8 i:Nat}{g g':Bool}{c:List AV}{fr by':Int}{o:AObj}(hD:Dis G (LdL b3 b4 b5 b6 b8 g c fr by'))(hi:G i≠none) :
  upd (upd (hset G (LdL b3 b4 b5 b6 b8 g c fr by')) b8 (some (.cells [.bool g']))) i (some o)=hset (upd G i (some o)) (LdL b3 b4 b5 b6 b8 g' c fr by')∧Dis (upd G i (some o)) (LdL b3 b4 b5 b6 b8 g' c fr by'):=by
 have hni:i∉(LdL b3 b4 b5 b6 b8 g' c fr by').map Prod.fst:=fun h=>hi (Ybo hD i h);refine⟨?_,Yk0 (Yap hD) fun id hid=>?_⟩
 ·rw[Yqc hni];show upd (upd (upd _ b8 _) b8 _) i _=_;rw[Xm];rfl
 ·rw[Ys fun e=>hni (by rw[←e];exact hid)];exact Ybo hD id hid
set_option maxHeartbeats 1000000 in
theorem p91 {h:Ya} {c:List AV} {m:Image} {fr by':Int} (hc:RImg h c m) (hw:m.WF) (hr:∀r∈m.rel,0≤r∧r.toNat<m.words.length) (hl:m.words.length≤1048576) (hs:m.stat.length≤1048576) :
  HCallC prog ann 50 [.agg c,I fr,I by'] h fun v h'=>Ext h h'∧∃c',v= .tup [.agg c',.bool (mvOk fr by' m)]∧RImg h' c' (mvd fr by' m):=by
 have hR:=hc;have hone:=hc.one;have lr:Len m.rel:=hw.rel.1;have lf:Len m.statref:=hw.statref;unfold Len at lr lf;obtain⟨vc,vm,vg,vw,vr,vs,vf,rfl,v1,v2,v3,v4,v5,v6,v7⟩:=hc;refine Yf7 rfl func50 Zw rfl ?_;refine tS ?_;show Yu _ _ _ _ _ _ _ _ _ (hset h []) _;apply Yln (v:= .agg [vc,vm,I m.entry,I m.need,vg,vw,vr,vs,vf]) Yfy rfl rfl hone;intro b3 hD;apply Yln (v:=I fr) hD rfl rfl rfl;intro b4 hD;apply Yln (v:=I by') hD rfl rfl rfl;intro b5 hD;apply Kc hD rfl;intro b6 hD;refine tA ?_;apply Kc hD rfl;intro b8 hD;apply Yna 0 hD rfl rfl rfl rfl rfl rfl (by decide);intro hD;show Yu _ _ _ _ _ _ _ _ [b8,b6,b5,b4,b3] (hset h (LdL b3 b4 b5 b6 b8 true [vc,vm,I m.entry,I m.need,vg,vw,vr,vs,vf] fr by')) _;change Dis h (LdL b3 b4 b5 b6 b8 true [vc,vm,I m.entry,I m.need,vg,vw,vr,vs,vf] fr by') at hD;refine tA ?_;refine Ymv (L:=LdL b3 b4 b5 b6 b8 true [vc,vm,I m.entry,I m.need,vg,vw,vr,vs,vf] fr by') [.A,.B,.A,.A,.B,.A,.A,.D,.A,.D] hD ?_;apply x_v rfl rfl trivial;apply Yqz 4 hD rfl rfl rfl rfl;apply x_callL hD rfl rfl rfl (p145o v4 hl);intro w G1 O1 hD;apply x_v rfl rfl trivial;apply Yqz 4 hD rfl rfl rfl rfl;apply x_callL hD rfl rfl rfl (p145o (v6.mono RN.mono O1.ext) hs);intro s G O2 hD;apply x_v rfl rfl trivial;apply Yj9 4 hD rfl rfl rfl rfl O1.ones (show 5<9 by decide);intro hD;apply x_v rfl rfl trivial;apply Yj9 4 hD rfl rfl rfl rfl O2.ones (show 7<9 by decide);intro hD;apply Yba;change Dis G (LdL b3 b4 b5 b6 b8 true [vc,vm,I m.entry,I m.need,vg,w,vr,s,vf] fr by') at hD;show ssq _ _ _ _ _ _ _ _ _ (hset G (LdL b3 b4 b5 b6 b8 true [vc,vm,I m.entry,I m.need,vg,w,vr,s,vf] fr by'));have O:Own2 h w s m.words m.stat G:=own2_of O1 O2;clear O1 O2;refine tA ?_;apply Yge 4 hD rfl rfl rfl rfl rfl;apply Y0 rfl rfl (v5.mono RN.mono (O.o1.ext.trans (Yr hD)));refine tA ?_;have hn0:(LdL b3 b4 b5 b6 b8 true [vc,vm,I m.entry,I m.need,vg,w,vr,s,vf] fr by').map Prod.fst=[b8,b6,b5,b4,b3]:=rfl;refine Xv (fun k:Nat=>[(3,.ptr b3 0),(6,.ptr b6 0),(8,.ptr b8 0),(9,.fn 115 [] [.ptr b8 0,.ptr b4 0,.ptr b5 0]),(23,vr),(24,I m.rel.length),(25,I (k:Int))]) (fun k h'=>k≤m.rel.length∧∃G,h'=hset G (LdL b3 b4 b5 b6 b8 (mvW fr by' m k).2 [vc,vm,I m.entry,I m.need,vg,w,vr,s,vf] fr by')∧Dis G (LdL b3 b4 b5 b6 b8 (mvW fr by' m k).2 [vc,vm,I m.entry,I m.need,vg,w,vr,s,vf] fr by')∧Own2 h w s (mvW fr by' m k).1 m.stat G) (fun k=>m.rel.length-k) 0 tU ⟨by omega,G,rfl,hD,O⟩ ?_;clear hD O;rintro k _ ⟨hk,G,rfl,hD,O⟩;refine tA ?_;refine oI (k<m.rel.length) (fun H=>?_) (fun H=>?_)
 ·have hsucc:=mvW_succ (fr:=fr) (by':=by') H;have hwl:=Yoq (fr:=fr) (by':=by') (m:=m) k;have hwI:=mvW_I (fr:=fr) (by':=by') hw k;have hr':=hr _ (getElem_mem H);refine tA ?_;apply Qg rfl rfl rfl (v5.mono RN.mono (O.o1.ext.trans (Yr hD))) H;intro p d hp hd _;obtain rfl:d=[I m.rel[k]]:=hd;apply Ji rfl rfl hp (.one rfl) (fun h=>by omega);generalize m.rel[k]=r at hsucc hr';generalize mvW fr by' m k=st at hsucc hwl hwI hD O ⊢
  obtain⟨a,g⟩:=st;simp only at hwl hwI hD O ⊢;obtain⟨i,rfl,hi,hup⟩:=O.poke (r:=r.toNat) (by rw[hwl];exact hr'.2);have hv:(Ygf .i32 a)[r.toNat]?=some (.int .i32 (a.getD r.toNat 0)):=nums_at (by rw[hwl];exact hr'.2);have hI:I32 (a.getD r.toNat 0):=by
   rw[Zd,Zg (by rw[hwl];exact hr'.2)];exact hwI _ (getElem_mem _)
  refine tA ?_;apply Y1 (w:= .bool false) rfl rfl trivial (by simp;omega);refine tA ?_;apply Yge 4 hD rfl rfl rfl rfl rfl;refine tA ?_;apply Y1 (w:= .bool false) rfl rfl trivial (by simp;omega);refine tA ?_;apply Yge 4 hD rfl rfl rfl rfl rfl;refine tA ?_;apply Y1 (w:= .ptr i r.toNat) rfl rfl ⟨rfl,hr'.1,by omega⟩ (by simp);refine tA ?_;have hni:i∉(LdL b3 b4 b5 b6 b8 g [vc,vm,I m.entry,I m.need,vg,.sl i 0 a.length 1,vr,s,vf] fr by').map Prod.fst:=fun e=>by rw[Ybo hD i e]at hi;cases hi
  apply Yb rfl rfl rfl rfl (p144 (g:=g) (fr:=fr) (by':=by') ((Kz hni).trans hi) hv (Xp (k:=0) hD rfl) (Xp (k:=3) hD rfl) (Xp (k:=2) hD rfl) (fun e=>hni (by rw[e];exact .head _)) hI);rintro _ _ ⟨rfl,rfl⟩;obtain⟨e1,e2⟩:=ld_poke (g':=g&&mvG fr (a.getD r.toNat 0)) (o:= .cells ((Ygf .i32 a).set r.toNat (.int .i32 (mvC by' (a.getD r.toNat 0))))) hD (by rw[hi];simp);rw[e1];refine tA ?_;apply Y1 (w:=I ((k+1:Nat):Int)) rfl rfl trivial (by rw[w64 (by omega) (by omega)];rfl);refine tA ?_;refine⟨k+1,by simp only;omega,tU,rfl,by omega,upd G i (some (.cells ((Ygf .i32 a).set r.toNat (.int .i32 (mvC by' (a.getD r.toNat 0)))))),?_,?_,?_⟩
  ·rw[hsucc];rfl
  ·rw[hsucc];exact e2
  ·rw[hsucc];exact hup _
 obtain rfl:k=m.rel.length:=by omega
 clear hk H;have ea:(mvW fr by' m m.rel.length).1=(mvd fr by' m).words:=rfl;have hok:mvOk fr by' m=(mvS fr by' m (mvW fr by' m m.rel.length).2 m.stat.length).2:=rfl
 have eb:(mvd fr by' m).stat=(mvS fr by' m (mvW fr by' m m.rel.length).2 m.stat.length).1:=rfl;rw[ea]at O;generalize mvW fr by' m m.rel.length=st at hD O hok eb ⊢
 obtain⟨a0,g0⟩:=st;simp only at hD O hok eb ⊢;refine tA ?_;apply Yge 4 hD rfl rfl rfl rfl rfl;apply Yec rfl rfl (O.o2.upE (Yr hD)).view;refine tA ?_;refine Xv (fun k:Nat=>[(3,.ptr b3 0),(6,.ptr b6 0),(8,.ptr b8 0),(9,.fn 115 [] [.ptr b8 0,.ptr b4 0,.ptr b5 0]),(48,I m.stat.length),(49,I (k:Int))]) (fun k h'=>k≤m.stat.length∧∃G,h'=hset G (LdL b3 b4 b5 b6 b8 (mvS fr by' m g0 k).2 [vc,vm,I m.entry,I m.need,vg,w,vr,s,vf] fr by')∧Dis G (LdL b3 b4 b5 b6 b8 (mvS fr by' m g0 k).2 [vc,vm,I m.entry,I m.need,vg,w,vr,s,vf] fr by')∧Own2 h w s (mvd fr by' m).words (mvS fr by' m g0 k).1 G) (fun k=>m.stat.length-k) 0 tU ⟨by omega,G,rfl,hD,O⟩ ?_;clear hD O;rintro k _ ⟨hk,G,rfl,hD,O⟩;refine tA ?_;refine oI (k<m.stat.length) (fun H=>?_) (fun H=>?_)
 ·have hsucc:=Ylq (fr:=fr) (by':=by') (m:=m) (g:=g0) (k:=k);have hwl:=Ylr (fr:=fr) (by':=by') (m:=m) (g:=g0) k;have hwI:=mvS_I (fr:=fr) (by':=by') (g:=g0) hw k;generalize mvS fr by' m g0 k=st at hsucc hwl hwI hD O ⊢
  obtain⟨b,g⟩:=st;simp only at hwl hwI hD O ⊢;refine tA ?_;apply Yge 4 hD rfl rfl rfl rfl rfl;apply Y0 rfl rfl (v7.mono RB.mono (O.o1.ext.trans (Yr hD)));unfold Ymp at hsucc;refine oI (k<m.statref.length) (fun H2=>?_) (fun H2=>?_);rotate_left
  ·rw[show m.statref.getD k false=false by rw[Zd,getElem?_eq_none (by omega)];rfl]at hsucc;simp only[Zf,if_false]at hsucc;refine tA ?_;apply Y1 (w:=I ((k+1:Nat):Int)) rfl rfl trivial (by rw[w64 (by omega) (by omega)];rfl);refine tA ?_;exact⟨k+1,by simp only;omega,tU,rfl,by omega,G,by rw[hsucc],by rw[hsucc];exact hD,by rw[hsucc];exact O⟩
  refine tA ?_;apply Yge 4 hD rfl rfl rfl rfl rfl;refine tA ?_;apply Qg rfl rfl rfl (v7.mono RB.mono (O.o1.ext.trans (Yr hD))) H2;intro p d hp hd _;obtain rfl:d=[.bool m.statref[k]]:=hd;refine tA ?_;apply Ji rfl rfl hp (.one rfl) (fun h=>by omega);rw[show m.statref.getD k false=m.statref[k] by rw[Zd,Zg H2];rfl]at hsucc;generalize m.statref[k]=f at hsucc;cases f with
  |false=>
   simp only[Zf,if_false]at hsucc;refine tA ?_;apply Y1 (w:=I ((k+1:Nat):Int)) rfl rfl trivial (by rw[w64 (by omega) (by omega)];rfl);refine tA ?_;exact⟨k+1,by simp only;omega,tU,rfl,by omega,G,by rw[hsucc],by rw[hsucc];exact hD,by rw[hsucc];exact O⟩
  |true=>
   simp only[if_true]at hsucc;obtain⟨i,rfl,hi,hup⟩:=O.symm.poke (r:=k) (by rw[hwl];exact H);have hv:(Ygf .i32 b)[k]?=some (.int .i32 (b.getD k 0)):=nums_at (by rw[hwl];exact H);have hI:I32 (b.getD k 0):=by
    rw[Zd,Zg (by rw[hwl];exact H)];exact hwI _ (getElem_mem _)
   refine tA ?_;apply Yge 4 hD rfl rfl rfl rfl rfl;refine tA ?_;apply Y1 (w:= .ptr i k) rfl rfl ⟨rfl,by omega,by omega⟩ (by simp);refine tA ?_;have hni:i∉(LdL b3 b4 b5 b6 b8 g [vc,vm,I m.entry,I m.need,vg,w,vr,.sl i 0 b.length 1,vf] fr by').map Prod.fst:=fun e=>by rw[Ybo hD i e]at hi;cases hi
   apply Yb rfl rfl rfl rfl (p144 (g:=g) (fr:=fr) (by':=by') ((Kz hni).trans hi) hv (Xp (k:=0) hD rfl) (Xp (k:=3) hD rfl) (Xp (k:=2) hD rfl) (fun e=>hni (by rw[e];exact .head _)) hI);rintro _ _ ⟨rfl,rfl⟩;obtain⟨e1,e2⟩:=ld_poke (g':=g&&mvG fr (b.getD k 0)) (o:= .cells ((Ygf .i32 b).set k (.int .i32 (mvC by' (b.getD k 0))))) hD (by rw[hi];simp);rw[e1];refine tA ?_;apply Y1 (w:=I ((k+1:Nat):Int)) rfl rfl trivial (by rw[w64 (by omega) (by omega)];rfl);refine tA ?_;refine⟨k+1,by simp only;omega,tU,rfl,by omega,upd G i (some (.cells ((Ygf .i32 b).set k (.int .i32 (mvC by' (b.getD k 0)))))),?_,?_,?_⟩
   ·rw[hsucc];rfl
   ·rw[hsucc];exact e2
   ·rw[hsucc];exact(hup _).symm
 obtain rfl:k=m.stat.length:=by omega
 rw[←eb]at O;rw[←hok]at hD ⊢;have hx:Ext h G:=O.o1.ext;have hcy:RImg G [vc,vm,I m.entry,I m.need,vg,w,vr,s,vf] (mvd fr by' m):=⟨vc,vm,vg,w,vr,s,vf,rfl,v1.mono RCls.mono hx,v2.mono RMth.mono hx,v3.mono RN.mono hx,⟨_,O.o1.view,Chunks.of_map⟩,v5.mono RN.mono hx,⟨_,O.o2.view,Chunks.of_map⟩,v7.mono RB.mono hx⟩;refine tA ?_;have hn:=Yap hD;have g3:=Xp (k:=4) hD rfl;have g6:=Xp (k:=1) hD rfl;have g8:=Xp (k:=0) hD rfl;refine Ybe [b6] [.F,.G,.E,.A] (fun id hid=>by obtain rfl:=Zm.1 hid;rw[g6];simp) rfl ?_;apply x_ldF (v:= .agg [vc,vm,I m.entry,I m.need,vg,w,vr,s,vf]) rfl rfl (.p b3 0 _ _ g3 (Yw rfl)) (.many rfl rfl);apply x_ldO rfl rfl g8 (fun h=>by obtain rfl:=Zm.1 h;exact absurd (.head _) (nodup_cons.1 hn).1) rfl;apply x_stE (v:= .agg [vc,vm,I m.entry,I m.need,vg,w,vr,s,vf]) (cs':=[vc,vm,I m.entry,I m.need,vg,w,vr,s,vf]) rfl rfl rfl rfl hcy.one g6 (.head _) (Yn rfl);rw[(Ygl (k:=1) hD rfl).1];replace hD:=(Ygl (k:=1) (o':= .cells [vc,vm,I m.entry,I m.need,vg,w,vr,s,vf]) hD rfl).2;apply x_v rfl rfl trivial;apply Yba;refine tA ?_;refine Ynt (vs:=[.agg [vc,vm,I m.entry,I m.need,vg,w,vr,s,vf],.bool (mvOk fr by' m)]) (.cells (m:=9) rfl (by kernel_rfl) (Xp (k:=1) hD rfl) rfl (.tmp rfl .nil)) rfl ?_ ?_
 ·have ek:=Kw hD;rw[show Yv [b8,b6,b5,b4,b3] _=G from ek];exact⟨hx,_,rfl,hcy⟩
 ·intro ht;exact .inl ⟨.refl,_,rfl,tr_i _ _ _ _ (by simpa[Yx,AV.tree,AV.trees]using ht) hcy⟩
end Go.Proofs
end
