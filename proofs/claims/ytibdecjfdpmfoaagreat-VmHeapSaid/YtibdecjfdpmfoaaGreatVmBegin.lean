import Derived.Test.YtibdecjfdpmfoaaGreatImLoad2
import Derived.Test.YtibdecjfdpmfoaaGreatVmTable
section
open Go Go.Abs Go.Proofs.SlimCode Go.Img
namespace Go.Img
open List
theorem Yqj{α:Type}{e:α→B}{a:α}:∀{l:List α},a∈l→(e a).length≤(l.flatMap e).length
 |b::l,h=>by
  rw[flatMap_cons,length_append];rcases mem_cons.1 h with rfl|h
  ·omega
  ·have:=Yqj (e:=e) h;omega
theorem faces_le{m:Image}(h:size m≤1048576):∀x∈m.classes,x.faces.length≤1048577:=by
 intro x hx;have h1:=Yqj (e:=Ykz) hx;have h2:x.faces.length≤(x.faces.flatMap Yfx).length:=Proofs.flat_ge (fun a=>by unfold Yfx;rw[length_append];have:=Proofs.put_ge a.1;omega) _;have h3:(x.faces.flatMap Yfx).length≤(Ykz x).length:=by
  unfold Ykz Y4;simp only[length_append];omega
 have h4:(m.classes.flatMap Ykz).length≤size m:=by
  unfold size body;rw[length_append];unfold Y4;rw[length_append];omega
 omega
end Go.Img
set_option maxRecDepth 100000
namespace Go.Proofs
open List
open Go.Proofs.Tryz
variable {m:Image} {h:Ya}
open Classical in
noncomputable def Kv (bs:B) (a:Int):Int×Image×Int:=match Img.decode bs with
 |none=>(6,noImage,0)
 |some m=>if ValidP m then(if 0≤a∧a≤1048576 then(0,mvd 0 a m,a) else(9,noImage,0)) else(1,noImage,0)
theorem Yd4(h:ValidP m):(∀r∈m.rel,0≤r∧r.toNat<m.words.length)∧m.words.length≤1048576∧m.stat.length≤1048576:=by
 obtain⟨l,h1,h2⟩:=h.heap;refine⟨fun r hr=>?_,?_,by have:=h.first.sizes.2.2.1;omega⟩
 ·rw[←h2.rel]at hr;exact Ypu (fun x hx=>by
   unfold K6 at h1;split at h1
   ·exact Yle _ _ _ (Zl _) h1 x hx
   ·cases h1) hr
 ·unfold K6 at h1;split at h1
  ·assumption
  ·cases h1
abbrev Z10:List AV:=Z9++[I 0]
def LoadQ (x:Int×Image×Int) (h:Ya):AV→Ya→Prop:=fun r h'=>Ext h h'∧∃c,r= .tup [.agg (c++[I x.2.2]),I x.1]∧RImg h' c x.2.1
theorem Yby{l:List AV}{n:Int}(h:l.all AV.one=true):(l++[I n]).all AV.one=true:=by rw[all_append,h];rfl
theorem p29{v:AV}{bs:B}{a:Int}(hv:VSl h 1 v (ubs bs) bs.length)(hl:bs.length≤9223372036854775807):HCallC prog ann 26 [v,I a] h (LoadQ (Kv bs a) h):=by
 refine Yf7 rfl func26 Zw rfl ?_;refine tA ?_;show Yu _ _ _ _ _ _ _ _ _ (hset h []) _;apply Kc Yfy rfl;intro b4 hD;refine tA ?_;apply Q5 hD rfl rfl rfl rfl (p17 hv hl);rintro _ k1 ⟨hx1,c,e,m,rfl,hR,hw,hcase⟩ hD;have hR0:=hR;obtain⟨vc,vm,vg,vw,vr,vs,vf,rfl,_⟩:=hR0;refine tA ?_;apply Kc hD rfl;intro b6 hD;apply Ju (v:= .agg [vc,vm,I m.entry,I m.need,vg,vw,vr,vs,vf]) (cs':=[vc,vm,I m.entry,I m.need,vg,vw,vr,vs,vf]) 0 hD rfl rfl rfl rfl rfl rfl hR.one (Yn rfl);intro hD;show Yu _ _ _ _ _ _ _ _ [b6,b4] (hset k1 [(b6,.cells [vc,vm,I m.entry,I m.need,vg,vw,vr,vs,vf]),(b4,.cells Z10)]) _;change Dis k1 [(b6,.cells [vc,vm,I m.entry,I m.need,vg,vw,vr,vs,vf]),(b4,.cells Z10)]at hD;have fin:∀(k:Ya) (E:Env) (c6 c':List AV) (x:Int×Image×Int),lk E 4=some (.ptr b4 0)→lk E 5=some (I x.1)→c'.length=9→Ext h k→RImg k c' x.2.1→Kv bs a=x→Dis k [(b6,.cells c6),(b4,.cells (c'++[I x.2.2]))]→hretR prog ann 26 f26.results.toList h (LoadQ (Kv bs a) h) .ret E [b6,b4] (hset k [(b6,.cells c6),(b4,.cells (c'++[I x.2.2]))]):=by
  intro k E c6 c' x e4 e5 hc' hk hr hx hD;rw[hx];refine Ynt (vs:=[.agg (c'++[I x.2.2]),I x.1]) (.cells (m:=10) e4 (by kernel_rfl) (Xp (k:=1) hD rfl) (Yw (by simp[hc'])) (.tmp e5 .nil)) rfl ?_ ?_
  ·rw[show Yv [b6,b4] _=k from Kw hD];exact⟨hk,c',rfl,hr⟩
  ·intro ht;refine .inl ⟨.refl,c',rfl,tr_i _ _ _ _ ?_ hr⟩;have:=ht;simp only[Yx,AV.tree,AV.trees,Ybv,Za]at this;exact this.1.1
 rcases hcase with ⟨rfl,hd⟩|⟨rfl,hd,rfl⟩;rotate_left
 ·have e:Kv bs a=(6,noImage,0):=by unfold Kv;rw[hd]
  refine tW ?_;apply Ju (v:= .agg Z10) (cs':=Z10) 1 hD rfl rfl rfl rfl rfl rfl rfl (Yn rfl);intro hD;refine tW ?_;exact fin k1 _ _ Z9 _ rfl rfl rfl hx1 Yaj e hD
 have hsz:=(Yo4 hd).2;refine tW ?_;apply Yed 0 hD rfl rfl rfl rfl rfl;apply Q5 hD rfl rfl rfl rfl (p25 hR hw (faces_le hsz)).go;rintro _ k3 ⟨rfl,hy⟩ hD;replace hx1:=hx1.trans hy;replace hR:=RImg.mono _ _ _ _ hy hR;clear hy;by_cases hV:ValidP m;rotate_left
 ·have e:Kv bs a=(1,noImage,0):=by unfold Kv;rw[hd];simp only[if_neg hV]
  rw[Yf hV];refine tW ?_;apply Ju (v:= .agg Z10) (cs':=Z10) 1 hD rfl rfl rfl rfl rfl rfl rfl (Yn rfl);intro hD;refine tW ?_;exact fin k3 _ _ Z9 _ rfl rfl rfl hx1 Yaj e hD
 rw[Ym hV];refine tW ?_;apply Q5 hD rfl rfl rfl rfl p90.go;rintro _ k4 ⟨rfl,hy⟩ hD;replace hx1:=hx1.trans hy;replace hR:=RImg.mono _ _ _ _ hy hR;clear hy;by_cases hB:0≤a∧a≤1048576;rotate_left
 ·have e:Kv bs a=(9,noImage,0):=by unfold Kv;rw[hd];simp only[if_pos hV,if_neg hB]
  rw[Yf hB];refine tW ?_;apply Ju (v:= .agg Z10) (cs':=Z10) 1 hD rfl rfl rfl rfl rfl rfl rfl (Yn rfl);intro hD;refine tW ?_;exact fin k4 _ _ Z9 _ rfl rfl rfl hx1 Yaj e hD
 have e:Kv bs a=(0,mvd 0 a m,a):=by unfold Kv;rw[hd];simp only[if_pos hV,if_pos hB]
 rw[Ym hB];refine tW ?_;apply Yed 0 hD rfl rfl rfl rfl rfl;refine tW ?_;apply Q5 hD rfl rfl rfl rfl (p91 hR hw (Yd4 hV).1 (Yd4 hV).2.1 (Yd4 hV).2.2);rintro _ k5 ⟨hy,c',rfl,hR'⟩ hD;replace hx1:=hx1.trans hy;have hR0:=hR';obtain⟨wc,wm,wg,ww,wr,ws,wf,rfl,_⟩:=hR0;refine tW ?_;apply Ju (v:= .agg [wc,wm,I _,I _,wg,ww,wr,ws,wf]) (cs':=[wc,wm,I _,I _,wg,ww,wr,ws,wf]) 0 hD rfl rfl rfl rfl rfl rfl hR'.one (Yn rfl);intro hD;refine tW ?_;apply Yed 0 hD rfl rfl rfl rfl rfl;refine tW ?_;apply Ju (v:= .agg [wc,wm,I _,I _,wg,ww,wr,ws,wf,I a]) (cs':=[wc,wm,I _,I _,wg,ww,wr,ws,wf,I a]) 1 hD rfl rfl rfl rfl rfl rfl (Yby hR'.one) (Yn rfl);intro hD;refine tW ?_;exact fin k5 _ _ [wc,wm,I _,I _,wg,ww,wr,ws,wf] (0,mvd 0 a m,a) rfl rfl rfl hx1 hR' e hD
open Classical in
noncomputable def Yco (m:Image) (b a:Int):Bool×Image×Int:=if 0≤a∧a≤1048576 then(if mvOk b (a-b) m=true then(true,mvd b (a-b) m,a) else(false,noImage,0)) else(false,noImage,0)
def MoveQ (x:Bool×Image×Int) (h:Ya):AV→Ya→Prop:=fun r h'=>Ext h h'∧∃c,r= .tup [.agg (c++[I x.2.2]),.bool x.1]∧RImg h' c x.2.1
theorem p31{c:List AV}{a b:Int}(hR:RImg h c m)(hw:m.WF)(hr:∀r∈m.rel,0≤r∧r.toNat<m.words.length)(hl:m.words.length≤1048576)(hs:m.stat.length≤1048576)(hb:0≤b∧b≤1048576) :
  HCallC prog ann 66 [.agg (c++[I b]),I a] h (MoveQ (Yco m b a) h):=by
 have hR0:=hR;obtain⟨vc,vm,vg,vw,vr,vs,vf,rfl,_⟩:=hR0;refine Yf7 rfl func66 Zw rfl ?_;refine tS ?_;apply Yq rfl rfl (Yby hR.one);show Yu _ _ _ _ _ _ _ _ _ (hset h []) _;apply Kc Yfy rfl;intro b4 hD;have fin:∀(k:Ya) (E:Env) (c':List AV) (L:List (Nat×AObj)) (n:Nat) (x:Bool×Image×Int),lk E 4=some (.ptr b4 0)→lk E 5=some (.bool x.1)→c'.length=9→Ext h k→RImg k c' x.2.1→Yco m b a=x→Dis k L→L[n]?=some (b4,.cells (c'++[I x.2.2]))→hretR prog ann 66 f66.results.toList h (MoveQ (Yco m b a) h) .ret E (L.map Prod.fst) (hset k L):=by
  intro k E c' L n x e4 e5 hc' hk hr hx hD hL;rw[hx];refine Ynt (vs:=[.agg (c'++[I x.2.2]),.bool x.1]) (.cells (m:=10) e4 (by kernel_rfl) (Xp hD hL) (Yw (by simp[hc'])) (.tmp e5 .nil)) rfl ?_ ?_
  ·rw[Kw hD];exact⟨hk,c',rfl,hr⟩
  ·intro ht;refine .inl ⟨.refl,c',rfl,tr_i _ _ _ _ ?_ hr⟩;have:=ht;simp only[Yx,AV.tree,AV.trees,Ybv,Za]at this;exact this.1.1
 refine tA ?_;apply Q5 hD rfl rfl rfl rfl p90.go;rintro _ k1 ⟨rfl,hx1⟩ hD;by_cases hB:0≤a∧a≤1048576;rotate_left
 ·have e:Yco m b a=(false,noImage,0):=by unfold Yco;rw[if_neg hB]
  rw[Yf hB];refine tW ?_;apply Ju (v:= .agg Z10) (cs':=Z10) 0 hD rfl rfl rfl rfl rfl rfl rfl (Yn rfl);intro hD;refine tW ?_;exact fin k1 _ Z9 [_] 0 _ rfl rfl rfl hx1 Yaj e hD rfl
 rw[Ym hB];refine tW ?_;rw[w64 (n:=a-b) (by omega) (by omega)];apply Q5 hD rfl rfl rfl rfl (p91 (RImg.mono _ _ _ _ hx1 hR) hw hr hl hs);rintro _ k2 ⟨hy,c',rfl,hR'⟩ hD;replace hx1:=hx1.trans hy;have hR0:=hR';obtain⟨wc,wm,wg,ww,wr,ws,wf,rfl,_⟩:=hR0;refine tW ?_;apply Kc hD rfl;intro b6 hD;apply Ju (v:= .agg [wc,wm,I _,I _,wg,ww,wr,ws,wf]) (cs':=[wc,wm,I _,I _,wg,ww,wr,ws,wf]) 0 hD rfl rfl rfl rfl rfl rfl hR'.one (Yn rfl);intro hD;cases hok:mvOk b (a-b) m with
 |false=>
  have e:Yco m b a=(false,noImage,0):=by unfold Yco;rw[if_pos hB,if_neg (by rw[hok];simp)]
  refine tW ?_;apply Ju (v:= .agg Z10) (cs':=Z10) 1 hD rfl rfl rfl rfl rfl rfl rfl (Yn rfl);intro hD;refine tW ?_;exact fin k2 _ Z9 [_,_] 1 _ rfl rfl rfl hx1 Yaj e hD rfl
 |true=>
  have e:Yco m b a=(true,mvd b (a-b) m,a):=by unfold Yco;rw[if_pos hB,if_pos hok]
  refine tW ?_;apply Yed 0 hD rfl rfl rfl rfl rfl;refine tW ?_;apply Ju (v:= .agg [wc,wm,I _,I _,wg,ww,wr,ws,wf,I a]) (cs':=[wc,wm,I _,I _,wg,ww,wr,ws,wf,I a]) 1 hD rfl rfl rfl rfl rfl rfl (Yby hR'.one) (Yn rfl);intro hD;refine tW ?_;exact fin k2 _ [wc,wm,I _,I _,wg,ww,wr,ws,wf] [_,_] 1 (true,mvd b (a-b) m,a) rfl rfl rfl hx1 hR' e hD rfl
end Go.Proofs
end
section
open Go Go.Abs Go.Proofs.SlimCode Go.Img
set_option maxRecDepth 100000
namespace Go.Proofs
open List
open Go.Proofs.Tryz
variable {m:Image} {a:Int}
theorem p16v{h:Ya}{c:List AV}(hc:RImg h c m)(hw:m.WF)(hb:(Img.body m).length≤50000):HCallC prog ann 27 [.agg c] h fun v h'=>OSl h 1 v (ubs (Qy m)) (Qy m).length h':=
 (p16 hc hw (by omega)).mono fun v h' q=>by
  rcases q with ⟨_,O⟩|⟨hq,_⟩
  ·exact O
  ·exfalso;unfold size at hq;omega
theorem Yez:(Img.body small).length≤50000:=Yd8 Qh Ybb
theorem enc_len(h:(Img.body m).length≤50000):(Qy m).length≤9223372036854775807:=by rw[Ya9];unfold size;omega
theorem Yrm(h:0≤a∧a≤1048576):Kv (Qy small) a=(0,mvd 0 a small,a):=by
 unfold Kv;rw[Ygv];simp only[if_pos Yfr,if_pos h]
theorem load_low:Kv (Qy small) (-1)=(9,noImage,0):=by
 unfold Kv;rw[Ygv];simp only[if_pos Yfr];rw[if_neg (by omega)]
theorem load_nil:Kv [] a=(6,noImage,0):=by
 unfold Kv;rw[Yqq]
theorem Yop:(Img.body noImage).length≤50000:=by simp[Img.body,Y4,noImage,put,zz,leb]
theorem load_no:Kv (Qy noImage) a=(1,noImage,0):=by
 unfold Kv;rw[Ydo Ye7 (by have:=Yop;unfold size;omega)];simp only[if_neg Yqu]
theorem p89:PureC prog ann 83 [] (.bool true):=by
 refine Kf func83 Zw rfl rfl rfl ?_;refine tV ?_
 (refine tG ?_;(with_reducible apply Ykn);exact rfl;exact rfl;exact rfl;exact p24)
 refine tW ?_
 (first|apply Jk|apply sret_norm);exact Yb7 (vs:=[_]) rfl rfl
theorem small_rel:∀r∈small.rel,0≤r∧r.toNat<small.words.length:=by decide
theorem mv100:mvd 0 100 small={small with words:=[0,0,10,1,101],stat:=[5,103]}:=rfl
theorem mv100_rel:∀r∈(mvd 0 100 small).rel,0≤r∧r.toNat<(mvd 0 100 small).words.length:=by rw[mv100];exact small_rel
theorem move100:Yco (mvd 0 100 small) 100 0=(true,small,0):=by
 have e:mvd 100 (0-100) (mvd 0 100 small)=small:=rfl;have e2:mvOk 100 (0-100) (mvd 0 100 small)=true:=rfl;unfold Yco;rw[if_pos (by omega),if_pos e2,e]
theorem p28:PureC prog ann 44 [] (.bool true):=by
 refine Kf func44 Zw rfl rfl rfl ?_;refine tA ?_;show Yu _ _ _ _ _ _ _ _ _ (hset hp0 []) _;apply Q5 Yfy rfl rfl rfl rfl p27;rintro _ k1 ⟨_,c1,rfl,hM⟩ hD;have hM0:=hM;obtain⟨vc,vm,vg,vw,vr,vs,vf,rfl,_⟩:=hM0;refine tA ?_;apply Kc hD rfl;intro b1 hD;apply Ju (v:= .agg [vc,vm,I _,I _,vg,vw,vr,vs,vf]) (cs':=[vc,vm,I _,I _,vg,vw,vr,vs,vf]) 0 hD rfl rfl rfl rfl rfl rfl hM.one (Yn rfl);intro hD;refine tA ?_;apply Yed 0 hD rfl rfl rfl rfl rfl;apply Q5 hD rfl rfl rfl rfl (p16v hM Qh Yez);rintro e1 k2 O hD;replace hM:=RImg.mono _ _ _ _ O.ext hM;apply Q5 hD rfl rfl rfl rfl (p29 (a:=100) O.view (enc_len Yez));rintro _ k3 ⟨hx,c2,rfl,hM2⟩ hD;rw[Yrm (by omega)]at hM2 ⊢;replace hM:=RImg.mono _ _ _ _ hx hM;clear hx O;have hM0:=hM2;obtain⟨wc,wm,wg,ww,wr,ws,wf,rfl,_⟩:=hM0;refine tA ?_;apply Kc hD rfl;intro b2 hD;apply Ju (v:= .agg [wc,wm,I _,I _,wg,ww,wr,ws,wf,I 100]) (cs':=[wc,wm,I _,I _,wg,ww,wr,ws,wf,I 100]) 0 hD rfl rfl rfl rfl rfl rfl (Yby hM2.one) (Yn rfl);intro hD;refine tA ?_;apply Q5 hD rfl rfl rfl rfl (p29 (v:= .nil .sl) (bs:=[]) (a:=0) .nil (by decide));rintro _ k4 ⟨hx,c3,rfl,hM3⟩ hD;rw[load_nil]at hM3 ⊢;replace hM:=RImg.mono _ _ _ _ hx hM;replace hM2:=RImg.mono _ _ _ _ hx hM2;clear hx;have hM0:=hM3;obtain⟨_,_,_,_,_,_,_,rfl,_⟩:=hM0;refine tA ?_;apply Kc hD rfl;intro b4 hD;apply Ju (v:= .agg [_,_,I _,I _,_,_,_,_,_,I 0]) (cs':=[_,_,I _,I _,_,_,_,_,_,I 0]) 0 hD rfl rfl rfl rfl rfl rfl (Yby hM3.one) (Yn rfl);intro hD;clear hM3;refine tA ?_;apply Yed 2 hD rfl rfl rfl rfl rfl;apply Q5 hD rfl rfl rfl rfl (p16v hM Qh Yez);rintro e2 k5 O hD;replace hM:=RImg.mono _ _ _ _ O.ext hM;replace hM2:=RImg.mono _ _ _ _ O.ext hM2;apply Q5 hD rfl rfl rfl rfl (p29 (a:= -1) O.view (enc_len Yez));rintro _ k6 ⟨hx,c3,rfl,hM3⟩ hD;rw[load_low]at hM3 ⊢;replace hM:=RImg.mono _ _ _ _ hx hM;replace hM2:=RImg.mono _ _ _ _ hx hM2;clear hx O;have hM0:=hM3;obtain⟨_,_,_,_,_,_,_,rfl,_⟩:=hM0;refine tA ?_;apply Kc hD rfl;intro b6 hD;apply Ju (v:= .agg [_,_,I _,I _,_,_,_,_,_,I 0]) (cs':=[_,_,I _,I _,_,_,_,_,_,I 0]) 0 hD rfl rfl rfl rfl rfl rfl (Yby hM3.one) (Yn rfl);intro hD;clear hM3;refine tA ?_;apply Yq (v:= .agg Z9) rfl rfl trivial;apply Q5 hD rfl rfl rfl rfl (p16v Yaj Ye7 Yop);rintro e3 k7 O hD;replace hM:=RImg.mono _ _ _ _ O.ext hM;replace hM2:=RImg.mono _ _ _ _ O.ext hM2;apply Q5 hD rfl rfl rfl rfl (p29 (a:=0) O.view (enc_len Yop));rintro _ k8 ⟨hx,c3,rfl,hM3⟩ hD;rw[load_no]at hM3 ⊢;replace hM:=RImg.mono _ _ _ _ hx hM;replace hM2:=RImg.mono _ _ _ _ hx hM2;clear hx O;have hM0:=hM3;obtain⟨_,_,_,_,_,_,_,rfl,_⟩:=hM0;refine tA ?_;apply Kc hD rfl;intro b8 hD;apply Ju (v:= .agg [_,_,I _,I _,_,_,_,_,_,I 0]) (cs':=[_,_,I _,I _,_,_,_,_,_,I 0]) 0 hD rfl rfl rfl rfl rfl rfl (Yby hM3.one) (Yn rfl);intro hD;clear hM3;refine tA ?_;apply Yed 3 hD rfl rfl rfl rfl rfl;apply Q5 hD rfl rfl rfl rfl (p31 (c:=[wc,wm,I _,I _,wg,ww,wr,ws,wf]) (a:=0) (b:=100) hM2 (mvd_WF Qh) mv100_rel (by rw[mv100];decide) (by rw[mv100];decide) (by omega));rintro _ k9 ⟨hx,c3,rfl,hM3⟩ hD;rw[move100]at hM3 ⊢;replace hM:=RImg.mono _ _ _ _ hx hM;replace hM2:=RImg.mono _ _ _ _ hx hM2;clear hx;have hM0:=hM3;obtain⟨xc,xm,xg,xw,xr,xs,xf,rfl,_⟩:=hM0;refine tA ?_;apply Kc hD rfl;intro b10 hD;apply Ju (v:= .agg [xc,xm,I _,I _,xg,xw,xr,xs,xf,I 0]) (cs':=[xc,xm,I _,I _,xg,xw,xr,xs,xf,I 0]) 0 hD rfl rfl rfl rfl rfl rfl (Yby hM3.one) (Yn rfl);intro hD;have hx:=Yr hD;rw[mv100]at hM2;have w4:Sl (RN .i32) 1 k9 ww [0,0,10,1,101]:=by
  obtain⟨_,_,_,_,_,_,_,e,_,_,_,h4,_⟩:=hM2;cases e;exact h4
 have w6:Sl (RN .i32) 1 k9 ws [5,103]:=by
  obtain⟨_,_,_,_,_,_,_,e,_,_,_,_,_,h6,_⟩:=hM2;cases e;exact h6
 replace w4:=w4.mono RN.mono hx;replace w6:=w6.mono RN.mono hx;replace hM:=RImg.mono _ _ _ _ hx hM;replace hM3:=RImg.mono _ _ _ _ hx hM3;refine tA ?_;apply Yge 4 hD rfl rfl rfl rfl rfl;apply Y0 rfl rfl w4;apply Y1 (w:= .bool false) rfl rfl trivial rfl;refine tA ?_;apply Yge 4 hD rfl rfl rfl rfl rfl;refine tA ?_;apply Y0 rfl rfl w6;refine tA ?_;apply Y1 (w:= .bool false) rfl rfl trivial rfl;refine tA ?_
 (refine tG ?_;(with_reducible apply Ykn);exact rfl;exact rfl;exact rfl;exact p89)
 refine tA ?_;apply Y1 (w:= .bool true) rfl rfl trivial rfl;refine tA ?_;apply Yge 4 hD rfl rfl rfl rfl rfl;refine tA ?_;apply Y1 (w:= .bool true) rfl rfl trivial rfl;refine tA ?_;apply Yge 4 hD rfl rfl rfl rfl rfl;refine tA ?_;apply Qg (z:=4) rfl rfl rfl w4 (by decide);intro p d hp hd _;obtain rfl:d=[.int .i32 101]:=hd;refine tA ?_;apply Ji rfl rfl hp (.one rfl) (fun h=>by omega);refine tA ?_;apply Y1 (w:= .bool true) rfl rfl trivial rfl;refine tA ?_;apply Yge 4 hD rfl rfl rfl rfl rfl;refine tA ?_;apply Qg (z:=1) rfl rfl rfl w6 (by decide);intro p d hp hd _;obtain rfl:d=[.int .i32 103]:=hd;refine tA ?_;apply Ji rfl rfl hp (.one rfl) (fun h=>by omega);refine tA ?_;apply Y1 (w:= .bool true) rfl rfl trivial rfl;refine tA ?_;apply Yge 4 hD rfl rfl rfl rfl rfl;refine tA ?_;apply Qg (z:=0) rfl rfl rfl w6 (by decide);intro p d hp hd _;obtain rfl:d=[.int .i32 5]:=hd;refine tA ?_;apply Ji rfl rfl hp (.one rfl) (fun h=>by omega);refine tA ?_;apply Y1 (w:= .bool true) rfl rfl trivial rfl;refine tA ?_;apply Y1 (w:= .bool true) rfl rfl trivial rfl;refine tA ?_;apply Y1 (w:= .bool true) rfl rfl trivial rfl;refine tA ?_;apply Y1 (w:= .bool true) rfl rfl trivial rfl;refine tA ?_;apply Yge 0 hD rfl rfl rfl rfl rfl;refine tA ?_;apply Y1 (w:= .bool true) rfl rfl trivial rfl;refine tA ?_;apply Yed 0 hD rfl rfl rfl rfl rfl;refine tA ?_;apply Yed 5 hD rfl rfl rfl rfl rfl;refine tA ?_;apply Yb rfl rfl rfl rfl (p18 hM3 hM Qh Qh).go;rintro _ k10 ⟨rfl,_⟩;rw[Zt (rfl:small=small)];refine tW ?_
 (first|apply Jk|apply sret_norm);exact Yb7 (vs:=[_]) rfl rfl
end Go.Proofs
end
section
open Go Go.Abs Go.Proofs.SlimCode Go.Img Go.Vm
namespace Go.Vm
open List
variable {im:Image} {n:Int} {inp:List Int} {l:List Nat} {k:Nat}
open Go.Proofs
def Yg5 (im:Image) (k:Nat):List Val:=(im.statref.zip im.stat).take k
def ats (im:Image) (k:Nat):List Int:=(im.classes.take k).map fun c=>if c.init<0 then 1 else 0
theorem Yq2(h:im.stat.length=im.statref.length)(hk:k<im.stat.length):Yg5 im (k+1)=Yg5 im k++[(im.statref.getD k false,im.stat.getD k 0)]:=by
 have hz:k<(im.statref.zip im.stat).length:=by rw[length_zip];omega
 unfold Yg5;rw[take_succ_eq_append_getElem hz,getElem_zip,atD (d:=false),atD (d:=0)]
theorem stats_len(h:im.stat.length=im.statref.length)(hk:k≤im.stat.length):(Yg5 im k).length=k:=by
 unfold Yg5;rw[length_take,length_zip];omega
theorem ats_succ(hk:k<im.classes.length):ats im (k+1)=ats im k++[if(im.classes[k]).init<0 then 1 else 0]:=by
 unfold ats;rw[take_succ_eq_append_getElem hk,map_append];rfl
theorem ats_len(hk:k≤im.classes.length):(ats im k).length=k:=by
 unfold ats;rw[length_map,length_take];omega
def Vm.raw (im:Image) (inp:List Int) (u:Hp):Vm:=⟨u,Yg5 im im.stat.length,ats im im.classes.length,inp,[],0,[],0,0,[]⟩
def Vm.new (im:Image) (inp:List Int) (u:Hp):Vm:={Vm.raw im inp u with acts:=[{Fm.of im.entry (mAt im im.entry).locals (mAt im im.entry).stack [] (mAt im im.entry) (-1) with need:=im.need}]}
theorem scan_sep{w:List Int}:∀(n a:Nat) (l:List Nat),w.length-a≤n→Yfk w a=some l→(∀x∈l,a≤x)∧∀p∈l,∀q∈l,p<q→(p:Int)+2+w.getD (p+1) 0≤q:=by
 intro n
 induction n with
 |zero=>
  intro a l hn h;rw[Ku (by omega)]at h;cases h;exact⟨fun _ h=>(nomatch h),fun _ h=>(nomatch h)⟩
 |succ n ih=>
  intro a l hn h;by_cases h1:a<w.length
  ·by_cases h2:Ob w a
   ·have h3:=h2.2.1;unfold Yme at h3;rw[Yg8 h1 h2]at h;cases e:Yfk w (a+2+(w.getD (a+1) 0).toNat) with
    |none=>rw[e]at h;cases h
    |some l2=>
     rw[e]at h;cases h;obtain⟨i1,i2⟩:=ih _ l2 (by omega) e;refine⟨fun x hx=>?_,fun p hp q hq hlt=>?_⟩
     ·rcases mem_cons.1 hx with rfl|hx
      ·exact Zl _
      ·have:=i1 x hx;omega
     ·have hp:p∈a::l2:=hp;have hq:q∈a::l2:=hq;rcases mem_cons.1 hp with e1|hp2
      ·subst e1;rcases mem_cons.1 hq with e2|hq2
       ·omega
       ·have:=i1 q hq2;omega
      ·rcases mem_cons.1 hq with e2|hq2
       ·have:=i1 p hp2;omega
       ·exact i2 p hp2 q hq2 hlt
   ·rw[Yc5 h1 h2]at h;cases h
  ·rw[Ku h1]at h;cases h;exact⟨fun _ h=>(nomatch h),fun _ h=>(nomatch h)⟩
theorem K4{n:Nat}{a:Nat}:(Y5 n l).getD a false=true↔a<n∧a∈l:=by
 by_cases h:a<n
 ·rw[←atD (i:=a) (d:=false) (by rw[Qv];exact h),Yit,decide_eq_true_iff];exact⟨fun q=>⟨h,q⟩,fun q=>q.2⟩
 ·rw[Zd,getElem?_eq_none (by rw[Qv];omega)];exact⟨fun q=>(nomatch q),fun q=>absurd q.1 h⟩
theorem of_ok(hI:ImOk im)(hp:K6 im.words=some l)(hn:¬(Hp.new n).n<im.words.length):HpOk im (Hp.of n im.words l):=by
 obtain⟨l',h1,h2⟩:=hI.v.heap;rw[hp]at h1;cases h1;have hm:=Yi2 hp;have hs:Yfk im.words 0=some l:=by
  unfold K6 at hp;split at hp
  ·exact hp
  ·cases hp
 obtain⟨_,s2⟩:=scan_sep _ 0 l (Zl _) hs;have H:HOk (Hp.of n im.words l):=by
  refine⟨?_,?_,Qv,hI.w.words.2,fun a ha=>hm a (K4.1 ha).2,fun p q hp hq hlt=>s2 p (K4.1 hp).2 q (K4.1 hq).2 hlt⟩
  ·show 0≤min (max n 0) 1048576∧min (max n 0) 1048576≤1048576;omega
  ·show(im.words.length:Int)≤(Hp.new n).n;omega
 refine⟨H,fun a ha=>?_,fun a i ha hr=>?_⟩
 ·obtain⟨p,rfl,hp⟩:=H.has_iff.1 ha;obtain⟨_,e1,e2⟩:=H.at hp;rw[e1,e2];exact h2.obs p (K4.1 hp).2
 ·obtain⟨p,rfl,hp⟩:=H.has_iff.1 ha;obtain⟨_,e1,e2⟩:=H.at hp;have hpl:=(K4.1 hp).2;unfold Hp.get;split
  ·rename_i hi;obtain⟨j,rfl⟩:=Int.eq_ofNat_of_zero_le hi.1;rw[e2]at hi;rw[e1]at hr;have hk:=h2.obs p hpl;have hr2:Jf (obC im p) j=true:=by
    unfold Yjd at hr;have hk1:=hk.1;have e3:(Hp.of n im.words l).w.getD p 0=wAt im p:=rfl;rw[e3,if_pos ⟨hk1.1,hk1.2⟩]at hr;exact hr
   have hj:j<obN im p:=by
    have:(Hp.of n im.words l).w.getD (p+1) 0=wAt im (p+1):=rfl;rw[this]at hi;unfold obN;omega
   have hmr:((p+2+j:Nat):Int)∈Ybi im l:=by
    refine mem_flatMap.2 ⟨p,hpl,?_⟩;unfold Yga Ycj;exact mem_map.2 ⟨j,mem_filter.2 ⟨mem_range.2 hj,hr2⟩,rfl⟩
   have hx:=h2.refs _ hmr;rw[Zn]at hx;have e4:(Hp.of n im.words l).w.getD ((p:Int)+2+(j:Int)).toNat 0=im.words.getD (p+2+j) 0:=by
    show im.words.getD _ 0=_
    congr 1
   rw[e4];rcases hx with hx|⟨hx1,hx2⟩
   ·exact .inl hx
   ·refine .inr ?_;have hob:=(hm _ hx2).1;rw[H.has_iff];exact⟨_,by omega,K4.2 ⟨by omega,hx2⟩⟩
  ·exact .inl rfl
theorem raw_ok(hI:ImOk im)(hp:K6 im.words=some l)(hn:¬(Hp.new n).n<im.words.length)(hi:∀n∈inp,I32 n):VOk im (Vm.raw im inp (Hp.of n im.words l)):=by
 have H:=of_ok hI hp hn;obtain⟨l',h1,h2⟩:=hI.v.heap;rw[hp]at h1;cases h1;have hm:=Yi2 hp;have hsz:=hI.v.first.sizes
 unfold Yew at hsz;have ez:Yg5 im im.stat.length=im.statref.zip im.stat:=by
  unfold Yg5;rw[Zk (by rw[length_zip];omega)]
 refine⟨H,?_,fun v hv=>?_,⟨ats_len (Zl _),fun m hm=>?_⟩,hi,Nat.zero_le _,fun f hf=>(nomatch hf),⟨Int.le_refl 0,Int.le_refl 0⟩⟩
 ·show(Yg5 im im.stat.length).map _=_;rw[ez];exact map_fst_zip (by omega)
 ·have hv:v∈Yg5 im im.stat.length:=hv;rw[ez]at hv;obtain⟨i,hil,rfl⟩:=getElem_of_mem hv;rw[length_zip]at hil;rw[getElem_zip];refine⟨hI.w.stat.2 _ (getElem_mem _),fun hr=>?_⟩;have h3:=h2.stat i (by omega) (by rw[←atD (by omega)];exact hr);rw[←atD (by omega)]at h3;rcases h3 with h3|⟨h3,h4⟩
  ·exact .inl h3
  ·refine .inr ?_;show(Hp.of n im.words l).has (im.stat[i]-1)=true;rw[H.ok.has_iff];exact⟨_,by omega,K4.2 ⟨by have:=(hm _ h4).1;omega,h4⟩⟩
 ·have hm:m∈ats im im.classes.length:=hm;obtain⟨c,_,rfl⟩:=mem_map.1 hm;split<;>decide
theorem new_lay(hI:ImOk im){u:Hp}:(Vm.raw im inp u).lay im im.entry (-1) []=({Vm.raw im inp u with acts:=[Fm.of im.entry (mAt im im.entry).locals (mAt im im.entry).stack [] (mAt im im.entry) (-1)]},true):=by
 have he:=hI.v.first.entry
 unfold Bare at he;exact lay_ok (by show ¬ 64≤0;omega) he.1 (by rw[he.2.1];rfl)
theorem new_ok(hI:ImOk im)(hp:K6 im.words=some l)(hn:¬(Hp.new n).n<im.words.length)(hi:∀n∈inp,I32 n):VOk im (Vm.new im inp (Hp.of n im.words l)):=by
 have V:=(raw_ok hI hp hn hi).lay hI (k:=im.entry) (init:= -1) (l:=[]) (fun _ h=>(nomatch h)) (.inl rfl);rw[new_lay hI]at V;have F:=V.fr _ (.head _);exact⟨V.hp,V.stat,V.sv,V.at',V.inp,by show 1≤64;omega,fun f hf=>by
  obtain rfl:=Zm.1 hf;exact⟨F.m,F.loc,F.room,F.stk,F.val,F.init,hI.v.first.need,F.pc⟩,V.st⟩
end Go.Vm
end
