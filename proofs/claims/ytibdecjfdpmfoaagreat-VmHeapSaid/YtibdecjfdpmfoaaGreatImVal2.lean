import Derived.Test.YtibdecjfdpmfoaaGreatImCutAll
section
open Go Go.Abs Go.Proofs.SlimCode Go.Img
set_option maxRecDepth 100000
namespace Go.Proofs
open List
open Go.Proofs.Tryz
theorem p32:PureC prog ann 235 [] (.bool true):=Ym0 1000 (by kernel_rfl) (by kernel_rfl) (by kernel_rfl)
theorem p33:PureC prog ann 236 [] (.bool true):=Ym0 1000 (by kernel_rfl) (by kernel_rfl) (by kernel_rfl)
theorem Ybb:Image.Small small:=by
 refine⟨⟨by decide,fun c h=>?_⟩,⟨by decide,fun c h=>?_⟩,by decide,by decide,by decide,by decide,by decide⟩
 ·obtain⟨i,_,rfl⟩:=mem_map.1 h;exact⟨(by decide:2≤12),Nat.zero_le _,(by decide:1≤21),Nat.zero_le _,Nat.zero_le _⟩
 ·obtain rfl:=Zm.1 h;exact⟨by decide,by decide⟩
theorem flat_ge{α:Type}{e:α→B}(he:∀a,1≤(e a).length):∀l:List α,l.length≤(l.flatMap e).length
 |[]=>Zl _
 |a::l=>by
  have:=flat_ge he l;have:=he a;simp only[flatMap_cons,length_append,length_cons];omega
theorem put_ge(n:Int):1≤(put n).length:=length_pos_iff.mpr (Jw n)
theorem small_ge:8<(Img.body small).length:=by
 have h1:11≤((small.classes).flatMap Ykz).length:=Nat.le_trans (by simp[small]) (flat_ge (fun a=>by simp only[Ykz,Yao,length_append];have:=put_ge a.name.length;omega) small.classes);simp only[Img.body,Y4,length_append];omega
theorem Ygv:Img.decode (Qy small)=some small:=Ydo Qh (by have:=Yd8 Qh Ybb;unfold size;omega)
theorem Yqq:Img.decode []=none:=by unfold Img.decode;rw[if_pos (.inl (by decide))]
def small1:Image:={small with entry:=1}
theorem small1_WF:small1.WF:={Qh with entry:=Yb1 (by decide) (by decide)}
theorem Je{h h':Ya}{c:List AV}{m:Image}(H:RImg h c m)(hx:Ext h h'):RImg h' c m:=RImg.mono _ _ _ _ hx H
theorem p14:PureC prog ann 230 [] (.bool true):=by
 refine Kf func230 Zw rfl rfl rfl ?_;refine tV ?_;apply Yb rfl rfl rfl rfl (p27 (h:=hp0));rintro _ k1 ⟨_,c,rfl,hM⟩;obtain⟨vc,vm,vg,vw,vr,vs,vf,rfl,r⟩:=id hM;refine tW ?_;apply K8 rfl;intro b1 hn;apply Ybr (v:= .agg [vc,vm,I small.entry,I small.need,vg,vw,vr,vs,vf]) (cs':=[vc,vm,I small.entry,I small.need,vg,vw,vr,vs,vf]) rfl rfl rfl rfl rfl hM.one upd_same rfl;rw[Xm];have hx:Ext k1 (upd k1 b1 (some (.cells [vc,vm,I small.entry,I small.need,vg,vw,vr,vs,vf]))):= .upd hn;have e_b1:upd k1 b1 (some (.cells [vc,vm,I small.entry,I small.need,vg,vw,vr,vs,vf])) b1=some (.cells [vc,vm,I small.entry,I small.need,vg,vw,vr,vs,vf]):=upd_same;generalize upd k1 b1 (some (.cells [vc,vm,I small.entry,I small.need,vg,vw,vr,vs,vf]))=k2 at hx e_b1 ⊢;replace hM:=Je hM hx;clear hx hn;refine tV ?_;apply X3 (l:=[vc,vm,I small.entry,I small.need,vg,vw,vr,vs,vf]) rfl rfl e_b1 (fun h=>by omega) rfl;apply Yb rfl rfl rfl rfl (p16 hM Qh (by have:=Yd8 Qh Ybb;omega));rintro v2 k3 hb;have hlb:=Yd8 Qh Ybb;rcases hb with ⟨_,O⟩|⟨hb,_⟩;rotate_left
 ·unfold size at hb;omega
 have hx3:=O.ext;have hv:=O.view;have hpos:=small_ge;have hsz:(Qy small).length=12+(Img.body small).length:=Ya9 small;replace e_b1:=hx3 _ _ e_b1;replace hM:=Je hM hx3;refine tV ?_;apply Yb rfl rfl rfl rfl (p17 hv (by omega));rintro _ k4 ⟨hx4,c3,e3,m3,rfl,hX,hXW,hdec⟩;obtain⟨rfl,rfl⟩:e3=0∧m3=small:=by
  rcases hdec with ⟨h1,h2⟩|⟨_,h2,_⟩
  ·rw[Ygv]at h2;exact⟨h1,(Option.some.inj h2).symm⟩
  ·rw[Ygv]at h2;cases h2
 clear hdec;obtain⟨uc,um,ug,uw,ur,us,uf,rfl,_⟩:=id hX;replace e_b1:=hx4 _ _ e_b1;replace hM:=Je hM hx4;replace hv:=hv.mono hx4;refine tW ?_;apply K8 rfl;intro b3 hn;apply Ybr (v:= .agg [uc,um,I small.entry,I small.need,ug,uw,ur,us,uf]) (cs':=[uc,um,I small.entry,I small.need,ug,uw,ur,us,uf]) rfl rfl rfl rfl rfl hX.one upd_same rfl;rw[Xm];have hx:Ext k4 (upd k4 b3 (some (.cells [uc,um,I small.entry,I small.need,ug,uw,ur,us,uf]))):= .upd hn;have e_b3:upd k4 b3 (some (.cells [uc,um,I small.entry,I small.need,ug,uw,ur,us,uf])) b3=some (.cells [uc,um,I small.entry,I small.need,ug,uw,ur,us,uf]):=upd_same;generalize upd k4 b3 (some (.cells [uc,um,I small.entry,I small.need,ug,uw,ur,us,uf]))=k5 at hx e_b3 ⊢;replace e_b1:=hx _ _ e_b1;replace hM:=Je hM hx;replace hX:=Je hX hx;replace hv:=hv.mono hx;clear hx hn;refine tV ?_;apply Yb rfl rfl rfl rfl (p17 (bs:=[]) .nil (by decide));rintro _ k6 ⟨hx6,c5,e5,m5,rfl,hY,_,hdec⟩;obtain rfl:e5=6:=by
  rcases hdec with ⟨_,h2⟩|⟨h1,_,_⟩
  ·rw[Yqq]at h2;cases h2
  ·exact h1
 clear hdec;obtain⟨y0,y1,y2,y3,y4,y5,y6,rfl,_⟩:=id hY;replace e_b1:=hx6 _ _ e_b1;replace e_b3:=hx6 _ _ e_b3;replace hM:=Je hM hx6;replace hX:=Je hX hx6;replace hv:=hv.mono hx6;refine tW ?_;apply K8 rfl;intro b5 hn;apply Ybr (v:= .agg [y0,y1,I m5.entry,I m5.need,y2,y3,y4,y5,y6]) (cs':=[y0,y1,I m5.entry,I m5.need,y2,y3,y4,y5,y6]) rfl rfl rfl rfl rfl hY.one upd_same rfl;rw[Xm];have hx:Ext k6 (upd k6 b5 (some (.cells [y0,y1,I m5.entry,I m5.need,y2,y3,y4,y5,y6]))):= .upd hn;have e_b5:upd k6 b5 (some (.cells [y0,y1,I m5.entry,I m5.need,y2,y3,y4,y5,y6])) b5=some (.cells [y0,y1,I m5.entry,I m5.need,y2,y3,y4,y5,y6]):=upd_same;generalize upd k6 b5 (some (.cells [y0,y1,I m5.entry,I m5.need,y2,y3,y4,y5,y6]))=k7 at hx e_b5 ⊢;replace e_b1:=hx _ _ e_b1;replace e_b3:=hx _ _ e_b3;replace hM:=Je hM hx;replace hX:=Je hX hx;replace hv:=hv.mono hx;clear hx hn;clear hY e_b5;refine tV ?_;apply Yb rfl rfl rfl rfl (p27 (h:=k7));rintro _ k8 ⟨hx8,c7,rfl,hN⟩;obtain⟨vc',vm',vg',vw',vr',vs',vf',rfl,n1,n2,n3,n4,n5,n6,n7⟩:=id hN;replace e_b1:=hx8 _ _ e_b1;replace e_b3:=hx8 _ _ e_b3;replace hM:=Je hM hx8;replace hX:=Je hX hx8;replace hv:=hv.mono hx8;refine tW ?_;apply K8 rfl;intro b7 hn;have hne1:b1≠b7:=fun hc=>by rw[←hc,e_b1]at hn;cases hn
 have hne3:b3≠b7:=fun hc=>by rw[←hc,e_b3]at hn;cases hn
 have hnv:=hn;apply Ybr (v:= .agg [vc',vm',I small.entry,I small.need,vg',vw',vr',vs',vf']) (cs':=[vc',vm',I small.entry,I small.need,vg',vw',vr',vs',vf']) rfl rfl rfl rfl rfl hN.one upd_same rfl;rw[Xm];have hx:Ext k8 (upd k8 b7 (some (.cells [vc',vm',I small.entry,I small.need,vg',vw',vr',vs',vf']))):= .upd hn;have e_b7:upd k8 b7 (some (.cells [vc',vm',I small.entry,I small.need,vg',vw',vr',vs',vf'])) b7=some (.cells [vc',vm',I small.entry,I small.need,vg',vw',vr',vs',vf']):=upd_same;clear hx e_b7;refine tV ?_;apply Ybr (v:=I 1) (cs':=[vc',vm',I 1,I small.need,vg',vw',vr',vs',vf']) rfl rfl rfl rfl rfl rfl upd_same rfl;rw[Xm];have hx:Ext k8 (upd k8 b7 (some (.cells [vc',vm',I 1,I small.need,vg',vw',vr',vs',vf']))):= .upd hn;have e_b7:upd k8 b7 (some (.cells [vc',vm',I 1,I small.need,vg',vw',vr',vs',vf'])) b7=some (.cells [vc',vm',I 1,I small.need,vg',vw',vr',vs',vf']):=upd_same;generalize upd k8 b7 (some (.cells [vc',vm',I 1,I small.need,vg',vw',vr',vs',vf']))=k9 at hx e_b7 ⊢;replace e_b1:=hx _ _ e_b1;replace e_b3:=hx _ _ e_b3;replace hM:=Je hM hx;replace hX:=Je hX hx;replace hv:=hv.mono hx;replace hN:=Je hN hx;clear hx hn;have hN1:RImg k9 [vc',vm',I 1,I small.need,vg',vw',vr',vs',vf'] small1:=by
  obtain⟨_,_,_,_,_,_,_,he,q1,q2,q3,q4,q5,q6,q7⟩:=hN;simp only[List.cons.injEq,and_true]at he;obtain⟨rfl,rfl,_,_,rfl,rfl,rfl,rfl,rfl⟩:=he;exact⟨_,_,_,_,_,_,_,rfl,q1,q2,q3,q4,q5,q6,q7⟩
 clear hN;refine tV ?_
 (refine tG ?_;(with_reducible apply Ykn);exact rfl;exact rfl;exact rfl;exact p32)
 refine tV ?_
 (refine tG ?_;(with_reducible apply Ykn);exact rfl;exact rfl;exact rfl;exact p33)
 refine tV ?_;apply Yec rfl rfl hv;refine tV ?_;refine tV ?_;refine oB fun b hb=>?_;obtain rfl:b=true:=by rw[hb];exact Zt (by omega)
 refine tV ?_;apply o_iaV rfl rfl rfl hv (by decide) (by omega);intro p hp;replace hp:=Yqt (i:=0) rfl (by omega) hp;refine tV ?_;apply Ydb rfl rfl hp (fun h=>by omega);refine tV ?_;refine oB fun b hb=>?_;obtain rfl:b=true:=by rw[hb];rfl
 refine tV ?_;refine tV ?_;refine oB fun b hb=>?_;obtain rfl:b=true:=by rw[hb];rfl
 refine tV ?_;apply X3 (l:=[uc,um,I small.entry,I small.need,ug,uw,ur,us,uf]) rfl rfl e_b3 (fun h=>by omega) rfl;refine tV ?_;apply X3 (l:=[vc,vm,I small.entry,I small.need,vg,vw,vr,vs,vf]) rfl rfl e_b1 (fun h=>by omega) rfl;refine tV ?_;apply Yb rfl rfl rfl rfl (p18 hX hM Qh Qh).go;rintro _ kk ⟨rfl,hx⟩;rw[Zt rfl];replace e_b1:=hx _ _ e_b1;replace e_b3:=hx _ _ e_b3;replace e_b7:=hx _ _ e_b7;replace hM:=Je hM hx;replace hX:=Je hX hx;replace hN1:=Je hN1 hx;clear hx;refine tV ?_;refine tV ?_;refine oB fun b hb=>?_;obtain rfl:b=true:=by rw[hb];rfl
 refine tV ?_;apply X3 (l:=[vc,vm,I small.entry,I small.need,vg,vw,vr,vs,vf]) rfl rfl e_b1 (fun h=>by omega) rfl;refine tV ?_;apply X3 (l:=[vc,vm,I small.entry,I small.need,vg,vw,vr,vs,vf]) rfl rfl e_b1 (fun h=>by omega) rfl;refine tV ?_;apply Yb rfl rfl rfl rfl (p19 hM hM Qh Qh).go;rintro _ kk ⟨rfl,hx⟩;rw[Zt rfl];replace e_b1:=hx _ _ e_b1;replace e_b3:=hx _ _ e_b3;replace e_b7:=hx _ _ e_b7;replace hM:=Je hM hx;replace hX:=Je hX hx;replace hN1:=Je hN1 hx;clear hx;refine tV ?_;apply X3 (l:=[vc,vm,I small.entry,I small.need,vg,vw,vr,vs,vf]) rfl rfl e_b1 (fun h=>by omega) rfl;refine tV ?_;apply X3 (l:=[vc',vm',I 1,I small.need,vg',vw',vr',vs',vf']) rfl rfl e_b7 (fun h=>by omega) rfl;refine tV ?_;apply Yb rfl rfl rfl rfl (p19 hM hN1 Qh small1_WF).go;rintro _ kk ⟨rfl,hx⟩;rw[Zx (fun e=>absurd (congrArg Image.entry e) (by decide))];refine tw ?_;apply Yq rfl rfl trivial;refine tW ?_;apply Jk;exact Yb7 (vs:=[_]) rfl rfl
end Go.Proofs
end
section
open Go Go.Abs Go.Proofs.SlimCode Go.Img
namespace Go.Img
open List
variable {m:Image} {n:Int}
def mAt (m:Image) (n:Int):Mth:=(m.methods[n.toNat]?).getD ⟨0,0,0,false,[],[]⟩
def cAt (m:Image) (n:Int):Cls:=(m.classes[n.toNat]?).getD ⟨[],0,0,0,0,false,[],[],[],[]⟩
def IsT (m:Image) (n:Int):Prop:=0≤n∧n<m.classes.length
def IsM (m:Image) (n:Int):Prop:=0≤n∧n<m.methods.length
def Yhq (m:Image) (n:Int):Prop:=IsM m n∧0<(mAt m n).code.length
def Bare (m:Image) (n:Int):Prop:=Yhq m n∧(mAt m n).args=0∧(mAt m n).gives=false
def Yjr (m:Image):Nat→Int→Prop
 |0,k=>k= -1
 |f+1,k=>k= -1∨(IsT m k∧Yjr m f (cAt m k).super)
def Rises (l:List Int):Prop:=∀i,i+1<l.length→l.getD i 0<l.getD (i+1) 0
def Ypc (m:Image) (n k:Int):Prop:=IsT m n∧(cAt m n).array=k
def Yg0 (o:Int):Prop:=o=20∨o=46∨o=47∨o=48∨o=58∨o=61
theorem mAt_at(h:IsM m n):∃hk:n.toNat<m.methods.length,mAt m n=m.methods[n.toNat]:=by
 have hk:n.toNat<m.methods.length:=by unfold IsM at h;omega
 exact⟨hk,by unfold mAt;rw[Zg hk];rfl⟩
theorem Yk5(h:IsT m n):∃hk:n.toNat<m.classes.length,cAt m n=m.classes[n.toNat]:=by
 have hk:n.toNat<m.classes.length:=by unfold IsT at h;omega
 exact⟨hk,by unfold cAt;rw[Zg hk];rfl⟩
end Go.Img
set_option maxRecDepth 100000
namespace Go.Proofs
open List
open Go.Proofs.Tryz
variable {E:Env} {m:Image} {n:Int} {c:List AV} {bx:List Nat} {f t:Nat} {P:Prop} {h h':Ya}
noncomputable def BP (P:Prop):Bool:=@decide P (Classical.propDecidable P)
theorem Ym(h:P):BP P=true:=@decide_eq_true P (Classical.propDecidable P) h
theorem Yf(h:¬P):BP P=false:=@decide_eq_false P (Classical.propDecidable P) h
theorem Yfe{Q:Prop}(h:P↔Q):BP P=BP Q:=by rw[propext h]
theorem Ycf(hE:lk E t=some (.bool true))(hp:P)(hx:Ext h h')(hb:∀b∈bx,h b=none)(hz0:ann.fz f=false:=by first|rfl|assumption):lret prog ann f [.tmp t] h (.bool (BP P)) .ret E bx h':=Y3 (vs:=[.bool true]) (by simp only[Yb8,hE]) hz0 (by rw[Ym hp];rfl) hx hb
theorem noB(hE:lk E t=some (.bool false))(hp:¬P)(hx:Ext h h')(hb:∀b∈bx,h b=none)(hz0:ann.fz f=false:=by first|rfl|assumption):lret prog ann f [.tmp t] h (.bool (BP P)) .ret E bx h':=Y3 (vs:=[.bool false]) (by simp only[Yb8,hE]) hz0 (by rw[Yf hp];rfl) hx hb
theorem eqB{v:Bool}(hE:lk E t=some (.bool v))(hp:v=BP P)(hx:Ext h h')(hb:∀b∈bx,h b=none)(hz0:ann.fz f=false:=by first|rfl|assumption):lret prog ann f [.tmp t] h (.bool (BP P)) .ret E bx h':=Y3 (vs:=[.bool v]) (by simp only[Yb8,hE]) hz0 (by rw[hp];rfl) hx hb
theorem p75{a b:Int}:Looks prog ann 106 [I n,I a,I b] h (.bool (BP (a≤n∧n≤b))):=by
 refine Yo rfl func106 Zw rfl ?_;refine tV ?_;refine oB fun b1 hb=>?_;by_cases H:a≤n;rotate_left
 ·obtain rfl:b1=false:=by rw[hb];simp;omega
  refine tW ?_;exact noB rfl (fun h=>H h.1) .refl (by simp)
 obtain rfl:b1=true:=by rw[hb];simp;omega
 clear hb;refine tV ?_;refine oB fun b1 hb=>?_;refine tW ?_;refine eqB rfl ?_ .refl (by simp);rw[hb];by_cases H2:n≤b
 ·rw[Ym ⟨H,H2⟩];exact Zt H2
 ·rw[Yf (fun h=>H2 h.2)];exact Zx H2
theorem p79(hc:RImg h c m)(hw:m.WF):Looks prog ann 110 [.agg c,I n] h (.bool (BP (IsT m n))):=by
 have hone:=hc.one;obtain⟨vc,vm,vg,vw,vr,vs,vf,rfl,v1,v2,v3,v4,v5,v6,v7⟩:=hc;have hl:Len m.classes:=hw.classes.1;unfold Len at hl;refine Yo rfl func110 Zw rfl ?_;refine tS ?_;apply Yq rfl rfl hone;refine tV ?_;apply Y0 rfl rfl v1;apply Y1 (w:=I ((m.classes.length:Int)-1)) rfl rfl trivial (by rw[w64 (by omega) (by omega)]);apply Yb rfl rfl rfl rfl p75.go;rintro _ k1 ⟨rfl,hx⟩;refine tW ?_;refine eqB rfl (Yfe ?_) hx (by simp);unfold IsT;omega
theorem p123(hc:RImg h c m)(hw:m.WF):Looks prog ann 183 [.agg c,I n] h (.bool (BP (IsM m n))):=by
 have hone:=hc.one;obtain⟨vc,vm,vg,vw,vr,vs,vf,rfl,v1,v2,v3,v4,v5,v6,v7⟩:=hc;have hl:Len m.methods:=hw.methods.1;unfold Len at hl;refine Yo rfl func183 Zw rfl ?_;refine tS ?_;apply Yq rfl rfl hone;refine tV ?_;apply Y0 rfl rfl v2;apply Y1 (w:=I ((m.methods.length:Int)-1)) rfl rfl trivial (by rw[w64 (by omega) (by omega)]);apply Yb rfl rfl rfl rfl p75.go;rintro _ k1 ⟨rfl,hx⟩;refine tW ?_;refine eqB rfl (Yfe ?_) hx (by simp);unfold IsM;omega
theorem p117(hc:RImg h c m)(hw:m.WF):Looks prog ann 177 [.agg c,I n] h (.bool (BP (Yhq m n))):=by
 have hR:=hc;have hone:=hc.one;obtain⟨vc,vm,vg,vw,vr,vs,vf,rfl,v1,v2,v3,v4,v5,v6,v7⟩:=hc;refine Yo rfl func177 Zw rfl ?_;refine tS ?_;apply Yq rfl rfl hone;refine tW ?_;refine tV ?_;apply Yb rfl rfl rfl rfl (p123 hR hw).go;rintro _ k1 ⟨rfl,hy⟩;have hx1:=Ext.refl.trans hy;clear hy;by_cases H1:IsM m n;rotate_left
 ·rw[Yf H1];refine tW ?_;exact noB rfl (fun h=>H1 h.1) hx1 (by simp)
 rw[Ym H1];obtain⟨hk,em⟩:=mAt_at H1;have hn0:n=(n.toNat:Int):=by have:=H1.1;omega
 refine tV ?_;apply Qg (z:=n.toNat) rfl rfl (by rw[←hn0];rfl) (v2.mono RMth.mono hx1) hk;intro p cs hp hcs hcl;obtain⟨wc,wt,rfl,u1,u2⟩:=hcs;refine tV ?_;apply Yjx [wc] rfl rfl hp rfl;intro p2 hp2;refine tV ?_;apply Ydb rfl rfl hp2 (fun h=>by omega);refine tV ?_;apply Y0 rfl rfl u1;refine tV ?_;refine oB fun b hb=>?_;refine tW ?_;refine eqB rfl ?_ hx1 (by simp);rw[hb,←em];by_cases H2:0<(mAt m n).code.length
 ·rw[Ym ⟨H1,H2⟩];exact Zt (by omega)
 ·rw[Yf (fun h=>H2 h.2)];exact Zx (by omega)
theorem p78(hc:RImg h c m)(hw:m.WF):Looks prog ann 109 [.agg c,I n] h (.bool (BP (Bare m n))):=by
 have hR:=hc;have hone:=hc.one;obtain⟨vc,vm,vg,vw,vr,vs,vf,rfl,v1,v2,v3,v4,v5,v6,v7⟩:=hc;refine Yo rfl func109 Zw rfl ?_;refine tS ?_;apply Yq rfl rfl hone;refine tW ?_;refine tV ?_;apply Yb rfl rfl rfl rfl (p117 hR hw).go;rintro _ k1 ⟨rfl,hy⟩;have hx1:=Ext.refl.trans hy;clear hy;by_cases H1:Yhq m n;rotate_left
 ·rw[Yf H1];refine tW ?_;exact noB rfl (fun h=>H1 h.1) hx1 (by simp)
 rw[Ym H1];obtain⟨hk,em⟩:=mAt_at H1.1;have hn0:n=(n.toNat:Int):=by have:=H1.1.1;omega
 refine tV ?_;apply Qg (z:=n.toNat) rfl rfl (by rw[←hn0];rfl) (v2.mono RMth.mono hx1) hk;intro p cs hp hcs hcl;obtain⟨wc,wt,rfl,u1,u2⟩:=hcs;refine tV ?_;apply Yjx [I m.methods[n.toNat].args] rfl rfl hp rfl;intro p2 hp2;refine tV ?_;apply Ydb rfl rfl hp2 (fun h=>by omega);refine tV ?_;refine oB fun b hb=>?_;by_cases H2:(mAt m n).args=0;rotate_left
 ·obtain rfl:b=false:=by rw[hb,←em];exact Zx H2
  refine tW ?_;exact noB rfl (fun h=>H2 h.2.1) hx1 (by simp)
 obtain rfl:b=true:=by rw[hb,←em];exact Zt H2
 refine tV ?_;apply Qg (z:=n.toNat) rfl rfl (by rw[←hn0];rfl) (v2.mono RMth.mono hx1) hk;intro q cs hq hcs hcl;obtain⟨wc2,wt2,rfl,u3,u4⟩:=hcs;refine tV ?_;apply Yjx [.bool m.methods[n.toNat].gives] rfl rfl hq rfl;intro q2 hq2;refine tV ?_;apply Ydb rfl rfl hq2 (fun h=>by omega);refine tV ?_;apply Yq rfl rfl trivial;refine tW ?_;refine eqB rfl ?_ hx1 (by simp);rw[←em];cases hg:(mAt m n).gives with
 |false=>rw[Ym ⟨H1,H2,hg⟩];rfl
 |true=>rw[Yf (fun h=>by rw[h.2.2]at hg;cases hg)];rfl
theorem p169{k:Int}(hc:RImg h c m)(hw:m.WF):Looks prog ann 229 [.agg c,I n,I k] h (.bool (BP (Ypc m n k))):=by
 have hR:=hc;have hone:=hc.one;obtain⟨vc,vm,vg,vw,vr,vs,vf,rfl,v1,v2,v3,v4,v5,v6,v7⟩:=hc;refine Yo rfl func229 Zw rfl ?_;refine tS ?_;apply Yq rfl rfl hone;refine tW ?_;refine tV ?_;apply Yb rfl rfl rfl rfl (p79 hR hw).go;rintro _ k1 ⟨rfl,hy⟩;have hx1:=Ext.refl.trans hy;clear hy;by_cases H1:IsT m n;rotate_left
 ·rw[Yf H1];refine tW ?_;exact noB rfl (fun h=>H1 h.1) hx1 (by simp)
 rw[Ym H1];obtain⟨hk,em⟩:=Yk5 H1;have hn0:n=(n.toNat:Int):=by have:=H1.1;omega
 refine tV ?_;apply Qg (z:=n.toNat) rfl rfl (by rw[←hn0];rfl) (v1.mono RCls.mono hx1) hk;intro p cs hp hcs hcl;obtain⟨_,_,_,_,rfl,_⟩:=hcs;refine tV ?_;apply Yjx [I m.classes[n.toNat].array] rfl rfl hp rfl;intro p2 hp2;refine tV ?_;apply Ydb rfl rfl hp2 (fun h=>by omega);refine tV ?_;refine oB fun b hb=>?_;refine tW ?_;refine eqB rfl ?_ hx1 (by simp);rw[hb,←em];by_cases H2:(cAt m n).array=k
 ·rw[Ym ⟨H1,H2⟩];exact Zt H2
 ·rw[Yf (fun h=>H2 h.2)];exact Zx H2
theorem p116:HCallC prog ann 176 [] h fun v h'=>Ext h h'∧∃i,v= .sl i 0 10 1:=by
 refine Yz rfl func176 Zw rfl ?_;refine tV ?_;apply Ync rfl rfl rfl;intro i hi;refine tW ?_
 (first|apply X7|apply Xx)
 ·exact rfl
 ·exact rfl
 ·rw[Yl];exact⟨.upd hi,i,rfl⟩
 ·exact fun h=>by cases h
end Go.Proofs
end
section
open Go Go.Abs Go.Proofs.SlimCode Go.Img
set_option maxRecDepth 100000
namespace Go.Proofs
open List
open Go.Proofs.Tryz
variable {v:AV} {y:Bool} {fn:Func} {c cap first:List AV} {f g0:Nat} {α:Type} {h:Ya} {l:List α} {p:α→Bool}
def fi {α:Type} (p:α→Bool) (l:List α):Int:=match l.findIdx? p with
 |some i=>i
 |none=> -1
theorem fi_at{k:Nat}(hk:k<l.length)(h1:p l[k]=true)(h0:∀i,(hi:i<k)→p (l[i]'(by omega))=false):fi p l=k:=by
 unfold fi;rw[findIdx?_eq_some_iff_getElem.2 ⟨hk,h1,fun j hj=>by rw[h0 j hj];simp⟩]
theorem fi_none(h0:∀i,(hi:i<l.length)→p l[i]=false):fi p l= -1:=by
 unfold fi;rw[findIdx?_eq_none_iff.2 fun x hx=>by obtain⟨i,hi,rfl⟩:=mem_iff_getElem.1 hx;exact h0 i hi]
theorem fi_any(p:α→Bool)(l:List α):decide (fi p l≥0)=l.any p:=by
 unfold fi;cases h:l.findIdx? p with
 |none=>
  rw[findIdx?_eq_none_iff]at h;have e:l.any p=false:=by
   rw[any_eq_false];intro x hx;rw[h x hx];decide
  rw[e];decide
 |some i=>
  rw[findIdx?_eq_some_iff_getElem]at h;obtain⟨hi,hp,_⟩:=h;have e:l.any p=true:=any_eq_true.2 ⟨l[i],getElem_mem hi,hp⟩;rw[e];exact Zt (by simp only;omega)
def Asks {α:Type} (g0:Nat) (first cap:List AV) (n:Option Nat) (R:Ya→List AV→α→Prop) (h:Ya) (l:List α) (p:α→Bool):Prop:=
 ∀x∈l,∀h' c v,Ext h h'→R h' c x→LdV n c v→Looks prog ann g0 (first++[v]++cap) h' (.bool (p x))
def IXc (s:Nat) (n:Option Nat) (k:SK):SC:=(.seq (.reg [] [⟨some 4,none,.mv (.c (.int .i64 0))⟩])
 (.seq (.seq (.reg [] [⟨some 6,none,.mv (.r 0)⟩,⟨some 7,none,.len (.r 6) none⟩,⟨some 8,none,.mv (.c (.int .i64 0))⟩])
 (.block 0 (.loop (.seq (.reg [] [⟨some 9,none,.bin .lss (.r 8) (.r 7)⟩])
  (.seq (.cond (.r 9) .skip (.exit 0))
  (.seq (.block 1 (.seq (.reg [] [⟨some 10,none,.mv (.r 8)⟩,⟨some 5,none,.mv (.r 10)⟩])
   (.seq (.reg [] [⟨some 11,none,.mv (.r 1)⟩,⟨some 12,none,.mv (.r 0)⟩,⟨some 13,none,.mv (.r 5)⟩,⟨some 14,none,.ia (.r 12) (.r 13) none s⟩,⟨some 15,none,.ld (.r 14) n⟩,⟨some 16,none,k⟩])
   (.cond (.r 16) (.seq (.reg [] [⟨some 17,none,.mv (.r 5)⟩,⟨some 4,none,.mv (.r 17)⟩]) .ret) .skip))))
  (.reg [] [⟨some 18,none,.bin .add (.r 8) (.c (.int .i64 1))⟩,⟨some 8,none,.mv (.r 18)⟩])))))))
 (.seq (.reg [] [⟨some 4,none,.mv (.c (.int .i64 (-1)))⟩]) .ret)))
def CTc (ix:Nat):SC:=(.seq (.reg [] [⟨some 4,none,.mv (.c (.bool false))⟩])
 (.seq (.reg [] [⟨some 5,none,.mv (.r 0)⟩,⟨some 6,none,.mv (.r 1)⟩,⟨some 7,none,.call (.c (.fn ix [] [])) [.r 5,.r 6]⟩,⟨some 8,none,.bin .geq (.r 7) (.c (.int .i64 0))⟩,⟨some 4,none,.mv (.r 8)⟩]) .ret))
def ALc (ct g1:Nat):SC:=(.seq (.reg [] [⟨some 3,none,.hbox false (.r 1)⟩,⟨some 4,none,.mv (.c (.bool false))⟩])
 (.seq (.reg [] [⟨some 5,none,.mv (.r 0)⟩,⟨some 6,none,.mkf g1 [] [.r 3]⟩,⟨some 7,none,.call (.c (.fn ct [] [])) [.r 5,.r 6]⟩,⟨some 8,none,.un .not (.r 7)⟩,⟨some 4,none,.mv (.r 8)⟩]) .ret))
def NTc (n:Nat):SC:=(.seq (.reg [] [⟨some 2,none,.box (.r 0)⟩,⟨some 3,none,.mv (.c (.bool false))⟩])
 (.seq (.reg [] [⟨some 4,none,.ld (.r 1) none⟩,⟨some 5,none,.ld (.r 2) (some n)⟩,⟨some 6,none,.call (.r 4) [.r 5]⟩,⟨some 7,none,.un .not (.r 6)⟩,⟨some 3,none,.mv (.r 7)⟩]) .ret))
theorem ix_of{s:Nat}{n:Option Nat}{R:Ya→List AV→α→Prop} 
  (hp0:ann.pure f=false)(hf:prog.funcs[f]?=some fn)(hb:fn.body.bind (slC prog ann f)=some (IXc s n (.call (.r 11) [.r 15])))(hn:(fn.name == "runtime.NumGoroutine" || decide (fn.ntmps<2))=false)(hnt:fn.ntmps=19)(hres:fn.results.toList=[.tmp 4])
  (hR:∀h c x,R h c x→c.length=s→∃w,LdV n c w)(hm:Yqy R)(ha:Asks g0 first cap n R h l p)(h1:Sl R s h v l)(l1:l.length≤9223372036854775807)(hz0:ann.fz f=false:=by first|rfl|assumption):Looks prog ann f [v,.fn g0 first cap] h (.int .i64 (fi p l)):=by
 refine Yo (by rw[hp0];rfl) hf hb hn ?_;rw[hnt,hres];unfold IXc;refine tV ?_;apply Y0 rfl rfl h1;refine tV ?_;refine Xv (fun k:Nat=>[(0,v),(1,.fn g0 first cap),(7,.int .i64 (l.length:Int)),(8,.int .i64 (k:Int))]) (fun k h'=>Ext h h'∧k≤l.length∧∀i,(hi:i<k)→(hl:i<l.length)→p l[i]=false) (fun k=>l.length-k) 0
  tU ⟨.refl,Nat.zero_le _,fun i hi=>by omega⟩ ?_
 rintro k h' ⟨hx,hk,ht⟩;refine tW ?_;refine oB fun b2 hb2=>?_;cases b2
 case false=>
  have hkl:k=l.length:=by simp at hb2;omega
  refine tW ?_;refine Y3 (vs:=[.int .i64 (-1)]) rfl hz0 ?_ hx (by simp);rw[fi_none fun i hi=>ht i (by omega) hi];rfl
 have hkl:k<l.length:=by simpa using hb2
 refine tV ?_;apply Qg rfl rfl rfl (h1.mono hm hx) hkl;intro p1 c1 hp1 hc1 hcl1;obtain⟨w1,hw1⟩:=hR _ _ _ hc1 hcl1;apply Ji rfl rfl hp1 hw1 (fun _=> .refl);apply Yb rfl rfl rfl rfl (ha _ (getElem_mem hkl) _ _ _ hx hc1 hw1).go;rintro _ k1 ⟨rfl,hy⟩;replace hx:=hx.trans hy;clear hy hp1 hc1;cases hpk:p l[k]with
 |true=>
  refine tW ?_;refine Y3 (vs:=[.int .i64 k]) rfl hz0 ?_ hx (by simp);rw[fi_at hkl hpk fun i hi=>ht i hi (by omega)];rfl
 |false=>
  refine tW ?_;rw[w64 (n:=(k:Int)+1) (by omega) (by omega)];refine⟨k+1,by simp only;omega,tU,rfl,hx,by omega,fun i hi hl=>?_⟩;by_cases e:i=k
  ·subst e;exact hpk
  ·exact ht i (by omega) hl
theorem Yrx{ix:Nat}{w:AV} 
  (hp0:ann.pure f=false)(hf:prog.funcs[f]?=some fn)(hb:fn.body.bind (slC prog ann f)=some (CTc ix))(hn:(fn.name == "runtime.NumGoroutine" || decide (fn.ntmps<2))=false)(hnt:fn.ntmps=9)(hres:fn.results.toList=[.tmp 4])
  (hi:Looks prog ann ix [v,w] h (.int .i64 (fi p l)))(hz0:ann.fz f=false:=by first|rfl|assumption):Looks prog ann f [v,w] h (.bool (l.any p)):=by
 refine Yo (by rw[hp0];rfl) hf hb hn ?_;rw[hnt,hres];unfold CTc;refine tV ?_;apply Yb rfl rfl rfl rfl hi.go;rintro _ k1 ⟨rfl,hy⟩;refine oB fun b hb=>?_;refine tW ?_;refine Y3 (vs:=[.bool b]) rfl hz0 ?_ hy (by simp);rw[hb,←fi_any];rfl
theorem al_of{ct g1:Nat} 
  (hp0:ann.pure f=false)(hf:prog.funcs[f]?=some fn)(hb:fn.body.bind (slC prog ann f)=some (ALc ct g1))(hn:(fn.name == "runtime.NumGoroutine" || decide (fn.ntmps<2))=false)(hnt:fn.ntmps=9)(hres:fn.results.toList=[.tmp 4])
  (hc:∀b h',Ext h h'→h' b=some (.cells [.fn g0 first cap])→Looks prog ann ct [v,.fn g1 [] [.ptr b 0]] h' (.bool (l.any fun x => !p x)))(hz0:ann.fz f=false:=by first|rfl|assumption):Looks prog ann f [v,.fn g0 first cap] h (.bool (l.all p)):=by
 refine Yo (by rw[hp0];rfl) hf hb hn ?_;rw[hnt,hres];unfold ALc;refine tV ?_;apply Yee rfl rfl rfl;intro b hbn;refine tV ?_;apply Yb rfl rfl rfl rfl (hc b _ (.upd hbn) upd_same).go;rintro _ k1 ⟨rfl,hy⟩;have e:l.all p = !(l.any fun x => !p x):=by simp[all_eq_not_any_not]
 cases hb:(l.any fun x => !p x)<;>rw[hb]at e<;>rw[e]
 ·refine tW ?_;exact Y3 (vs:=[.bool true]) rfl hz0 rfl (.trans (.upd hbn) hy) (by simpa using hbn)
 ·refine tW ?_;exact Y3 (vs:=[.bool false]) rfl hz0 rfl (.trans (.upd hbn) hy) (by simpa using hbn)
theorem nt_of{n b:Nat} 
  (hp0:ann.pure f=false)(hf:prog.funcs[f]?=some fn)(hb:fn.body.bind (slC prog ann f)=some (NTc n))(hn:(fn.name == "runtime.NumGoroutine" || decide (fn.ntmps<2))=false)(hnt:fn.ntmps=8)(hres:fn.results.toList=[.tmp 3])
  (hbx:h b=some (.cells [.fn g0 first cap]))(hcl:c.length=n)(hone:c.all AV.one=true)
  (hg:Looks prog ann g0 (first++[.agg c]++cap) h (.bool y))(hz0:ann.fz f=false:=by first|rfl|assumption):Looks prog ann f [.agg c,.ptr b 0] h (.bool (!y)):=by
 refine Yo (by rw[hp0];rfl) hf hb hn ?_;rw[hnt,hres];unfold NTc;refine tS ?_;apply Yq rfl rfl hone;refine tV ?_;apply Y2 rfl rfl hbx (fun h=>by omega) rfl;apply o_loadn rfl rfl (Yw hcl);apply Yb rfl rfl rfl rfl hg.go;rintro _ k1 ⟨rfl,hy⟩;cases y
 ·refine tW ?_;exact Y3 (vs:=[.bool true]) rfl hz0 rfl hy (by simp)
 ·refine tW ?_;exact Y3 (vs:=[.bool false]) rfl hz0 rfl hy (by simp)
theorem hR_int{x:Int}(H:RN .i64 h c x)(_:c.length=1):∃w,LdV none c w:=⟨_,.one H⟩
theorem hR_pair{x:Int×Int}(_:RPair h c x)(hl:c.length=2):∃w,LdV (some 2) c w:=⟨_,.many rfl hl⟩
theorem hR_four{x:Kr}(_:RFour h c x)(hl:c.length=4):∃w,LdV (some 4) c w:=⟨_,.many rfl hl⟩
theorem hR_mth{x:Mth}(_:RMth h c x)(hl:c.length=6):∃w,LdV (some 6) c w:=⟨_,.many rfl hl⟩
theorem p161{b:Nat}(hbx:h b=some (.cells [.fn g0 first cap]))(_hone:v.one=true)(hg:Looks prog ann g0 (first++[v]++cap) h (.bool y)):Looks prog ann 220 [v,.ptr b 0] h (.bool (!y)):=by
 refine Yo rfl func220 Zw rfl ?_;refine tV ?_;apply Y2 rfl rfl hbx (fun h=>by omega) rfl;apply Yq rfl rfl trivial;apply Yb rfl rfl rfl rfl hg.go;rintro _ k1 ⟨rfl,hy⟩;cases y
 ·refine tW ?_;exact Y3 (vs:=[.bool true]) rfl rfl rfl hy (by simp)
 ·refine tW ?_;exact Y3 (vs:=[.bool false]) rfl rfl rfl hy (by simp)
theorem Ylm{l:List Int}{p:Int→Bool}(h1:Sl (RN .i64) 1 h v l)(l1:Len l)(ha:Asks g0 first cap none (RN .i64) h l p):Looks prog ann 178 [v,.fn g0 first cap] h (.bool (l.all p)):=
 al_of rfl func178 Zw rfl rfl rfl fun b h' hx hb=>
  Yrx rfl func219 Zw rfl rfl rfl
   (ix_of rfl func231 Zw rfl rfl rfl (fun _ _ _=>hR_int) RN.mono (fun x hm h2 c v hx2 hc hv=>p161 (hx2 b _ hb) (by cases hc;cases hv;rename_i e;cases e;rfl) (ha x hm h2 c v (hx.trans hx2) hc hv)) (h1.mono RN.mono hx) l1)
theorem pall_pair{l:List (Int×Int)}{p:(Int×Int)→Bool}(h1:Sl RPair 2 h v l)(l1:Len l)(ha:Asks g0 first cap (some 2) RPair h l p):Looks prog ann 181 [v,.fn g0 first cap] h (.bool (l.all p)):=
 al_of rfl func181 Zw rfl rfl rfl fun b h' hx hb=>
  Yrx rfl func221 Zw rfl rfl rfl
   (ix_of rfl func232 Zw rfl rfl rfl (fun _ _ _=>hR_pair) RPair.mono (fun x hm h2 c v hx2 hc hv=>by
    cases hv;rename_i hm2 e;subst e;exact nt_of rfl func222 Zw rfl rfl rfl (hx2 b _ hb) hm2 (RPair.one hc) (ha x hm h2 c (.agg c) (hx.trans hx2) hc (.many rfl hm2))) (h1.mono RPair.mono hx) l1)
theorem pall_trap{l:List Kr}{p:Kr→Bool}(h1:Sl RFour 4 h v l)(l1:Len l)(ha:Asks g0 first cap (some 4) RFour h l p):Looks prog ann 187 [v,.fn g0 first cap] h (.bool (l.all p)):=
 al_of rfl func187 Zw rfl rfl rfl fun b h' hx hb=>
  Yrx rfl func224 Zw rfl rfl rfl
   (ix_of rfl func213 Zw rfl rfl rfl (fun _ _ _=>hR_four) RFour.mono (fun x hm h2 c v hx2 hc hv=>by
    cases hv;rename_i hm2 e;subst e;exact nt_of rfl func225 Zw rfl rfl rfl (hx2 b _ hb) hm2 (RFour.one hc) (ha x hm h2 c (.agg c) (hx.trans hx2) hc (.many rfl hm2))) (h1.mono RFour.mono hx) l1)
theorem pall_ins{l:List Kr}{p:Kr→Bool}(h1:Sl RFour 4 h v l)(l1:Len l)(ha:Asks g0 first cap (some 4) RFour h l p):Looks prog ann 189 [v,.fn g0 first cap] h (.bool (l.all p)):=
 al_of rfl func189 Zw rfl rfl rfl fun b h' hx hb=>
  Yrx rfl func226 Zw rfl rfl rfl
   (ix_of rfl func233 Zw rfl rfl rfl (fun _ _ _=>hR_four) RFour.mono (fun x hm h2 c v hx2 hc hv=>by
    cases hv;rename_i hm2 e;subst e;exact nt_of rfl func227 Zw rfl rfl rfl (hx2 b _ hb) hm2 (RFour.one hc) (ha x hm h2 c (.agg c) (hx.trans hx2) hc (.many rfl hm2))) (h1.mono RFour.mono hx) l1)
theorem pall_mth{l:List Mth}{p:Mth→Bool}(h1:Sl RMth 6 h v l)(l1:Len l)(ha:Asks g0 first cap (some 6) RMth h l p):Looks prog ann 112 [v,.fn g0 first cap] h (.bool (l.all p)):=
 al_of rfl func112 Zw rfl rfl rfl fun b h' hx hb=>
  Yrx rfl func184 Zw rfl rfl rfl
   (ix_of rfl func223 Zw rfl rfl rfl (fun _ _ _=>hR_mth) RMth.mono (fun x hm h2 c v hx2 hc hv=>by
    cases hv;rename_i hm2 e;subst e;exact nt_of rfl func185 Zw rfl rfl rfl (hx2 b _ hb) hm2 (RMth.one hc) (ha x hm h2 c (.agg c) (hx.trans hx2) hc (.many rfl hm2))) (h1.mono RMth.mono hx) l1)
end Go.Proofs
end
