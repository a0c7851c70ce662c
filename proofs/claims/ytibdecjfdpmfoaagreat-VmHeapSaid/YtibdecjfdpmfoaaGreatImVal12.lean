import Derived.Test.YtibdecjfdpmfoaaGreatImVal10
open Go Go.Abs Go.Proofs.SlimCode Go.Img
namespace Go.Img
open List
variable {l:List Nat}
def wAt (m:Image) (a:Nat):Int:=m.words.getD a 0
def obC (m:Image) (a:Nat):Cls:=cAt m (wAt m a)
def obN (m:Image) (a:Nat):Nat:=(wAt m (a+1)).toNat
def Jf (c:Cls) (i:Nat):Bool:=decide (c.array=2)||(decide (c.array=0)&&c.refs.getD i false)
def Ycj (m:Image) (a k:Nat):List Int:=((List.range k).filter (Jf (obC m a))).map fun i=>((a+2+i:Nat):Int)
def Yga (m:Image) (a:Nat):List Int:=Ycj m a (obN m a)
def Ybi (m:Image) (l:List Nat):List Int:=l.flatMap (Yga m)
def ObP (m:Image) (a:Nat):Prop:=IsT m (wAt m a)∧((obC m a).array=0→wAt m (a+1)=(obC m a).refs.length)
structure HeapOk (m:Image) (l:List Nat):Prop where
 obs:∀a∈l,ObP m a
 stat:∀i,i<m.stat.length→m.statref.getD i false=true→RefP l (m.stat.getD i 0)
 rel:Ybi m l=m.rel
 refs:∀r∈Ybi m l,RefP l (m.words.getD r.toNat 0)
def Yr7 (m:Image):Prop:=∃l,K6 m.words=some l∧HeapOk m l
theorem Yc8(m:Image)(a k:Nat):Ycj m a (k+1)=Ycj m a k++(if Jf (obC m a) k=true then [((a+2+k:Nat):Int)] else []):=by
 unfold Ycj;rw[range_succ,filter_append,map_append]
 congr 1
 by_cases h:Jf (obC m a) k=true
 ·simp[h]
 ·simp[h]
theorem Yhb(m:Image)(a k:Nat):(Ycj m a k).length≤k:=by
 unfold Ycj;rw[length_map];exact Nat.le_trans (length_filter_le _ _) (by simp)
theorem Ypu{m:Image}(hl:∀x∈l,Ob m.words x){r:Int}(h:r∈Ybi m l):0≤r∧r.toNat<m.words.length:=by
 obtain⟨a,ha,hr⟩:=mem_flatMap.1 h;obtain⟨i,hi,rfl⟩:=mem_map.1 hr;have h1:=mem_range.1 (mem_filter.1 hi).1;obtain⟨o1,⟨_,_,o2,_⟩,o3⟩:=hl a ha;unfold obN wAt at h1;omega
theorem Ymu{w:List Int}{a:Nat}(h:a<w.length)(e:Yfk w a=some l):Ob w a∧∃l2,l=a::l2∧Yfk w (a+2+(w.getD (a+1) 0).toNat)=some l2:=by
 by_cases h2:Ob w a
 ·refine⟨h2,?_⟩;rw[Yg8 h h2]at e;cases e2:Yfk w (a+2+(w.getD (a+1) 0).toNat) with
  |none=>rw[e2]at e;cases e
  |some l2=>
   rw[e2]at e;cases e;exact⟨l2,rfl,rfl⟩
 ·rw[Yc5 h h2]at e;cases e
end Go.Img
set_option maxRecDepth 100000
namespace Go.Proofs
open List
open Go.Proofs.Tryz
variable {m:Image}
theorem BP_heap{l:List Nat}(h:K6 m.words=some l):BP (Yr7 m)=BP (HeapOk m l):=
 Yfe ⟨fun⟨l2,e,H⟩=>by rw[h]at e;cases e;exact H,fun H=>⟨l,h,H⟩⟩
theorem p83{h:Ya}{c:List AV}(hc:RImg h c m)(hw:m.WF)(hsl:m.statref.length=m.stat.length):Looks prog ann 114 [.agg c] h (.bool (BP (Yr7 m))):=by
 have hone:=hc.one;have lw:Len m.words:=hw.words.1;have lw2:=lw;unfold Len at lw2;have lst:Len m.stat:=hw.stat.1;unfold Len at lst;have h32:∀i,I32 (m.words.getD i 0):=fun i=>by
  by_cases hi:i<m.words.length
  ·rw[Zd,Zg hi];exact hw.words.2 _ (getElem_mem hi)
  ·rw[Zd,getElem?_eq_none (by omega)];unfold I32;exact⟨by decide,by decide⟩
 have hR:=hc;obtain⟨vc,vm,vg,vw,vr,vs,vf,rfl,v1,v2,v3,v4,v5,v6,v7⟩:=hc;refine Yo rfl func114 Zw rfl ?_;refine tS ?_;apply Yee (v:= .agg [vc,vm,I m.entry,I m.need,vg,vw,vr,vs,vf]) rfl rfl hone;intro b1 hb1;have hG0:Ext h (upd h b1 (some (.cells [vc,vm,I m.entry,I m.need,vg,vw,vr,vs,vf]))):= .upd hb1;have g1:upd h b1 (some (.cells [vc,vm,I m.entry,I m.need,vg,vw,vr,vs,vf])) b1=some (.cells [vc,vm,I m.entry,I m.need,vg,vw,vr,vs,vf]):=upd_same;show Yu _ _ _ _ _ _ _ _ [] (upd h b1 (some (.cells [vc,vm,I m.entry,I m.need,vg,vw,vr,vs,vf]))) _;generalize upd h b1 (some (.cells [vc,vm,I m.entry,I m.need,vg,vw,vr,vs,vf]))=G at hG0 g1 ⊢;have gG1:=g1;refine tV ?_;apply Y2 rfl rfl g1 (fun h=>by omega) rfl;apply Yb rfl rfl rfl rfl (p132 (v4.mono RN.mono hG0) lw hw.words.2);rintro r h2 ⟨hx2,hm⟩;cases hp:K6 m.words with
 |none=>
  rw[hp]at hm;simp only at hm;subst hm;refine tV ?_;apply K8 rfl;intro b3 hb3;apply Ybr (v:= .nil .ptr) rfl rfl rfl rfl rfl rfl upd_same rfl;rw[Xm];refine tW ?_;exact noB rfl (fun⟨l,e,_⟩=>by rw[hp]at e;cases e) (hG0.trans (hx2.trans (.upd hb3))) (by simp)
 |some l=>
 rw[hp]at hm;simp only at hm;obtain⟨b,rfl,HO⟩:=hm;have hl:=Yi2 hp;have hlen:m.words.length≤1048576:=by
  unfold K6 at hp;split at hp
  ·assumption
  ·cases hp
 have hsc:Yfk m.words 0=some l:=by
  unfold K6 at hp;rwa[if_pos hlen]at hp
 rw[BP_heap hp];clear hp;refine tV ?_;apply K8 rfl;intro b3 hb3;apply Ybr (v:= .ptr b 0) rfl rfl rfl rfl rfl rfl upd_same rfl;rw[Xm];have hx3:=hx2.trans (.upd (o:= .cells [.ptr b 0]) hb3);replace HO:=HO.up (.upd (o:= .cells [.ptr b 0]) hb3);have g3:upd h2 b3 (some (.cells [.ptr b 0])) b3=some (.cells [.ptr b 0]):=upd_same;show Yu _ _ _ _ _ _ _ _ [] (upd h2 b3 (some (.cells [.ptr b 0]))) _;generalize upd h2 b3 (some (.cells [.ptr b 0]))=h3 at hx3 HO g3 ⊢;have n31:b3≠b1:=fun e=>by rw[e,hx2 _ _ g1]at hb3;cases hb3
 clear hx2 hb3;refine tW ?_;apply K8 rfl;intro b5 hb5;apply Ybr (v:= .fn 192 [] [.ptr b3 0]) rfl rfl rfl rfl rfl rfl upd_same rfl;rw[Xm];have hGK:=hx3.trans (.upd (o:= .cells [.fn 192 [] [.ptr b3 0]]) hb5);replace HO:=HO.up (.upd (o:= .cells [.fn 192 [] [.ptr b3 0]]) hb5);replace g3:=Ext.upd (o:= .cells [.fn 192 [] [.ptr b3 0]]) hb5 _ _ g3;have g5:upd h3 b5 (some (.cells [.fn 192 [] [.ptr b3 0]])) b5=some (.cells [.fn 192 [] [.ptr b3 0]]):=upd_same;show Yu _ _ _ _ _ _ _ _ [] (upd h3 b5 (some (.cells [.fn 192 [] [.ptr b3 0]]))) _;generalize upd h3 b5 (some (.cells [.fn 192 [] [.ptr b3 0]]))=K at hGK HO g3 g5 ⊢;clear hx3 hb5;replace g1:=hGK _ _ g1;have hhK:=hG0.trans hGK;have hG1:∀id∈[b1],G id≠none:=fun id hid=>by
  obtain rfl:=Zm.1 hid;rw[gG1];simp
 have kx:∀{k:Ya},Ext K k→Ext h (Yv [b1] k):=fun e=>(hhK.trans e).kill fun i hi=>by
  obtain rfl:=Zm.1 hi;exact hb1
 have b1k:∀{k:Ya},Ext K k→∀id∈[b1],k id≠none:=fun e id hid=>by
  obtain rfl:=Zm.1 hid;rw[e _ _ g1];simp
 have p3k:∀{k:Ya},Ext K k→VPtr (Yv [b1] k) (.ptr b3 0) [.ptr b 0]:=fun e=> .p b3 0 [.ptr b 0] [.ptr b 0] (by rw[Ky (by simpa using n31)];exact e _ _ g3) rfl;refine tV ?_;refine Kg (fun s:Nat×List Nat×AV×List Nat=>[(1,.ptr b1 0),(3,.ptr b3 0),(5,.ptr b5 0),(6,s.2.2.1),(7,.int .i64 (s.1:Int))]) (fun s=>s.2.1)
  (fun s h'=>Acc (RN .i64) 1 K K h' s.2.1 s.2.2.1 (Ybi m s.2.2.2)∧(Ybi m s.2.2.2).length≤s.1∧s.1≤m.words.length∧(∃rest,l=s.2.2.2++rest∧Yfk m.words s.1=some rest)∧∀x∈s.2.2.2,ObP m x)
  (fun s=>m.words.length-s.1) (0,[],.nil .sl,[]) tU rfl ⟨Acc.start .refl .refl (by simp),by simp[Ybi],Nat.zero_le _,⟨l,rfl,hsc⟩,by simp⟩ ?_
 clear hsc;rintro⟨a,bx,v,pre⟩ k0 ⟨A1,hln,hale,⟨rest,hlr,hsr⟩,hob⟩;simp only at A1 hln hale hlr hsr hob ⊢;have hbx:∀i∈bx,h i=none:=fun i hi=>by
  cases e:h i with
  |none=>rfl
  |some o=>
   have:=A1.base0 hi;rw[hhK _ _ e]at this;cases this
 have hx:=A1.Gh;refine tV ?_;apply Y2 rfl rfl (hx _ _ g3) (fun h=>by omega) rfl;apply Yb rfl rfl rfl rfl (p135 (HO.up hx)).go;rintro _ k1 ⟨rfl,hy⟩;replace A1:=A1.up hy;replace hx:=hx.trans hy;clear hy;refine tV ?_;refine oI (a<m.words.length) (fun H1=>?_) (fun H1=>?_);rotate_left
 ·refine tX ?_;have hl0:rest=[]:=by
   rw[Ku H1]at hsr;exact(Option.some.inj hsr).symm
  subst hl0;rw[append_nil]at hlr;subst hlr;obtain⟨G2,f1,f2,f3,f4⟩:=A1.fold RN.mono;have f5:=f3.mono RN.mono f2;clear f3 f4 f2 f1 A1;refine tV ?_;apply Y2 rfl rfl (hx _ _ g1) (fun h=>by omega) rfl;apply Y0 rfl rfl (v6.mono RN.mono (hhK.trans hx));refine tV ?_;refine Xv (fun k:Nat=>[(1,.ptr b1 0),(5,.ptr b5 0),(6,v),(89,vs),(90,.int .i64 (m.stat.length:Int)),(91,.int .i64 (k:Int))]) (fun k h'=>Ext k1 h'∧k≤m.stat.length∧∀i,i<k→m.statref.getD i false=true→RefP l (m.stat.getD i 0)) (fun k=>m.stat.length-k) 0
   tU ⟨.refl,Nat.zero_le _,fun i hi=>by omega⟩ ?_
  rintro k k2 ⟨hy,hk,ht⟩;replace f5:=f5.mono RN.mono hy;replace hx:=hx.trans hy;refine tW ?_;refine oI (k<m.stat.length) (fun H2=>?_) (fun H2=>?_);rotate_left
  ·refine tW ?_;apply Y2 rfl rfl (hx _ _ g1) (fun h=>by omega) rfl;have hlr:Len (Ybi m l):=by unfold Len;omega
   apply Yb rfl rfl rfl rfl (p72 f5 (v5.mono RN.mono (hhK.trans hx)) hlr hw.rel.1).go;rintro _ k3 ⟨rfl,hz⟩;replace hx:=hx.trans hz;replace f5:=f5.mono RN.mono hz;clear hz;by_cases H3:Ybi m l=m.rel;rotate_left
   ·rw[Zx H3];refine tW ?_;exact noB rfl (fun h=>H3 h.rel) (hhK.trans hx) hbx
   rw[Zt H3];refine tW ?_;apply Yb rfl rfl rfl rfl (Ybq (P:=fun r=>RefP l (m.words.getD r.toNat 0)) (Ylm f5 hlr (Ymb fun r hr h2 e=>by
    obtain⟨q1,q2⟩:=Ypu hl hr;obtain⟨i,rfl⟩:∃i:Nat,r=i:=⟨r.toNat,by omega⟩;exact p138 (HO.up (hx.trans e)) (RImg.mono _ _ _ _ ((hhK.trans hx).trans e) hR) hw (e _ _ (hx _ _ g1)) (e _ _ (hx _ _ g3)) (e _ _ (hx _ _ g5)) hl q2))).go
   rintro _ k4 ⟨rfl,hz⟩;replace hx:=hx.trans hz;clear hz;by_cases H4:∀r∈Ybi m l,RefP l (m.words.getD r.toNat 0);rotate_left
   ·rw[Yf H4];refine tW ?_;exact noB rfl (fun h=>H4 h.refs) (hhK.trans hx) hbx
   rw[Ym H4];refine tW ?_;exact Ycf rfl ⟨hob,fun i hi=>ht i (by omega),H3,H4⟩ (hhK.trans hx) hbx
  refine tV ?_;apply Qg rfl rfl rfl (v6.mono RN.mono (hhK.trans hx)) H2;intro p c hp hc _;apply Ji rfl rfl hp (.one hc) (fun _=> .refl);refine tV ?_;apply Y2 rfl rfl (hx _ _ g1) (fun h=>by omega) rfl;refine tV ?_;apply Qg rfl rfl rfl (v7.mono RB.mono (hhK.trans hx)) (show k<_ by omega);intro p2 c2 hp2 hc2 _;apply Ji rfl rfl hp2 (.one hc2) (fun _=> .refl);have hr1:m.statref.getD k false=m.statref[k]'(by omega):=by rw[Zd,Zg (by omega)];rfl
  have hr2:m.stat.getD k 0=m.stat[k]:=by rw[Zd,Zg (by omega)];rfl
  cases hsr1:m.statref[k]'(by omega) with
  |false=>
   refine tW ?_;rw[w64 (n:=(k:Int)+1) (by omega) (by omega)];refine⟨k+1,by simp only;omega,tU,rfl,hy,by omega,fun i hi hti=>?_⟩;by_cases e:i=k;rotate_left
   ·exact ht i (by omega) hti
   subst e;rw[hr1,hsr1]at hti;cases hti
  |true=>
   refine tW ?_;apply Y2 rfl rfl (hx _ _ g5) (fun h=>by omega) rfl;refine tV ?_;apply Yb rfl rfl rfl rfl (p133 (HO.up hx) (hx _ _ g3) hl lw (hw.stat.2 _ (getElem_mem H2))).go;rintro _ k3 ⟨rfl,hz⟩;by_cases H3:RefP l m.stat[k];rotate_left
   ·rw[Yf H3];refine tW ?_;exact noB rfl (fun h=>H3 (by have:=h.stat k H2 (by rw[hr1,hsr1]);rwa[hr2]at this)) (hhK.trans (hx.trans hz)) hbx
   rw[Ym H3];refine tW ?_;rw[w64 (n:=(k:Int)+1) (by omega) (by omega)];refine⟨k+1,by simp only;omega,tU,rfl,hy.trans hz,by omega,fun i hi hti=>?_⟩;by_cases e:i=k;rotate_left
   ·exact ht i (by omega) hti
   subst e;rw[hr2];exact H3
 obtain⟨hOb,rest2,rfl,hsr2⟩:=Ymu H1 hsr;have hal:a∈l:=by rw[hlr];simp
 have hnn:0≤m.words.getD (a+1) 0:=hOb.2.1.2.2.1;have hN:(obN m a:Int)=m.words.getD (a+1) 0:=by unfold obN wAt;omega
 have hN2:=hOb.2.2;have ha1:=hOb.1;clear hsr hOb;refine tX ?_;apply Ybe [b1] [.B,.A,.A,.A,.A,.A] (b1k hx) rfl;apply Yff rfl rfl (.p b1 0 [vc,vm,I m.entry,I m.need,vg,vw,vr,vs,vf] [vc,vm,I m.entry,I m.need,vg,vw,vr,vs,vf] (hx _ _ g1) rfl) (by simp[PtIn]) (.many rfl rfl);apply x_ldA rfl rfl (p3k hx) (.one rfl);apply x_v rfl rfl trivial;apply Yfq rfl rfl rfl (by exact p137 ((HO.up hx).kill hG1) hl lw hw.words.2 hal);intro k2 hy;replace A1:=A1.up hy;replace hx:=hx.trans hy;clear hy;apply Yfq rfl rfl rfl (by exact p79 (RImg.mono _ _ _ _ (kx hx) hR) hw);intro k3 hy;replace A1:=A1.up hy;replace hx:=hx.trans hy;clear hy;by_cases H2:IsT m (m.words.getD a 0);rotate_left
 ·rw[Yf H2];apply x_v rfl rfl trivial;apply Yba;refine tW ?_;exact noB rfl (fun h=>H2 (h.obs a hal).1) (hhK.trans hx) hbx
 rw[Ym H2];apply x_v rfl rfl trivial;apply Yba;obtain⟨hn1,em⟩:=Yk5 H2;have hn0:m.words.getD a 0=((m.words.getD a 0).toNat:Int):=by have:=H2.1;omega
 refine tX ?_;apply Ybe [b1] [.A,.A,.B,.A,.A,.A,.A,.A,.C,.D] (b1k hx) rfl;apply x_v rfl rfl trivial;apply x_v rfl rfl trivial;apply x_ld rfl rfl (hx _ _ g1) (by simp) rfl;apply x_ldA rfl rfl (p3k hx) (.one rfl);apply x_v rfl rfl trivial;apply Yfq rfl rfl rfl (by exact p137 ((HO.up hx).kill hG1) hl lw hw.words.2 hal);intro k4 hy;replace A1:=A1.up hy;replace hx:=hx.trans hy;clear hy;apply x_iaGK (z:=(m.words.getD a 0).toNat) rfl rfl (by rw[←hn0];rfl) (kx hx) v1 hn1;intro p d hp hd hdl;have hone2:=hd.one;have eC:obC m a=m.classes[(m.words.getD a 0).toNat]:=em;rw[←eC]at hd;obtain⟨wr,ws,wt,wf,rfl,u1,_⟩:=hd;apply x_ldA rfl rfl hp (.many rfl hdl);apply Ymk rfl;intro b8 hb8;have A2:=A1.box (o:= .cells [.str (obC m a).name,I (obC m a).super,I (obC m a).init,wr,ws,wt,wf,I (obC m a).array,I (obC m a).elem,.bool (obC m a).thrown]) hb8;have n81:b8≠b1:=fun e=>by rw[e,hx _ _ g1]at hb8;cases hb8
 refine x_D (R:=fun E' bx' k=>E'=Qn none _∧bx'=b8::bx∧k=upd k4 b8 (some (.cells [.str (obC m a).name,I (obC m a).super,I (obC m a).init,wr,ws,wt,wf,I (obC m a).array,I (obC m a).elem,.bool (obC m a).thrown]))) (Ybr (v:= .agg [.str (obC m a).name,I (obC m a).super,I (obC m a).init,wr,ws,wt,wf,I (obC m a).array,I (obC m a).elem,.bool (obC m a).thrown]) rfl rfl rfl rfl rfl (eC▸hone2) upd_same (Yn (by rfl)) (X8 ⟨rfl,rfl,rfl,Xm⟩)) ?_;rintro _ _ _ ⟨rfl,rfl,rfl⟩;refine⟨fun id hid=>by obtain rfl:=Zm.1 hid;rw[Ys n81.symm,hx _ _ g1];simp,?_⟩;apply Yba;have e8:upd k4 b8 (some (.cells [.str (obC m a).name,I (obC m a).super,I (obC m a).init,wr,ws,wt,wf,I (obC m a).array,I (obC m a).elem,.bool (obC m a).thrown])) b8=some (.cells [.str (obC m a).name,I (obC m a).super,I (obC m a).init,wr,ws,wt,wf,I (obC m a).array,I (obC m a).elem,.bool (obC m a).thrown]):=upd_same;have hx45:Ext k4 (Yv [b8] (upd k4 b8 (some (.cells [.str (obC m a).name,I (obC m a).super,I (obC m a).init,wr,ws,wt,wf,I (obC m a).array,I (obC m a).elem,.bool (obC m a).thrown])))):=(Ext.upd hb8).kill fun i hi=>by
  obtain rfl:=Zm.1 hi;exact hb8
 generalize upd k4 b8 (some (.cells [.str (obC m a).name,I (obC m a).super,I (obC m a).init,wr,ws,wt,wf,I (obC m a).array,I (obC m a).elem,.bool (obC m a).thrown]))=k5 at A2 e8 hx45 ⊢;clear A1 hp;refine tv ?_;refine Yg9 (σ:=Unit) (fun _=>[(1,.ptr b1 0),(3,.ptr b3 0),(5,.ptr b5 0),(6,v),(7,.int .i64 (a:Int)),(8,.ptr b8 0)]) (fun _=>b8::bx) (fun _ h'=>Ext k5 h'∧Acc (RN .i64) 1 K K h' (b8::bx) v (Ybi m pre)∧ObP m a) ?_ ?_
 ·have hbx8:∀i∈b8::bx,h i=none:=fun i hi=>by
   cases e:h i with
   |none=>rfl
   |some o=>
    have:=A2.base0 hi;rw[hhK _ _ e]at this;cases this
  refine tX ?_;apply Ybe [b8] [.A,.B,.A,.A,.A,.A,.A,.A,.B,.C,.A,.A] (fun id hid=>by obtain rfl:=Zm.1 hid;rw[e8];simp) rfl;apply x_v rfl rfl trivial;apply x_ld rfl rfl e8 (by simp) rfl;apply Ymj rfl rfl trivial;intro b3' hb3';by_cases H3:(obC m a).array=0;rotate_left
  ·obtain rfl:b3'=false:=by
    rw[hb3'];exact Zx H3
   apply x_v rfl rfl trivial;apply Ki rfl rfl;apply Ki rfl rfl;apply Ki rfl rfl;apply Ki rfl rfl;apply Ki rfl rfl;apply Ki rfl rfl;apply Ki rfl rfl;apply x_v rfl rfl trivial;apply Yba;refine tW ?_;refine⟨(),tU,rfl,.refl,A2,H2,fun e=>absurd e H3⟩
  obtain rfl:b3'=true:=by
   rw[hb3'];exact Zt H3
  apply x_v rfl rfl trivial;apply Ya3 rfl;apply x_ldA rfl rfl (.p b3 0 [.ptr b 0] [.ptr b 0] (hx45 _ _ (hx _ _ g3)) rfl) (.one rfl);apply Ya3 rfl;apply x_v rfl rfl trivial;apply Ya3 rfl;apply Yfq rfl rfl rfl (by exact p136 (HO.up (hx.trans hx45)) hl lw hw.words.2 hal);intro k6 hy;apply Ya3 rfl;apply x_v rfl rfl trivial;apply Ya3 rfl;apply x_ld rfl rfl (hy _ _ e8) (by simp) rfl;apply Ya3 rfl;apply Ypd rfl rfl (u1.mono RB.mono (hhK.trans (A2.Gh.trans hy)));apply Ya3 rfl;apply Ymj rfl rfl trivial;intro b4 hb4;apply x_v rfl rfl trivial;apply Yba;by_cases H4:m.words.getD (a+1) 0=(obC m a).refs.length;rotate_left
  ·obtain rfl:b4=true:=by
    rw[hb4];simpa using H4
   refine tW ?_;exact noB rfl (fun h=>H4 ((h.obs a hal).2 H3)) (hhK.trans (A2.Gh.trans hy)) hbx8
  obtain rfl:b4=false:=by
   rw[hb4];simpa using H4
  refine tW ?_;refine⟨(),tU,rfl,hy,A2.up hy,H2,fun _=>H4⟩
 rintro _ k7 ⟨hy,A3,hObP⟩;replace e8:=hy _ _ e8;clear hy A2 hx45 hx;have hx:=A3.Gh;refine tV ?_;apply Y2 rfl rfl (hx _ _ g3) (fun h=>by omega) rfl;refine tV ?_;apply Yb rfl rfl rfl rfl (p136 (HO.up hx) hl lw hw.words.2 hal).go;rintro _ k8 ⟨rfl,hy⟩;replace A3:=A3.up hy;replace e8:=hy _ _ e8;clear hy hx;refine tV ?_;refine Xv (fun s:Nat×AV=>[(1,.ptr b1 0),(3,.ptr b3 0),(5,.ptr b5 0),(6,s.2),(7,.int .i64 (a:Int)),(8,.ptr b8 0),(60,.int .i64 (m.words.getD (a+1) 0)),(61,.int .i64 (s.1:Int))])
  (fun s h'=>Acc (RN .i64) 1 K K h' (b8::bx) s.2 (Ybi m pre++Ycj m a s.1)∧h' b8=k8 b8∧s.1≤obN m a) (fun s=>obN m a-s.1) (0,v)
  tU ⟨by simpa[Ycj]using A3,rfl,Nat.zero_le _⟩ ?_
 rintro⟨k,v2⟩ k9 ⟨A4,f8,hk⟩;simp only at A4 f8 hk ⊢;rw[e8]at f8;refine tW ?_;refine oI (k<obN m a) (fun H5=>?_) (fun H5=>?_);rotate_left
 ·refine tW ?_;have hx:=A4.Gh;apply Y2 rfl rfl (hx _ _ g3) (fun h=>by omega) rfl;refine tV ?_;apply Yb rfl rfl rfl rfl (p136 (HO.up hx) hl lw hw.words.2 hal).go;rintro _ k10 ⟨rfl,hy⟩;replace A4:=A4.up hy;apply Y1 (w:=I (2+m.words.getD (a+1) 0)) rfl rfl trivial (by rw[w64 (by omega) (by omega)]);apply Y1 (w:=I ((a+2+(m.words.getD (a+1) 0).toNat:Nat):Int)) rfl rfl trivial (by rw[w64 (by omega) (by omega)];congr 1;omega);refine tW ?_;have hkN:k=obN m a:=by omega
  have hrl:=Yhb m a k;have hap:Ybi m (pre++[a])=Ybi m pre++Ycj m a k:=by
   rw[hkN];unfold Ybi Yga;simp
  refine⟨(a+2+(m.words.getD (a+1) 0).toNat,b8::bx,v2,pre++[a]),by simp only;omega,tU,rfl,by simp only;rw[hap];exact A4,?_,by simp only;omega,⟨rest2,by simp only;rw[hlr];simp,hsr2⟩,fun x hx=>?_⟩
  ·simp only;rw[hap,length_append];omega
  ·rcases mem_append.1 hx with hx|hx
   ·exact hob x hx
   ·obtain rfl:=Zm.1 hx;exact hObP
 refine tV ?_;apply Y2 rfl rfl f8 (fun h=>by omega) rfl;refine tV ?_;refine oI ((obC m a).array=2) (fun H6=>?_) (fun H6=>?_)
 ·have hr:Jf (obC m a) k=true:=by simp[Jf,H6]
  refine tW ?_;rw[w64 (n:=(a:Int)+2) (by omega) (by omega),w64 (n:=(a:Int)+2+(k:Int)) (by omega) (by omega),show(a:Int)+2+(k:Int)=((a+2+k:Nat):Int) by omega];apply Yq rfl rfl ⟨rfl,rfl⟩;obtain⟨cs,hcs,O⟩:=A4.osl;apply Yfm (n:=1) rfl rfl rfl rfl O rfl rfl rfl (by have:=Yhb m a k;simp only[length_append];omega);intro v3 k10 O2 hm2;have A5:=A4.app hcs (show RN .i64 _ [I ((a+2+k:Nat):Int)] ((a+2+k:Nat):Int) from rfl) rfl O2;have f9:=A4.live hm2 (by simp) f8;refine tW ?_;rw[w64 (n:=(k:Int)+1) (by omega) (by omega)];refine⟨(k+1,v3),by simp only;omega,tU,rfl,?_,f9.trans e8.symm,by simp only;omega⟩;simp only;rw[Yc8,if_pos hr,←append_assoc];exact A5
 refine tV ?_;apply Y2 rfl rfl f8 (fun h=>by omega) rfl;refine tV ?_;refine oI ((obC m a).array=0) (fun H7=>?_) (fun H7=>?_);rotate_left
 ·have hr:Jf (obC m a) k=false:=by simp[Jf,H6,H7]
  refine tW ?_;rw[w64 (n:=(k:Int)+1) (by omega) (by omega)];refine⟨(k+1,v2),by simp only;omega,tU,rfl,?_,f8.trans e8.symm,by simp only;omega⟩;simp only;rw[Yc8,if_neg (by rw[hr];decide),append_nil];exact A4
 have hkr:k<(obC m a).refs.length:=by have:=hObP.2 H7;unfold wAt at this;omega
 refine tV ?_;apply Y2 rfl rfl f8 (fun h=>by omega) rfl;refine tV ?_;apply Qg rfl rfl rfl (u1.mono RB.mono (hhK.trans A4.Gh)) hkr;intro p2 c2 hp2 hc2 _;refine tV ?_;apply Ji rfl rfl hp2 (.one hc2) (fun _=> .refl);have hgr:(obC m a).refs.getD k false=(obC m a).refs[k]:=by rw[Zd,Zg hkr];rfl
 cases hrk:(obC m a).refs[k]with
 |true=>
  have hr:Jf (obC m a) k=true:=by unfold Jf;rw[hgr,hrk];simp[H7]
  refine tW ?_;rw[w64 (n:=(a:Int)+2) (by omega) (by omega),w64 (n:=(a:Int)+2+(k:Int)) (by omega) (by omega),show(a:Int)+2+(k:Int)=((a+2+k:Nat):Int) by omega];apply Yq rfl rfl ⟨rfl,rfl⟩;obtain⟨cs,hcs,O⟩:=A4.osl;apply Yfm (n:=1) rfl rfl rfl rfl O rfl rfl rfl (by have:=Yhb m a k;simp only[length_append];omega);intro v3 k10 O2 hm2;have A5:=A4.app hcs (show RN .i64 _ [I ((a+2+k:Nat):Int)] ((a+2+k:Nat):Int) from rfl) rfl O2;have f9:=A4.live hm2 (by simp) f8;refine tW ?_;rw[w64 (n:=(k:Int)+1) (by omega) (by omega)];refine⟨(k+1,v3),by simp only;omega,tU,rfl,?_,f9.trans e8.symm,by simp only;omega⟩;simp only;rw[Yc8,if_pos hr,←append_assoc];exact A5
 |false=>
  have hr:Jf (obC m a) k=false:=by unfold Jf;rw[hgr,hrk];simp[H6]
  refine tW ?_;rw[w64 (n:=(k:Int)+1) (by omega) (by omega)];refine⟨(k+1,v2),by simp only;omega,tU,rfl,?_,f8.trans e8.symm,by simp only;omega⟩;simp only;rw[Yc8,if_neg (by rw[hr];decide),append_nil];exact A4
end Go.Proofs
namespace Go.Img
open List
def Yew (m:Image):Prop:=(1≤m.classes.length∧m.classes.length≤200)∧m.methods.length≤400∧m.stat.length≤200∧m.stat.length=m.statref.length
structure FirstP (m:Image):Prop where
 sizes:Yew m
 given:Yoc m
 supers:Ypb m
 entry:Bare m m.entry
 need:m.need= -1∨IsT m m.need
structure ValidP (m:Image):Prop where
 first:FirstP m
 kinds:∀i,(hi:i<m.classes.length)→Yr6 m i m.classes[i]
 meths:∀x∈m.methods,MethP m x
 heap:Yr7 m
end Go.Img
set_option maxRecDepth 100000
namespace Go.Proofs
open List
open Go.Proofs.Tryz
theorem p25{h:Ya}{c:List AV}{m:Image}(hc:RImg h c m)(hw:m.WF)(hfb:∀x∈m.classes,x.faces.length≤1048577):Looks prog ann 48 [.agg c] h (.bool (BP (ValidP m))):=by
 have hone:=hc.one;have hR:=hc;obtain⟨vc,vm,vg,vw,vr,vs,vf,rfl,v1,v2,v3,v4,v5,v6,v7⟩:=hc;have lcl:Len m.classes:=hw.classes.1;have lme:Len m.methods:=hw.methods.1;have lst:Len m.stat:=hw.stat.1;have lsr:Len m.statref:=hw.statref;unfold Len at lcl lst lsr;refine Yo rfl func48 Zw rfl ?_;refine tS ?_;apply Yq rfl rfl hone;refine tV ?_;apply Yq (v:= .agg [vc,vm,I m.entry,I m.need,vg,vw,vr,vs,vf]) rfl rfl trivial;apply K8 rfl;intro b3 hb3;apply Ybr (v:= .agg [vc,vm,I m.entry,I m.need,vg,vw,vr,vs,vf]) rfl rfl rfl rfl rfl hone upd_same (Yn (by rfl));rw[Xm];have hK:Ext h (upd h b3 (some (.cells [vc,vm,I m.entry,I m.need,vg,vw,vr,vs,vf]))):= .upd hb3;have g3:upd h b3 (some (.cells [vc,vm,I m.entry,I m.need,vg,vw,vr,vs,vf])) b3=some (.cells [vc,vm,I m.entry,I m.need,vg,vw,vr,vs,vf]):=upd_same;show Yu _ _ _ _ _ _ _ _ [b3] (upd h b3 (some (.cells [vc,vm,I m.entry,I m.need,vg,vw,vr,vs,vf]))) _;generalize upd h b3 (some (.cells [vc,vm,I m.entry,I m.need,vg,vw,vr,vs,vf]))=K at hK g3 ⊢;have hbx:∀i∈[b3],h i=none:=fun i hi=>by
  obtain rfl:=Zm.1 hi;exact hb3
 refine tv ?_;refine tv ?_;refine Jc (σ:=Unit) (fun _=>[(1,.tptr [vc,vm,I m.entry,I m.need,vg,vw,vr,vs,vf] 0),(3,.ptr b3 0),(4,.bool (BP (Yew m)))]) (fun _ h'=>Ext K h') ?_ ?_
 ·have hx:Ext K K:= .refl;refine tV ?_;apply Y0 rfl rfl (v1.mono RCls.mono hK);refine tV ?_;apply Yb rfl rfl rfl rfl (p75 (n:=(m.classes.length:Int)) (a:=1) (b:=200)).go;rintro _ k1 ⟨rfl,hy⟩;replace hx:=hx.trans hy;clear hy;by_cases H1:1≤(m.classes.length:Int)∧(m.classes.length:Int)≤200;rotate_left
  ·rw[Yf H1];rw[show BP (Yew m)=false from Yf (fun h=>H1 (by have:=h.1;omega))];refine tW ?_;refine⟨(),tU,rfl,hx⟩
  rw[Ym H1];refine tW ?_;apply Y0 rfl rfl (v2.mono RMth.mono (hK.trans hx));refine tV ?_;refine oI (m.methods.length≤400) (fun H2=>?_) (fun H2=>?_);rotate_left
  ·rw[show BP (Yew m)=false from Yf (fun h=>H2 h.2.1)];refine tW ?_;refine⟨(),tU,rfl,hx⟩
  refine tW ?_;apply Y0 rfl rfl (v6.mono RN.mono (hK.trans hx));refine tV ?_;refine oI (m.stat.length≤200) (fun H3=>?_) (fun H3=>?_);rotate_left
  ·rw[show BP (Yew m)=false from Yf (fun h=>H3 h.2.2.1)];refine tW ?_;refine⟨(),tU,rfl,hx⟩
  refine tW ?_;apply Y0 rfl rfl (v6.mono RN.mono (hK.trans hx));refine tV ?_;apply Y0 rfl rfl (v7.mono RB.mono (hK.trans hx));refine tV ?_;refine oI (m.stat.length=m.statref.length) (fun H4=>?_) (fun H4=>?_);rotate_left
  ·rw[show BP (Yew m)=false from Yf (fun h=>H4 h.2.2.2)];refine tW ?_;refine⟨(),tU,rfl,hx⟩
  rw[show BP (Yew m)=true from Ym ⟨by omega,H2,H3,H4⟩];refine tW ?_;refine⟨(),tU,rfl,hx⟩
 rintro _ k0 hx;refine Jc (σ:=Unit) (fun _=>[(1,.tptr [vc,vm,I m.entry,I m.need,vg,vw,vr,vs,vf] 0),(3,.ptr b3 0)]) (fun _ h'=>Ext K h'∧FirstP m) ?_ ?_
 ·by_cases H1:Yew m;rotate_left
  ·rw[Yf H1];refine tW ?_;exact noB rfl (fun h=>H1 h.first.sizes) (hK.trans hx) hbx
  rw[Ym H1];refine tW ?_;apply X3 rfl rfl (hx _ _ g3) (fun h=>by omega) rfl;refine tV ?_;apply Yb rfl rfl rfl rfl (p76 (RImg.mono _ _ _ _ (hK.trans hx) hR) hw).go;rintro _ k1 ⟨rfl,hy⟩;replace hx:=hx.trans hy;clear hy;by_cases H2:Yoc m;rotate_left
  ·rw[Yf H2];refine tW ?_;exact noB rfl (fun h=>H2 h.first.given) (hK.trans hx) hbx
  rw[Ym H2];refine tW ?_;apply X3 rfl rfl (hx _ _ g3) (fun h=>by omega) rfl;refine tV ?_;apply Yb rfl rfl rfl rfl (p77 (RImg.mono _ _ _ _ (hK.trans hx) hR) hw).go;rintro _ k2 ⟨rfl,hy⟩;replace hx:=hx.trans hy;clear hy;by_cases H3:Ypb m;rotate_left
  ·rw[Yf H3];refine tW ?_;exact noB rfl (fun h=>H3 h.first.supers) (hK.trans hx) hbx
  rw[Ym H3];refine tW ?_;apply X3 rfl rfl (hx _ _ g3) (fun h=>by omega) rfl;refine tV ?_;apply Yb rfl rfl rfl rfl (p78 (RImg.mono _ _ _ _ (hK.trans hx) hR) hw).go;rintro _ k3 ⟨rfl,hy⟩;replace hx:=hx.trans hy;clear hy;by_cases H4:Bare m m.entry;rotate_left
  ·rw[Yf H4];refine tW ?_;exact noB rfl (fun h=>H4 h.first.entry) (hK.trans hx) hbx
  rw[Ym H4];refine tW ?_;refine oI (m.need≠ -1) (fun H5=>?_) (fun H5=>?_);rotate_left
  ·refine tW ?_;refine⟨(),tU,rfl,hx,H1,H2,H3,H4,.inl (by omega)⟩
  refine tW ?_;apply X3 rfl rfl (hx _ _ g3) (fun h=>by omega) rfl;refine tV ?_;apply Yb rfl rfl rfl rfl (p79 (RImg.mono _ _ _ _ (hK.trans hx) hR) hw).go;rintro _ k4 ⟨rfl,hy⟩;replace hx:=hx.trans hy;clear hy;by_cases H6:IsT m m.need;rotate_left
  ·rw[Yf H6];refine tW ?_;exact noB rfl (fun h=>h.first.need.elim H5 H6) (hK.trans hx) hbx
  rw[Ym H6];refine tW ?_;refine⟨(),tU,rfl,hx,H1,H2,H3,H4,.inr H6⟩
 clear hx;rintro _ k1 ⟨hx,hF⟩;refine tV ?_;apply Y0 rfl rfl (v1.mono RCls.mono (hK.trans hx));refine tV ?_;refine Kg (fun s:Nat×List Nat=>[(1,.tptr [vc,vm,I m.entry,I m.need,vg,vw,vr,vs,vf] 0),(3,.ptr b3 0),(66,vc),(67,.int .i64 (m.classes.length:Int)),(68,.int .i64 (s.1:Int))]) (fun s=>s.2)
  (fun s h'=>Ext K h'∧(∀i∈s.2,h i=none)∧s.1≤m.classes.length∧∀i,i<s.1→(hi:i<m.classes.length)→Yr6 m i m.classes[i]) (fun s=>m.classes.length-s.1) (0,[b3])
  tU rfl ⟨hx,hbx,Nat.zero_le _,fun i hi=>by omega⟩ ?_
 clear hbx hx;rintro⟨k,bx⟩ k2 ⟨hx,hbx,hk,ht⟩;simp only at hx hbx hk ht ⊢;refine tW ?_;refine oI (k<m.classes.length) (fun H1=>?_) (fun H1=>?_);rotate_left
 ·refine tW ?_;apply X3 rfl rfl (hx _ _ g3) (fun h=>by omega) rfl;refine tV ?_;apply Yb rfl rfl rfl rfl (Ybq (P:=fun x=>MethP m x) (pall_mth (v2.mono RMth.mono (hK.trans hx)) lme (Yin fun x hxm h2 e i hc2 _=>p82 (RImg.mono _ _ _ _ ((hK.trans hx).trans i) hR) hw hc2 (hw.methods.2 x hxm)))).go;rintro _ k3 ⟨rfl,hy⟩;replace hx:=hx.trans hy;clear hy;by_cases H2:∀x∈m.methods,MethP m x;rotate_left
  ·rw[Yf H2];refine tW ?_;exact noB rfl (fun h=>H2 h.meths) (hK.trans hx) hbx
  rw[Ym H2];refine tW ?_;apply X3 rfl rfl (hx _ _ g3) (fun h=>by omega) rfl;refine tV ?_;apply Yb rfl rfl rfl rfl (p83 (RImg.mono _ _ _ _ (hK.trans hx) hR) hw hF.sizes.2.2.2.symm).go;rintro _ k4 ⟨rfl,hy⟩;replace hx:=hx.trans hy;clear hy;by_cases H3:Yr7 m;rotate_left
  ·rw[Yf H3];refine tW ?_;exact noB rfl (fun h=>H3 h.heap) (hK.trans hx) hbx
  rw[Ym H3];refine tW ?_;exact Ycf rfl ⟨hF,fun i hi=>ht i (by omega) hi,H2,H3⟩ (hK.trans hx) hbx
 refine tV ?_;apply Qg rfl rfl rfl (v1.mono RCls.mono (hK.trans hx)) H1;intro p d hp hd hdl;apply Ji rfl rfl hp (.many rfl hdl) (fun _=> .refl);apply K8 rfl;intro b6 hb6;refine tV ?_;apply Ybr (v:= .agg d) rfl rfl rfl rfl hdl hd.one upd_same (Yn (show d.length=_ by rw[hdl];rfl));rw[Xm];have g6:upd k2 b6 (some (.cells d)) b6=some (.cells d):=upd_same;have hd2:RCls (upd k2 b6 (some (.cells d))) d m.classes[k]:=RCls.mono _ _ _ _ (.upd hb6) hd;have hb6h:h b6=none:=by
  cases e:h b6 with
  |none=>rfl
  |some o=>rw[hx _ _ (hK _ _ e)]at hb6;cases hb6
 replace hx:=hx.trans (.upd (o:= .cells d) hb6);show Yu _ _ _ _ _ _ _ _ (b6::bx) (upd k2 b6 (some (.cells d))) _;generalize upd k2 b6 (some (.cells d))=k3 at g6 hd2 hx ⊢;have hbx2:∀i∈b6::bx,h i=none:=by
  intro i hi;rcases mem_cons.1 hi with rfl|hi
  ·exact hb6h
  ·exact hbx i hi
 refine tV ?_;apply X3 rfl rfl (hx _ _ g3) (fun h=>by omega) rfl;refine tV ?_;apply X3 rfl rfl g6 (fun h=>by omega) (Yw hdl);refine tV ?_;apply Yb rfl rfl rfl rfl (p80 (RImg.mono _ _ _ _ (hK.trans hx) hR) hw hd2 (hw.classes.2 _ (getElem_mem H1)) (hfb _ (getElem_mem H1))).go;rintro _ k4 ⟨rfl,hy⟩;replace hx:=hx.trans hy;clear hy;by_cases H2:Yr6 m k m.classes[k];rotate_left
 ·rw[Yf H2];refine tW ?_;exact noB rfl (fun h=>H2 (h.kinds k H1)) (hK.trans hx) hbx2
 rw[Ym H2];refine tW ?_;rw[w64 (n:=(k:Int)+1) (by omega) (by omega)];refine⟨(k+1,b6::bx),by simp only;omega,tU,rfl,hx,hbx2,by simp only;omega,fun i hi hi2=>?_⟩;by_cases e:i=k
 ·subst e;exact H2
 ·exact ht i (by simp only at hi;omega) hi2
end Go.Proofs
