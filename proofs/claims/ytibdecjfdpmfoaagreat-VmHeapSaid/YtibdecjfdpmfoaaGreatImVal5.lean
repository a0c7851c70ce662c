import Derived.Test.YtibdecjfdpmfoaaGreatImVal2
section
open Go Go.Abs Go.Proofs.SlimCode Go.Img
set_option maxRecDepth 100000
namespace Go.Proofs
open List
open Go.Proofs.Tryz
variable {v:AV} {o x:Int} {l:List Int} {h:Ya}
def eqTo (n x:Int):Bool:=decide (n=x)
theorem ixn_of{f:Nat}{fn:Func} 
  (hp0:ann.pure f=false)(hf:prog.funcs[f]?=some fn)(hb:fn.body.bind (slC prog ann f)=some (IXc 1 none (.bin .eql (.r 11) (.r 15))))(hn:(fn.name == "runtime.NumGoroutine" || decide (fn.ntmps<2))=false)(hnt:fn.ntmps=19)(hres:fn.results.toList=[.tmp 4])
  (h1:Sl (RN .i64) 1 h v l)(l1:l.length≤9223372036854775807)(hz0:ann.fz f=false:=by first|rfl|assumption):Looks prog ann f [v,I x] h (.int .i64 (fi (eqTo x) l)):=by
 refine Yo (by rw[hp0];rfl) hf hb hn ?_;rw[hnt,hres];unfold IXc;refine tV ?_;apply Y0 rfl rfl h1;refine tV ?_;refine Xv (fun k:Nat=>[(0,v),(1,I x),(7,.int .i64 (l.length:Int)),(8,.int .i64 (k:Int))]) (fun k h'=>Ext h h'∧k≤l.length∧∀i,(hi:i<k)→(hl:i<l.length)→(eqTo x) l[i]=false) (fun k=>l.length-k) 0
  tU ⟨.refl,Nat.zero_le _,fun i hi=>by omega⟩ ?_
 rintro k h' ⟨hx,hk,ht⟩;refine tW ?_;refine oB fun b2 hb2=>?_;cases b2
 case false=>
  have hkl:k=l.length:=by simp at hb2;omega
  refine tW ?_;refine Y3 (vs:=[.int .i64 (-1)]) rfl hz0 ?_ hx (by simp);rw[fi_none fun i hi=>ht i (by omega) hi];rfl
 have hkl:k<l.length:=by simpa using hb2
 refine tV ?_;apply Qg rfl rfl rfl (h1.mono RN.mono hx) hkl;intro p1 c1 hp1 hc1 hcl1;obtain⟨w1,hw1⟩:=hR_int hc1 hcl1;apply Ji rfl rfl hp1 hw1 (fun _=> .refl);obtain rfl:w1= .int .i64 l[k]:=by
  cases hw1 with
  |one e=>
   rw[show c1=[.int .i64 l[k]] from hc1]at e;cases e;rfl
 apply Yq (v:= .bool (eqTo x l[k])) rfl rfl trivial;cases hpk:(eqTo x) l[k]with
 |true=>
  refine tW ?_;refine Y3 (vs:=[.int .i64 k]) rfl hz0 ?_ hx (by simp);rw[fi_at hkl hpk fun i hi=>ht i hi (by omega)];rfl
 |false=>
  refine tW ?_;rw[w64 (n:=(k:Int)+1) (by omega) (by omega)];refine⟨k+1,by simp only;omega,tU,rfl,hx,by omega,fun i hi hl=>?_⟩;by_cases e:i=k
  ·subst e;exact hpk
  ·exact ht i (by omega) hl
theorem any_eqTo(x:Int)(l:List Int):l.any (eqTo x)=BP (x∈l):=by
 by_cases h:x∈l
 ·rw[Ym h];exact any_eq_true.2 ⟨x,h,Zt rfl⟩
 ·rw[Yf h];refine any_eq_false.2 fun y hy e=>h ?_;obtain rfl:=of_decide_eq_true e;exact hy
theorem p115(h1:Sl (RN .i64) 1 h v l)(l1:Len l):Looks prog ann 175 [v,I x] h (.bool (BP (x∈l))):=by
 rw[←any_eqTo];exact Yrx rfl func175 Zw rfl rfl rfl (ixn_of rfl func218 Zw rfl rfl rfl h1 l1)
theorem p119(h1:Sl (RN .i64) 1 h v l)(l1:Len l):Looks prog ann 179 [v] h (.bool (BP (Rises l))):=by
 unfold Len at l1;refine Yo rfl func179 Zw rfl ?_;refine tV ?_;refine Xv (fun k:Nat=>[(0,v),(3,.int .i64 (k:Int))]) (fun k h'=>h'=h∧1≤k∧∀i,i+1<k→i+1<l.length→l.getD i 0<l.getD (i+1) 0) (fun k=>l.length-k) 1
  tU ⟨rfl,Zl _,fun i hi=>by omega⟩ ?_
 rintro k h' ⟨rfl,hk,ht⟩;refine tV ?_;apply Y0 rfl rfl h1;refine oB fun b1 hb1=>?_;by_cases hkl:k<l.length;rotate_left
 ·obtain rfl:b1=false:=by rw[hb1];simp;omega
  refine tW ?_;exact Ycf rfl (fun i hi=>ht i (by omega) hi) .refl (by simp)
 obtain rfl:b1=true:=by rw[hb1];simp;omega
 refine tV ?_;apply Y1 (w:=I ((k-1:Nat):Int)) rfl rfl trivial (by rw[w64 (by omega) (by omega)];congr 1;omega);apply Qg rfl rfl rfl h1 (show k-1<_ by omega);intro p1 c1 hp1 hc1 _;apply Ji rfl rfl hp1 (.one hc1) (fun _=> .refl);refine tV ?_;apply Qg rfl rfl rfl h1 hkl;intro p2 c2 hp2 hc2 _;apply Ji rfl rfl hp2 (.one hc2) (fun _=> .refl);refine oB fun b2 hb2=>?_;by_cases hr:l[k-1]<l[k];rotate_left
 ·obtain rfl:b2=true:=by rw[hb2];simp;omega
  refine tW ?_;refine noB rfl (fun hR=>hr ?_) .refl (by simp);have:=hR (k-1) (by omega);rw[show k-1+1=k by omega]at this;simpa[Zd,Zg hkl,Zg (show k-1<l.length by omega)]using this
 obtain rfl:b2=false:=by rw[hb2];simp;omega
 refine tW ?_;rw[w64 (n:=(k:Int)+1) (by omega) (by omega)];refine⟨k+1,by simp only;omega,tU,rfl,rfl,by omega,fun i hi hl=>?_⟩;by_cases e:i+1=k
 ·subst e;simpa[Zd,Zg hl,Zg (show i<l.length by omega)]using hr
 ·exact ht i (by omega) hl
theorem p126:Looks prog ann 186 [I o] h (.bool (BP (Yg0 o))):=by
 refine Yo rfl func186 Zw rfl ?_;refine tV ?_;refine oB fun b0 hb0=>?_;by_cases H0:o=20
 ·obtain rfl:b0=true:=by rw[hb0];exact Zt H0
  refine tW ?_;exact Ycf rfl (by unfold Yg0;omega) .refl (by simp)
 obtain rfl:b0=false:=by rw[hb0];exact Zx H0
 refine tV ?_;refine oB fun b1 hb1=>?_;by_cases H1:o=46
 ·obtain rfl:b1=true:=by rw[hb1];exact Zt H1
  refine tW ?_;exact Ycf rfl (by unfold Yg0;omega) .refl (by simp)
 obtain rfl:b1=false:=by rw[hb1];exact Zx H1
 refine tV ?_;refine oB fun b2 hb2=>?_;by_cases H2:o=47
 ·obtain rfl:b2=true:=by rw[hb2];exact Zt H2
  refine tW ?_;exact Ycf rfl (by unfold Yg0;omega) .refl (by simp)
 obtain rfl:b2=false:=by rw[hb2];exact Zx H2
 refine tV ?_;refine oB fun b3 hb3=>?_;by_cases H3:o=48
 ·obtain rfl:b3=true:=by rw[hb3];exact Zt H3
  refine tW ?_;exact Ycf rfl (by unfold Yg0;omega) .refl (by simp)
 obtain rfl:b3=false:=by rw[hb3];exact Zx H3
 refine tV ?_;refine oB fun b4 hb4=>?_;by_cases H4:o=58
 ·obtain rfl:b4=true:=by rw[hb4];exact Zt H4
  refine tW ?_;exact Ycf rfl (by unfold Yg0;omega) .refl (by simp)
 obtain rfl:b4=false:=by rw[hb4];exact Zx H4
 refine tV ?_;refine oB fun b5 hb5=>?_;by_cases H5:o=61
 ·obtain rfl:b5=true:=by rw[hb5];exact Zt H5
  refine tW ?_;exact Ycf rfl (by unfold Yg0;omega) .refl (by simp)
 obtain rfl:b5=false:=by rw[hb5];exact Zx H5
 refine tW ?_;exact noB rfl (by unfold Yg0;omega) .refl (by simp)
theorem p186{n a b:Int}:Looks prog ann 234 [I n,I a,I b] h (.bool (BP (a≤n∧n≤b))):=by
 refine Yo rfl func234 Zw rfl ?_;refine tV ?_;refine oB fun b1 hb1=>?_;by_cases H:a≤n;rotate_left
 ·obtain rfl:b1=false:=by rw[hb1];simp;omega
  refine tW ?_;exact noB rfl (fun h=>H h.1) .refl (by simp)
 obtain rfl:b1=true:=by rw[hb1];simp;omega
 refine tV ?_;refine oB fun b2 hb2=>?_;refine tW ?_;refine eqB rfl ?_ .refl (by simp);rw[hb2];by_cases H2:n≤b
 ·rw[Ym ⟨H,H2⟩];exact Zt H2
 ·rw[Yf (fun h=>H2 h.2)];exact Zx H2
theorem p156:Looks prog ann 228 [I o] h (.bool (BP (20≤o∧o≤36))):=by
 refine Yo rfl func228 Zw rfl ?_;refine tV ?_;apply Yb rfl rfl rfl rfl p186.go;rintro _ k1 ⟨rfl,hx⟩;refine tW ?_;exact eqB rfl rfl hx (by simp)
end Go.Proofs
end
section
open Go Go.Abs Go.Proofs.SlimCode Go.Img
namespace Go.Img
open List
variable {m:Image} {n:Int} {f:Nat}
def GivenAt (m:Image) (i:Nat):Prop:=IsT m (m.given.getD i 0)∧m.given.getD i 0∉m.given.take i∧(0<i→(cAt m (m.given.getD i 0)).thrown=true)
def Yoc (m:Image):Prop:=m.given.length=10∧∀i,i<m.given.length→GivenAt m i
noncomputable def Yju (m:Image):Nat→Int→Int
 |0,n=>n
 |f+1,n=>@ite _ (IsT m n) (Classical.propDecidable _) (Yju m f (cAt m n).super) n
theorem Ypf(h:IsT m n):Yju m (f+1) n=Yju m f (cAt m n).super:=by rw[Yju,if_pos h]
theorem Yml(h:¬IsT m n):Yju m f n=n:=by
 cases f with
 |zero=>rfl
 |succ f=>rw[Yju,if_neg h]
theorem Yd3:∀(f:Nat) (n:Int),Yju m f n= -1↔Yjr m f n
 |0,n=>Iff.rfl
 |f+1,n=>by
  unfold Yjr;by_cases h:IsT m n
  ·rw[Ypf h,Yd3 f];constructor
   ·exact fun e=> .inr ⟨h,e⟩
   ·rintro(e|⟨_,e⟩)
    ·unfold IsT at h;omega
    ·exact e
  ·rw[Yml h];constructor
   ·exact .inl
   ·rintro(e|⟨e,_⟩)
    ·exact e
    ·exact absurd e h
def Ypb (m:Image):Prop:=∀i,(hi:i<m.classes.length)→Yjr m m.classes.length m.classes[i].super
end Go.Img
set_option maxRecDepth 100000
namespace Go.Proofs
open List
open Go.Proofs.Tryz
variable {m:Image} {c:List AV} {h:Ya}
theorem p76(hc:RImg h c m)(hw:m.WF):Looks prog ann 107 [.agg c] h (.bool (BP (Yoc m))):=by
 have hR:=hc;have hone:=hc.one;obtain⟨vc,vm,vg,vw,vr,vs,vf,rfl,v1,v2,v3,v4,v5,v6,v7⟩:=hc;have hl:Len m.given:=hw.given.1;unfold Len at hl;refine Yo rfl func107 Zw rfl ?_;refine tS ?_;apply Yq rfl rfl hone;refine tV ?_;apply Y0 rfl rfl v3;refine tV ?_;refine Xv (fun k:Nat=>[(1,.tptr [vc,vm,I m.entry,I m.need,vg,vw,vr,vs,vf] 0),(7,vg),(8,.int .i64 (m.given.length:Int)),(9,.int .i64 (k:Int))]) (fun k h'=>Ext h h'∧k≤m.given.length∧∀i,i<k→GivenAt m i) (fun k=>m.given.length-k) 0
  tU ⟨.refl,Nat.zero_le _,fun i hi=>by omega⟩ ?_
 rintro k h' ⟨hx,hk,ht⟩;refine tW ?_;refine oB fun b1 hb1=>?_;by_cases hkl:k<m.given.length;rotate_left
 ·obtain rfl:b1=false:=by rw[hb1];simp;omega
  refine tX ?_;apply Ybe [] [.A,.A,.A,.A,.C,.C,.A,.A] (by simp) rfl;apply x_v rfl rfl trivial;apply x_v rfl rfl trivial;apply x_v rfl rfl trivial;apply x_lenA rfl rfl (v3.mono RN.mono hx);apply x_callC rfl rfl rfl p116;rintro _ h1 ⟨hy,i,rfl⟩ hnew;apply x_vC rfl rfl rfl trivial;apply x_v rfl rfl trivial;apply x_v rfl rfl trivial;apply Yba;have hx2:Ext h (plus h' h1):=hx.trans (Yll);by_cases h10:m.given.length=10
  ·rw[show decide ((m.given.length:Int)=(10:Nat))=true from Zt (by omega)];refine tW ?_;exact Ycf rfl ⟨h10,fun i hi=>ht i (by omega)⟩ hx2 (by simp)
  ·rw[show decide ((m.given.length:Int)=(10:Nat))=false from Zx (by omega)];refine tW ?_;exact noB rfl (fun h=>h10 h.1) hx2 (by simp)
 obtain rfl:b1=true:=by rw[hb1];simp;omega
 refine tV ?_;apply Qg rfl rfl rfl (v3.mono RN.mono hx) hkl;intro p1 c1 hp1 hc1 _;apply Ji rfl rfl hp1 (.one hc1) (fun _=> .refl);refine tV ?_;apply Yb rfl rfl rfl rfl (p79 (RImg.mono _ _ _ _ hx hR) hw).go;rintro _ k1 ⟨rfl,hy⟩;replace hx:=hx.trans hy;clear hy hp1 hc1;have hgd:m.given.getD k 0=m.given[k]:=by rw[Zd,Zg hkl];rfl
 by_cases H1:IsT m m.given[k];rotate_left
 ·rw[Yf H1];refine tW ?_;exact noB rfl (fun h=>H1 (hgd▸(h.2 k hkl).1)) hx (by simp)
 rw[Ym H1];refine tW ?_;apply o_sltS (a:=0) (b:=k) rfl rfl (v3.mono RN.mono hx) rfl rfl (Nat.zero_le _) hk;intro w hw2;refine tV ?_;apply Yb rfl rfl rfl rfl (p115 hw2 (by unfold Len;simp;omega)).go;rintro _ k2 ⟨rfl,hy⟩;replace hx:=hx.trans hy;clear hy hw2;rw[drop_zero];by_cases H2:m.given[k]∈m.given.take k
 ·rw[Ym H2];refine tW ?_;exact noB rfl (fun h=>(h.2 k hkl).2.1 (hgd▸H2)) hx (by simp)
 rw[Yf H2];refine tW ?_;refine oB fun b3 hb3=>?_;by_cases hk0:0<k;rotate_left
 ·obtain rfl:b3=false:=by rw[hb3];simp;omega
  refine tW ?_;rw[w64 (n:=(k:Int)+1) (by omega) (by omega)];refine⟨k+1,by simp only;omega,tU,rfl,hx,by omega,fun i hi=>?_⟩;by_cases e:i=k;rotate_left
  ·exact ht i (by omega)
  subst e
  ·exact⟨by rw[hgd];exact H1,by rw[hgd];exact H2,fun h=>absurd h hk0⟩
 obtain rfl:b3=true:=by rw[hb3];simp;omega
 obtain⟨hn,em⟩:=Yk5 H1;have hn0:m.given[k]=((m.given[k]).toNat:Int):=by have:=H1.1;omega
 refine tV ?_;apply Qg (z:=(m.given[k]).toNat) rfl rfl (by rw[←hn0];rfl) (v1.mono RCls.mono hx) hn;intro p cs hp hcs hcl;obtain⟨_,_,_,_,rfl,_⟩:=hcs;refine tV ?_;apply Yjx [.bool m.classes[(m.given[k]).toNat].thrown] rfl rfl hp rfl;intro p2 hp2;refine tV ?_;apply Ydb rfl rfl hp2 (fun h=>by omega);rw[←em];cases hth:(cAt m m.given[k]).thrown with
 |false=>
  refine tW ?_;exact noB rfl (fun h=>by have:=(h.2 k hkl).2.2 hk0;rw[hgd,hth]at this;cases this) hx (by simp)
 |true=>
  refine tW ?_;rw[w64 (n:=(k:Int)+1) (by omega) (by omega)];refine⟨k+1,by simp only;omega,tU,rfl,hx,by omega,fun i hi=>?_⟩;by_cases e:i=k;rotate_left
  ·exact ht i (by omega)
  subst e
  ·exact⟨by rw[hgd];exact H1,by rw[hgd];exact H2,fun _=>by rw[hgd];exact hth⟩
theorem p77(hc:RImg h c m)(hw:m.WF):Looks prog ann 108 [.agg c] h (.bool (BP (Ypb m))):=by
 have hR:=hc;have hone:=hc.one;obtain⟨vc,vm,vg,vw,vr,vs,vf,rfl,v1,v2,v3,v4,v5,v6,v7⟩:=hc;have hl:Len m.classes:=hw.classes.1;unfold Len at hl;refine Yo rfl func108 Zw rfl ?_;refine tS ?_;apply Yq rfl rfl hone;refine tV ?_;apply Y0 rfl rfl v1;refine tV ?_;refine Kg (fun s:Nat×List Nat=>[(1,.tptr [vc,vm,I m.entry,I m.need,vg,vw,vr,vs,vf] 0),(8,vc),(9,.int .i64 (m.classes.length:Int)),(10,.int .i64 (s.1:Int))]) (fun s=>s.2)
  (fun s h'=>Ext h h'∧(∀b∈s.2,h b=none)∧s.1≤m.classes.length∧∀i,i<s.1→(hi:i<m.classes.length)→Yjr m m.classes.length m.classes[i].super) (fun s=>m.classes.length-s.1) (0,[])
  tU rfl ⟨.refl,by simp,Nat.zero_le _,fun i hi=>by omega⟩ ?_
 rintro⟨k,bx⟩ h' ⟨hx,hbx,hk,ht⟩;simp only at hx hbx hk ht ⊢;refine tW ?_;refine oB fun b1 hb1=>?_;by_cases hkl:k<m.classes.length;rotate_left
 ·obtain rfl:b1=false:=by rw[hb1];simp;omega
  refine tW ?_;exact Ycf rfl (fun i hi=>ht i (by omega) hi) hx hbx
 obtain rfl:b1=true:=by rw[hb1];simp;omega
 refine tV ?_;apply Qg rfl rfl rfl (v1.mono RCls.mono hx) hkl;intro p cs hp hcs hcl;have hone2:=hcs.one;obtain⟨w1,w2,w3,w4,rfl,_⟩:=hcs;apply Ji rfl rfl hp (.many rfl hcl) (fun _=> .refl);apply K8 rfl;intro b hbn;apply Ybr (v:= .agg _) rfl rfl rfl rfl hcl hone2 upd_same (Yn (by rfl));rw[Xm];have hgb:h b=none:=by
  cases hh:h b with
  |none=>rfl
  |some o=>rw[hx b o hh]at hbn;cases hbn
 have hx2:=hx.trans (.upd (h:=h') (o:= .cells [.str m.classes[k].name,I m.classes[k].super,I m.classes[k].init,w1,w2,w3,w4,I m.classes[k].array,I m.classes[k].elem,.bool m.classes[k].thrown]) hbn);refine tV ?_;apply Y2 rfl rfl upd_same (fun h=>by omega) rfl;refine tv ?_;refine tv ?_;refine tv ?_;refine Jc (σ:=Int) (fun n=>[(1,.tptr [vc,vm,I m.entry,I m.need,vg,vw,vr,vs,vf] 0),(5,.int .i64 n),(8,vc),(9,.int .i64 (m.classes.length:Int)),(10,.int .i64 (k:Int))]) (fun n h'=>Ext h h'∧n=Yju m m.classes.length m.classes[k].super) ?_ ?_
 ·refine tV ?_;apply Y0 rfl rfl (v1.mono RCls.mono hx2);refine tV ?_;refine Xv (fun s:Nat×Int=>[(1,.tptr [vc,vm,I m.entry,I m.need,vg,vw,vr,vs,vf] 0),(5,.int .i64 s.2),(8,vc),(9,.int .i64 (m.classes.length:Int)),(10,.int .i64 (k:Int)),(19,.int .i64 (m.classes.length:Int)),(20,.int .i64 (s.1:Int))])
   (fun s h'=>Ext h h'∧s.1≤m.classes.length∧Yju m (m.classes.length-s.1) s.2=Yju m m.classes.length m.classes[k].super) (fun s=>m.classes.length-s.1) (0,m.classes[k].super)
   tU ⟨hx2,Nat.zero_le _,rfl⟩ ?_
  rintro⟨j,n⟩ h2 ⟨hx3,hj,hn⟩;simp only at hx3 hj hn ⊢;refine tW ?_;refine oB fun b2 hb2=>?_;by_cases hjl:j<m.classes.length;rotate_left
  ·obtain rfl:b2=false:=by rw[hb2];simp;omega
   refine tW ?_;refine⟨n,tU,rfl,hx3,?_⟩;rw[←hn,show m.classes.length-j=0 by omega];rfl
  obtain rfl:b2=true:=by rw[hb2];simp;omega
  refine tV ?_;apply Yb rfl rfl rfl rfl (p79 (RImg.mono _ _ _ _ hx3 hR) hw).go;rintro _ k1 ⟨rfl,hy⟩;replace hx3:=hx3.trans hy;clear hy;by_cases H1:IsT m n;rotate_left
  ·rw[Yf H1];refine tW ?_;refine⟨n,tU,rfl,hx3,?_⟩;rw[←hn,Yml H1]
  rw[Ym H1];obtain⟨hn1,em⟩:=Yk5 H1;have hn0:n=(n.toNat:Int):=by have:=H1.1;omega
  refine tW ?_;apply Qg (z:=n.toNat) rfl rfl (by rw[←hn0];rfl) (v1.mono RCls.mono hx3) hn1;intro q cs2 hq hcs2 _;obtain⟨_,_,_,_,rfl,_⟩:=hcs2;refine tV ?_;apply Yjx [I m.classes[n.toNat].super] rfl rfl hq rfl;intro q2 hq2;refine tV ?_;apply Ydb rfl rfl hq2 (fun h=>by omega);refine tW ?_;rw[w64 (n:=(j:Int)+1) (by omega) (by omega)];refine⟨(j+1,m.classes[n.toNat].super),by simp only;omega,tU,rfl,hx3,by simp only;omega,?_⟩;simp only;rw[←hn,←em,show m.classes.length-j=(m.classes.length-(j+1))+1 by omega,Ypf H1]
 rintro n h2 ⟨hx3,hn⟩;have hbx2:∀i∈b::bx,h i=none:=by
  intro i hi;rcases mem_cons.1 hi with rfl|hi
  ·exact hgb
  ·exact hbx i hi
 refine tV ?_;refine oB fun b3 hb3=>?_;by_cases hn1:n= -1;rotate_left
 ·obtain rfl:b3=true:=by rw[hb3];simpa using hn1
  refine tW ?_;exact noB rfl (fun h=>hn1 (by rw[hn,Yd3];exact h k hkl)) hx3 hbx2
 obtain rfl:b3=false:=by rw[hb3];simpa using hn1
 refine tW ?_;rw[w64 (n:=(k:Int)+1) (by omega) (by omega)];refine⟨(k+1,b::bx),by simp only;omega,tU,rfl,hx3,hbx2,by simp only;omega,fun i hi hi2=>?_⟩;by_cases e:i=k
 ·subst e;rw[←Yd3,←hn];exact hn1
 ·exact ht i (by simp only at hi;omega) hi2
end Go.Proofs
namespace Go.Img
open List
def Ygy (m:Image) (i:Int) (x:Cls):Prop:=(∀s∈x.subs,IsT m s)∧Rises x.subs∧i∈x.subs
def Yd1 (m:Image) (x:Cls):Prop:=x.slots.length≤200∧∀n∈x.slots,n= -1∨Yhq m n
def Ygz (m:Image) (x:Cls):Prop:=Rises (x.faces.map Prod.fst)∧∀p∈x.faces,IsM m p.1∧Yhq m p.2
def Yjq (m:Image) (x:Cls):Prop:=(x.array=2∧IsT m x.elem)∨(x.array≠2∧x.elem= -1)
def ArrP (m:Image) (x:Cls):Prop:=(0≤x.array∧x.array≤2)∧Yjq m x∧(x.array=0∨x.refs.length=0)
def Yr6 (m:Image) (i:Int) (x:Cls):Prop:=(x.init= -1∨Bare m x.init)∧x.refs.length≤200∧Ygy m i x∧Yd1 m x∧Ygz m x∧ArrP m x
end Go.Img
set_option maxRecDepth 100000
namespace Go.Proofs
open List
open Go.Proofs.Tryz
variable {m:Image} {c:List AV} {b:Nat} {α:Type} {h:Ya} {l:List α}
theorem all_BP(P:α→Prop)(l:List α):(l.all fun x=>BP (P x))=BP (∀x∈l,P x):=by
 by_cases h:∀x∈l,P x
 ·rw[Ym h];exact all_eq_true.2 fun x hx=>Ym (h x hx)
 ·rw[Yf h];refine Bool.eq_false_iff.2 fun e=>h fun x hx=>?_;have:=all_eq_true.1 e x hx;by_cases hp:P x
  ·exact hp
  ·rw[Yf hp]at this;cases this
theorem Ymb{g0:Nat}{first cap:List AV}{l:List Int}{p:Int→Bool}(H:∀x∈l,∀h',Ext h h'→Looks prog ann g0 (first++[I x]++cap) h' (.bool (p x))):Asks g0 first cap none (RN .i64) h l p:=by
 intro x hx h' c v e hc hv;cases hv with
 |one e2=>
  rw[show c=[.int .i64 x] from hc]at e2;cases e2;exact H x hx h' e
theorem Yin{g0 s:Nat}{first cap:List AV}{R:Ya→List AV→α→Prop}{p:α→Bool}(H:∀x∈l,∀h' c,Ext h h'→R h' c x→c.length=s→Looks prog ann g0 (first++[.agg c]++cap) h' (.bool (p x))):Asks g0 first cap (some s) R h l p:=by
 intro x hx h' c v e hc hv;cases hv with
 |many e2 hm=>
  subst e2;exact H x hx h' c e hc hm
theorem Ybq{f:Nat}{vs:List AV}{P:α→Prop}(H:Looks prog ann f vs h (.bool (l.all fun x=>BP (P x)))):Looks prog ann f vs h (.bool (BP (∀x∈l,P x))):=by
 rw[←all_BP];exact H
theorem p120{n:Int}(hb:h b=some (.cells c))(hc:RImg h c m)(hw:m.WF):Looks prog ann 180 [I n,.ptr b 0] h (.bool (BP (n= -1∨Yhq m n))):=by
 have hR:=hc;have hcl:c.length=9:=by obtain⟨vc,vm,vg,vw,vr,vs,vf,rfl,_⟩:=hc;rfl
 have hx:Ext h h:= .refl;refine Yo rfl func180 Zw rfl ?_;refine tV ?_;refine oI (n= -1) (fun H1=>?_) (fun H1=>?_)
 ·refine tW ?_;exact Ycf rfl (.inl H1) hx (by simp)
 refine tV ?_;apply X3 rfl rfl hb (fun h=>by omega) (Yw hcl);refine tV ?_;apply Yb rfl rfl rfl rfl (p117 hR hw).go;rintro _ k1 ⟨rfl,hy⟩;replace hx:=hx.trans hy;clear hy;by_cases H2:Yhq m n;rotate_left
 ·rw[Yf H2];refine tW ?_;exact noB rfl (fun h=>h.elim H1 H2) hx (by simp)
 rw[Ym H2];refine tW ?_;exact Ycf rfl (.inr H2) hx (by simp)
theorem p122{d:List AV}{p:Int×Int}(hd:RPair h d p)(hb:h b=some (.cells c))(hc:RImg h c m)(hw:m.WF):Looks prog ann 182 [.agg d,.ptr b 0] h (.bool (BP (IsM m p.1∧Yhq m p.2))):=by
 have hR:=hc;have hcl:c.length=9:=by obtain⟨vc,vm,vg,vw,vr,vs,vf,rfl,_⟩:=hc;rfl
 obtain rfl:d=[I p.1,I p.2]:=hd;have hx:Ext h h:= .refl;refine Yo rfl func182 Zw rfl ?_;refine tS ?_;apply Yq rfl rfl (show List.all _ AV.one=true from rfl);refine tV ?_;apply X3 rfl rfl hb (fun h=>by omega) (Yw hcl);apply Yq rfl rfl ⟨Int.le_refl 0,by decide⟩;refine tV ?_;apply Yb rfl rfl rfl rfl (p123 hR hw).go;rintro _ k1 ⟨rfl,hy⟩;replace hx:=hx.trans hy;clear hy;by_cases H1:IsM m p.1;rotate_left
 ·rw[Yf H1];refine tW ?_;exact noB rfl (fun h=>H1 h.1) hx (by simp)
 rw[Ym H1];refine tW ?_;apply X3 rfl rfl (hx _ _ hb) (fun h=>by omega) (Yw hcl);refine tV ?_;apply Yq rfl rfl ⟨by decide,by decide⟩;refine tV ?_;apply Yb rfl rfl rfl rfl (p117 (RImg.mono _ _ _ _ hx hR) hw).go;rintro _ k2 ⟨rfl,hy⟩;replace hx:=hx.trans hy;clear hy;by_cases H2:Yhq m p.2;rotate_left
 ·rw[Yf H2];refine tW ?_;exact noB rfl (fun h=>H2 h.2) hx (by simp)
 rw[Ym H2];refine tW ?_;exact Ycf rfl ⟨H1,H2⟩ hx (by simp)
theorem p80{d:List AV}{i:Int}{x:Cls}(hc:RImg h c m)(hw:m.WF)(hk:RCls h d x)(hwx:x.WF)(hfb:x.faces.length≤1048577):Looks prog ann 111 [.agg c,I i,.agg d] h (.bool (BP (Yr6 m i x))):=by
 have hone:=hc.one;have hone2:=hk.one;have hcl:c.length=9:=by obtain⟨vc,vm,vg,vw,vr,vs,vf,rfl,_⟩:=hc;rfl
 have lsu:Len x.subs:=hwx.subs.1;have lsl:Len x.slots:=hwx.slots.1;have lfa:Len x.faces:=hwx.faces.1;have lre:Len x.refs:=hwx.refs;obtain⟨w1,w2,w3,w4,rfl,u1,u2,u3,u4⟩:=hk;refine Yo rfl func111 Zw rfl ?_;refine tS ?_;apply Yee (v:= .agg c) rfl rfl hone;intro b hbn;have hG0:Ext h (upd h b (some (.cells c))):= .upd hbn;have hGb:upd h b (some (.cells c)) b=some (.cells c):=upd_same;apply Yq rfl rfl hone2;show Yu _ _ _ _ _ _ _ _ [] (upd h b (some (.cells c))) _;generalize upd h b (some (.cells c))=G at hG0 hGb ⊢;replace hc:=RImg.mono _ _ _ _ hG0 hc;replace u1:=u1.mono RB.mono hG0;replace u2:=u2.mono RN.mono hG0;replace u3:=u3.mono RN.mono hG0;replace u4:=u4.mono RPair.mono hG0;refine tv ?_;refine tv ?_;refine tv ?_;refine Jc (σ:=Unit) (fun _=>[(1,I i),(3,.ptr b 0),(5,.tptr [.str x.name,I x.super,I x.init,w1,w2,w3,w4,I x.array,I x.elem,.bool x.thrown] 0),(7,.bool (BP (Ygy m i x)))]) (fun _ h'=>Ext G h') ?_ ?_
 ·have hx:Ext G G:= .refl;refine tV ?_;apply X3 rfl rfl (hx _ _ hGb) (fun h=>by omega) (Yw hcl);refine tV ?_;apply Yb rfl rfl rfl rfl (Ybq (Ylm u2 lsu (Ymb fun y _ h2 e=>p79 (RImg.mono _ _ _ _ e hc) hw))).go;rintro _ k1 ⟨rfl,hy⟩;replace hx:=hx.trans hy;clear hy;by_cases H1:∀s∈x.subs,IsT m s;rotate_left
  ·rw[Yf H1];rw[show BP (Ygy m i x)=false from Yf (fun h=>H1 h.1)];refine tW ?_;refine⟨(),tU,rfl,hx⟩
  rw[Ym H1];refine tW ?_;apply Yb rfl rfl rfl rfl (p119 (u2.mono RN.mono hx) lsu).go;rintro _ k2 ⟨rfl,hy⟩;replace hx:=hx.trans hy;clear hy;by_cases H2:Rises x.subs;rotate_left
  ·rw[Yf H2];rw[show BP (Ygy m i x)=false from Yf (fun h=>H2 h.2.1)];refine tW ?_;refine⟨(),tU,rfl,hx⟩
  rw[Ym H2];refine tW ?_;apply Yb rfl rfl rfl rfl (p115 (u2.mono RN.mono hx) lsu).go;rintro _ k3 ⟨rfl,hy⟩;replace hx:=hx.trans hy;clear hy;by_cases H3:i∈x.subs;rotate_left
  ·rw[Yf H3];rw[show BP (Ygy m i x)=false from Yf (fun h=>H3 h.2.2)];refine tW ?_;refine⟨(),tU,rfl,hx⟩
  rw[Ym H3];rw[show BP (Ygy m i x)=true from Ym ⟨H1,H2,H3⟩];refine tW ?_;refine⟨(),tU,rfl,hx⟩
 rintro _ k0 hx;refine Jc (σ:=Unit) (fun _=>[(1,I i),(3,.ptr b 0),(5,.tptr [.str x.name,I x.super,I x.init,w1,w2,w3,w4,I x.array,I x.elem,.bool x.thrown] 0),(7,.bool (BP (Ygy m i x))),(8,.bool (BP (Yd1 m x)))]) (fun _ h'=>Ext G h') ?_ ?_
 ·have hx:=hx;refine tV ?_;apply Y0 rfl rfl (u3.mono RN.mono hx);refine tV ?_;refine oI (x.slots.length≤200) (fun H1=>?_) (fun H1=>?_);rotate_left
  ·rw[show BP (Yd1 m x)=false from Yf (fun h=>H1 h.1)];refine tW ?_;refine⟨(),tU,rfl,hx⟩
  refine tV ?_;apply Yb rfl rfl rfl rfl (Ybq (P:=fun n=>n= -1∨Yhq m n) (Ylm (u3.mono RN.mono hx) lsl (Ymb fun y _ h2 e=>p120 (e _ _ (hx _ _ hGb)) (RImg.mono _ _ _ _ (hx.trans e) hc) hw))).go;rintro _ k1 ⟨rfl,hy⟩;replace hx:=hx.trans hy;clear hy;by_cases H2:∀n∈x.slots,n= -1∨Yhq m n;rotate_left
  ·rw[Yf H2];rw[show BP (Yd1 m x)=false from Yf (fun h=>H2 h.2)];refine tW ?_;refine⟨(),tU,rfl,hx⟩
  rw[Ym H2];rw[show BP (Yd1 m x)=true from Ym ⟨H1,H2⟩];refine tW ?_;refine⟨(),tU,rfl,hx⟩
 rintro _ k0 hx;refine tv ?_;refine tv ?_;refine tv ?_;refine tv ?_;refine tv ?_;refine Yg9 (σ:=List Nat×AV) (fun s=>[(1,I i),(3,.ptr b 0),(5,.tptr [.str x.name,I x.super,I x.init,w1,w2,w3,w4,I x.array,I x.elem,.bool x.thrown] 0),(7,.bool (BP (Ygy m i x))),(8,.bool (BP (Yd1 m x))),(9,s.2)]) (fun s=>s.1) (fun s h'=>Ext G h'∧(∀b∈s.1,h b=none)∧Sl (RN .i64) 1 h' s.2 (x.faces.map Prod.fst)) ?_ ?_
 ·refine tV ?_;apply Y0 rfl rfl (u4.mono RPair.mono hx);refine tV ?_;refine Kg (fun s:Nat×List Nat×AV=>[(1,I i),(3,.ptr b 0),(5,.tptr [.str x.name,I x.super,I x.init,w1,w2,w3,w4,I x.array,I x.elem,.bool x.thrown] 0),(7,.bool (BP (Ygy m i x))),(8,.bool (BP (Yd1 m x))),(9,s.2.2),(42,w4),(43,.int .i64 (x.faces.length:Int)),(44,.int .i64 (s.1:Int))]) (fun s=>s.2.1)
   (fun s h'=>s.1≤x.faces.length∧Acc (RN .i64) 1 G G h' s.2.1 s.2.2 ((x.faces.take s.1).map Prod.fst)) (fun s=>x.faces.length-s.1) (0,[],.nil .sl)
   tU rfl ⟨Nat.zero_le _,Acc.start .refl hx (by simp)⟩ ?_
  rintro⟨k,bx,v⟩ h1 ⟨hk,A1⟩;simp only at hk A1 ⊢;refine tW ?_;refine oI (k<x.faces.length) (fun H1=>?_) (fun H1=>?_);rotate_left
  ·refine tW ?_;have hkl:k=x.faces.length:=by omega
   rw[hkl,take_length]at A1;obtain⟨G2,g1,g2,g3,g4⟩:=A1.fold RN.mono;refine⟨(bx,v),tU,rfl,A1.Gh,fun b hb=>?_,g3.mono RN.mono g2⟩;cases e:h b with
   |none=>rfl
   |some o=>
    have:=A1.base0 hb;rw[hG0 _ _ e]at this;cases this
  refine tV ?_;apply Qg rfl rfl rfl (u4.mono RPair.mono A1.Gh) H1;intro p1 c1 hp1 hc1 hcl1;obtain rfl:c1=[I x.faces[k].1,I x.faces[k].2]:=hc1;apply Ji rfl rfl hp1 (.many rfl rfl) (fun _=> .refl);apply K8 rfl;intro b5 hb5;apply Ybr (v:= .agg [I x.faces[k].1,I x.faces[k].2]) rfl rfl rfl rfl rfl rfl upd_same (Yn (by rfl));rw[Xm];have A2:=A1.box (o:= .cells [I x.faces[k].1,I x.faces[k].2]) hb5;refine tV ?_;apply o_iaP (cs:=[I x.faces[k].1,I x.faces[k].2]) [I x.faces[k].1] rfl rfl rfl (VPtr.p b5 0 _ _ upd_same rfl) (by decide) (by decide) rfl;intro p2 hp2;apply Ydb rfl rfl hp2 (fun h=>by omega);apply Yq rfl rfl ⟨rfl,rfl⟩;obtain⟨cs,hcs,O⟩:=A2.osl;apply Yfm (n:=1) rfl rfl rfl rfl O rfl rfl rfl (by simp only[length_map,length_take];omega);intro v' h2 O2 _;have A3:=A2.app hcs (show RN .i64 _ [I x.faces[k].1] x.faces[k].1 from rfl) rfl O2;refine tW ?_;rw[w64 (n:=(k:Int)+1) (by omega) (by omega)];refine⟨(k+1,b5::bx,v'),by simp only;omega,tU,rfl,by simp only;omega,?_⟩;simp only;rw[take_add_one,Zg H1,map_append];exact A3
 rintro⟨bx,v⟩ k1 ⟨hx,hbx,hv⟩;simp only at hx hbx hv ⊢;refine Jc (σ:=Unit) (fun _=>[(1,I i),(3,.ptr b 0),(5,.tptr [.str x.name,I x.super,I x.init,w1,w2,w3,w4,I x.array,I x.elem,.bool x.thrown] 0),(7,.bool (BP (Ygy m i x))),(8,.bool (BP (Yd1 m x))),(12,.bool (BP (Ygz m x)))]) (fun _ h'=>Ext G h') ?_ ?_
 ·have hx:=hx;refine tV ?_;apply Yb rfl rfl rfl rfl (p119 hv (by unfold Len;rw[length_map];exact lfa)).go;rintro _ k1 ⟨rfl,hy⟩;replace hx:=hx.trans hy;clear hy;by_cases H1:Rises (x.faces.map Prod.fst);rotate_left
  ·rw[Yf H1];rw[show BP (Ygz m x)=false from Yf (fun h=>H1 h.1)];refine tW ?_;refine⟨(),tU,rfl,hx⟩
  rw[Ym H1];refine tW ?_;apply Yb rfl rfl rfl rfl (Ybq (P:=fun p=>IsM m p.1∧Yhq m p.2) (pall_pair (u4.mono RPair.mono hx) lfa (Yin fun y _ h2 c e hc2 _=>p122 hc2 (e _ _ (hx _ _ hGb)) (RImg.mono _ _ _ _ (hx.trans e) hc) hw))).go;rintro _ k1 ⟨rfl,hy⟩;replace hx:=hx.trans hy;clear hy;by_cases H2:∀p∈x.faces,IsM m p.1∧Yhq m p.2;rotate_left
  ·rw[Yf H2];rw[show BP (Ygz m x)=false from Yf (fun h=>H2 h.2)];refine tW ?_;refine⟨(),tU,rfl,hx⟩
  rw[Ym H2];rw[show BP (Ygz m x)=true from Ym ⟨H1,H2⟩];refine tW ?_;refine⟨(),tU,rfl,hx⟩
 rintro _ k2 hx;refine tV ?_;refine oB fun b1 hb1=>?_;refine tv ?_;refine tv ?_;refine tv ?_;refine Jc (σ:=Unit) (fun _=>[(1,I i),(3,.ptr b 0),(5,.tptr [.str x.name,I x.super,I x.init,w1,w2,w3,w4,I x.array,I x.elem,.bool x.thrown] 0),(7,.bool (BP (Ygy m i x))),(8,.bool (BP (Yd1 m x))),(12,.bool (BP (Ygz m x))),(13,.bool (BP (Yjq m x)))]) (fun _ h'=>Ext G h') ?_ ?_
 ·have hx:=hx;refine tV ?_;refine oI (x.array=2) (fun H2=>?_) (fun H2=>?_);rotate_left
  ·refine tW ?_;rw[show BP (Yjq m x)=b1 by
    rw[hb1,show BP (Yjq m x)=BP (x.elem= -1) from Yfe (by unfold Yjq;omega)];by_cases h:x.elem= -1
    ·rw[Ym h];exact(Zt h).symm
    ·rw[Yf h];exact(Zx h).symm]
   refine⟨(),tU,rfl,hx⟩
  refine tV ?_;apply X3 rfl rfl (hx _ _ hGb) (fun h=>by omega) (Yw hcl);refine tV ?_;apply Yb rfl rfl rfl rfl (p79 (RImg.mono _ _ _ _ hx hc) hw).go;rintro _ k1 ⟨rfl,hy⟩;replace hx:=hx.trans hy;clear hy;refine tW ?_;rw[show BP (Yjq m x)=BP (IsT m x.elem) from Yfe (by unfold Yjq;constructor;(rintro(h|h);exact h.2;exact absurd H2 h.1);exact fun h=> .inl ⟨H2,h⟩)];refine⟨(),tU,rfl,hx⟩
 rintro _ k3 hx;clear hb1;refine Jc (σ:=Unit) (fun _=>[(1,I i),(3,.ptr b 0),(5,.tptr [.str x.name,I x.super,I x.init,w1,w2,w3,w4,I x.array,I x.elem,.bool x.thrown] 0),(7,.bool (BP (Ygy m i x))),(8,.bool (BP (Yd1 m x))),(12,.bool (BP (Ygz m x))),(13,.bool (BP (Yjq m x))),(14,.bool (BP (ArrP m x)))]) (fun _ h'=>Ext G h') ?_ ?_
 ·have hx:=hx;refine tV ?_;apply Yb rfl rfl rfl rfl (p75).go;rintro _ k1 ⟨rfl,hy⟩;replace hx:=hx.trans hy;clear hy;by_cases H1:0≤x.array∧x.array≤2;rotate_left
  ·rw[Yf H1];rw[show BP (ArrP m x)=false from Yf (fun h=>H1 h.1)];refine tW ?_;refine⟨(),tU,rfl,hx⟩
  rw[Ym H1];by_cases H2:Yjq m x;rotate_left
  ·rw[Yf H2];rw[show BP (ArrP m x)=false from Yf (fun h=>H2 h.2.1)];refine tW ?_;refine⟨(),tU,rfl,hx⟩
  rw[Ym H2];refine tW ?_;refine oI (x.array=0) (fun H3=>?_) (fun H3=>?_)
  ·rw[show BP (ArrP m x)=true from Ym ⟨H1,H2,.inl H3⟩];refine tW ?_;refine⟨(),tU,rfl,hx⟩
  refine tV ?_;apply Y0 rfl rfl (u1.mono RB.mono hx);refine tV ?_;refine oI (x.refs.length=0) (fun H4=>?_) (fun H4=>?_);rotate_left
  ·rw[show BP (ArrP m x)=false from Yf (fun h=>h.2.2.elim H3 H4)];refine tW ?_;refine⟨(),tU,rfl,hx⟩
  rw[show BP (ArrP m x)=true from Ym ⟨H1,H2,.inr H4⟩];refine tW ?_;refine⟨(),tU,rfl,hx⟩
 rintro _ k4 hx;refine tV ?_;refine oI (x.init= -1) (fun H1=>?_) (fun H1=>?_)
 ·refine tW ?_;apply Y0 rfl rfl (u1.mono RB.mono hx);refine tV ?_;refine oI (x.refs.length≤200) (fun H3=>?_) (fun H3=>?_);rotate_left
  ·refine tW ?_;exact noB rfl (fun h=>H3 h.2.1) (hG0.trans hx) hbx
  by_cases H4:Ygy m i x;rotate_left
  ·rw[Yf H4];refine tW ?_;exact noB rfl (fun h=>H4 h.2.2.1) (hG0.trans hx) hbx
  rw[Ym H4];by_cases H5:Yd1 m x;rotate_left
  ·rw[Yf H5];refine tW ?_;exact noB rfl (fun h=>H5 h.2.2.2.1) (hG0.trans hx) hbx
  rw[Ym H5];by_cases H6:Ygz m x;rotate_left
  ·rw[Yf H6];refine tW ?_;exact noB rfl (fun h=>H6 h.2.2.2.2.1) (hG0.trans hx) hbx
  rw[Ym H6];by_cases H7:ArrP m x;rotate_left
  ·rw[Yf H7];refine tW ?_;exact noB rfl (fun h=>H7 h.2.2.2.2.2) (hG0.trans hx) hbx
  rw[Ym H7];refine tW ?_;exact Ycf rfl ⟨.inl H1,H3,H4,H5,H6,H7⟩ (hG0.trans hx) hbx
 refine tV ?_;apply X3 rfl rfl (hx _ _ hGb) (fun h=>by omega) (Yw hcl);refine tV ?_;apply Yb rfl rfl rfl rfl (p78 (RImg.mono _ _ _ _ hx hc) hw).go;rintro _ k1 ⟨rfl,hy⟩;replace hx:=hx.trans hy;clear hy;by_cases H2:Bare m x.init;rotate_left
 ·rw[Yf H2];refine tW ?_;exact noB rfl (fun h=>h.1.elim H1 H2) (hG0.trans hx) hbx
 rw[Ym H2];refine tW ?_;apply Y0 rfl rfl (u1.mono RB.mono hx);refine tV ?_;refine oI (x.refs.length≤200) (fun H3=>?_) (fun H3=>?_);rotate_left
 ·refine tW ?_;exact noB rfl (fun h=>H3 h.2.1) (hG0.trans hx) hbx
 by_cases H4:Ygy m i x;rotate_left
 ·rw[Yf H4];refine tW ?_;exact noB rfl (fun h=>H4 h.2.2.1) (hG0.trans hx) hbx
 rw[Ym H4];by_cases H5:Yd1 m x;rotate_left
 ·rw[Yf H5];refine tW ?_;exact noB rfl (fun h=>H5 h.2.2.2.1) (hG0.trans hx) hbx
 rw[Ym H5];by_cases H6:Ygz m x;rotate_left
 ·rw[Yf H6];refine tW ?_;exact noB rfl (fun h=>H6 h.2.2.2.2.1) (hG0.trans hx) hbx
 rw[Ym H6];by_cases H7:ArrP m x;rotate_left
 ·rw[Yf H7];refine tW ?_;exact noB rfl (fun h=>H7 h.2.2.2.2.2) (hG0.trans hx) hbx
 rw[Ym H7];refine tW ?_;exact Ycf rfl ⟨.inr H2,H3,H4,H5,H6,H7⟩ (hG0.trans hx) hbx
end Go.Proofs
end
