import Derived.Test.YtibdecjfdpmfoaaGreatImVal5
open Go Go.Abs Go.Proofs.SlimCode Go.Img
namespace Go.Img
open List
def Yex (m:Image) (i:Kr):Prop:=i.2.2.2= -1∨IsT m i.2.2.2
structure InsP (m:Image) (locals:Int) (n:Nat) (i:Kr):Prop where
 op:1≤i.1∧i.1≤61
 jump:20≤i.1∧i.1≤36→0≤i.2.1∧i.2.1≤(n:Int)-1
 loc:i.1=3∨i.1=4→0≤i.2.1∧i.2.1≤locals-1
 new:i.1=37→Ypc m i.2.2.1 0∧Yex m i
 fld:i.1=38∨i.1=39→(0≤i.2.2.1∧i.2.2.1≤199)∧0≤i.2.2.2∧i.2.2.2≤1
 stat:i.1=40∨i.1=41→(0≤i.2.2.1∧i.2.2.1≤(m.stat.length:Int)-1)∧Yex m i
 calls:i.1=42→Yhq m i.2.2.1∧Yex m i
 callv:i.1=43→(0≤i.2.2.1∧i.2.2.1≤199)∧1≤i.2.2.2∧i.2.2.2≤7
 callx:i.1=44→Yhq m i.2.2.1∧(1≤i.2.2.2∧i.2.2.2≤7)∧(mAt m i.2.2.1).args=i.2.2.2
 calli:i.1=45→IsM m i.2.2.1∧1≤i.2.2.2∧i.2.2.2≤7
 newi:i.1=49→Ypc m i.2.2.1 1
 newa:i.1=50→Ypc m i.2.2.1 2
 cast:i.1=56∨i.1=57→IsT m i.2.2.1
end Go.Img
set_option maxRecDepth 100000
namespace Go.Proofs
open List
open Go.Proofs.Tryz
theorem p131{h:Ya}{c d e:List AV}{m:Image}{x:Mth}{i:Kr}(hc:RImg h c m)(hw:m.WF)(hd:RMth h d x)(he:RFour h e i)(hlo:0≤x.locals∧x.locals≤16)(hlc:Len x.code):Looks prog ann 191 [.agg c,.agg d,.agg e] h (.bool (BP (InsP m x.locals x.code.length i))):=by
 have hR:=hc;have hone:=hc.one;have hone2:=hd.one;have lst:Len m.stat:=hw.stat.1;unfold Len at lst hlc;obtain⟨vc,vm,vg,vw,vr,vs,vf,rfl,v1,v2,v3,v4,v5,v6,v7⟩:=hc;obtain⟨vk,vt,rfl,u1,u2⟩:=hd;obtain rfl:e=[I i.1,I i.2.1,I i.2.2.1,I i.2.2.2]:=he;have hx:Ext h h:= .refl;refine Yo rfl func191 Zw rfl ?_;refine tS ?_;apply Yq rfl rfl hone;apply Yq rfl rfl hone2;apply Yq rfl rfl (show List.all _ AV.one=true from rfl);refine tv ?_;refine tv ?_;refine tv ?_;refine Jc (σ:=Unit) (fun _=>[(3,.tptr [vc,vm,I m.entry,I m.need,vg,vw,vr,vs,vf] 0),(4,.tptr [I x.args,I x.locals,I x.stack,.bool x.gives,vk,vt] 0),(5,.tptr [I i.1,I i.2.1,I i.2.2.1,I i.2.2.2] 0),(7,.bool (BP (Yex m i)))]) (fun _ h'=>Ext h h') ?_ ?_
 ·have hx:=hx;refine tV ?_;refine oI (i.2.2.2= -1) (fun H1=>?_) (fun H1=>?_)
  ·rw[show BP (Yex m i)=true from Ym (.inl H1)];refine tW ?_;refine⟨(),tU,rfl,hx⟩
  refine tV ?_;apply Yb rfl rfl rfl rfl (p79 hR hw).go;rintro _ k1 ⟨rfl,hy⟩;replace hx:=hx.trans hy;clear hy;rw[show BP (Yex m i)=BP (IsT m i.2.2.2) from Yfe (by unfold Yex;exact⟨fun h=>h.resolve_left H1,.inr⟩)];refine tW ?_;refine⟨(),tU,rfl,hx⟩
 clear hx;rintro _ k0 hx;have hR':=fun k (e:Ext h k)=>RImg.mono _ _ _ _ e hR;refine tV ?_;apply Yb rfl rfl rfl rfl (p75).go;rintro _ k1 ⟨rfl,hy⟩;replace hx:=hx.trans hy;clear hy;by_cases H2:1≤i.1∧i.1≤61;rotate_left
 ·rw[Yf H2];refine tW ?_;exact noB rfl (fun h=>H2 h.op) hx (by simp)
 rw[Ym H2];refine tW ?_;apply Yb rfl rfl rfl rfl (p156).go;rintro _ k2 ⟨rfl,hy⟩;replace hx:=hx.trans hy;clear hy;by_cases H3:20≤i.1∧i.1≤36
 ·rw[Ym H3];refine tW ?_;apply Y0 rfl rfl (u1.mono RFour.mono hx);apply Y1 (w:=I ((x.code.length:Int)-1)) rfl rfl trivial (by rw[w64 (by omega) (by omega)]);refine tV ?_;apply Yb rfl rfl rfl rfl (p75).go;rintro _ k3 ⟨rfl,hy⟩;replace hx:=hx.trans hy;clear hy;by_cases H4:0≤i.2.1∧i.2.1≤(x.code.length:Int)-1;rotate_left
  ·rw[Yf H4];refine tW ?_;exact noB rfl (fun h=>H4 (h.jump H3)) hx (by simp)
  rw[Ym H4];refine tW ?_;exact Ycf rfl ⟨H2,fun _=>H4,fun h=>by omega,fun h=>by omega,fun h=>by omega,fun h=>by omega,fun h=>by omega,fun h=>by omega,fun h=>by omega,fun h=>by omega,fun h=>by omega,fun h=>by omega,fun h=>by omega⟩ hx (by simp)
 rw[Yf H3];refine tW ?_;refine oI (i.1=3) (fun H10=>?_) (fun H10=>?_)
 ·refine tV ?_;apply Y1 (w:=I (x.locals-1)) rfl rfl trivial (by rw[w64 (by omega) (by omega)]);refine tV ?_;apply Yb rfl rfl rfl rfl (p75).go;rintro _ k3 ⟨rfl,hy⟩;replace hx:=hx.trans hy;clear hy;by_cases H4:0≤i.2.1∧i.2.1≤x.locals-1;rotate_left
  ·rw[Yf H4];refine tW ?_;exact noB rfl (fun h=>H4 (h.loc (.inl H10))) hx (by simp)
  rw[Ym H4];refine tW ?_;exact Ycf rfl ⟨H2,fun h=>by omega,fun _=>H4,fun h=>by omega,fun h=>by omega,fun h=>by omega,fun h=>by omega,fun h=>by omega,fun h=>by omega,fun h=>by omega,fun h=>by omega,fun h=>by omega,fun h=>by omega⟩ hx (by simp)
 refine tW ?_;refine oI (i.1=4) (fun H11=>?_) (fun H11=>?_)
 ·refine tV ?_;apply Y1 (w:=I (x.locals-1)) rfl rfl trivial (by rw[w64 (by omega) (by omega)]);refine tV ?_;apply Yb rfl rfl rfl rfl (p75).go;rintro _ k3 ⟨rfl,hy⟩;replace hx:=hx.trans hy;clear hy;by_cases H4:0≤i.2.1∧i.2.1≤x.locals-1;rotate_left
  ·rw[Yf H4];refine tW ?_;exact noB rfl (fun h=>H4 (h.loc (.inr H11))) hx (by simp)
  rw[Ym H4];refine tW ?_;exact Ycf rfl ⟨H2,fun h=>by omega,fun _=>H4,fun h=>by omega,fun h=>by omega,fun h=>by omega,fun h=>by omega,fun h=>by omega,fun h=>by omega,fun h=>by omega,fun h=>by omega,fun h=>by omega,fun h=>by omega⟩ hx (by simp)
 refine tW ?_;refine oI (i.1=37) (fun H12=>?_) (fun H12=>?_)
 ·refine tV ?_;apply Yb rfl rfl rfl rfl (p169 (hR' _ hx) hw).go;rintro _ k3 ⟨rfl,hy⟩;replace hx:=hx.trans hy;clear hy;by_cases H4:Ypc m i.2.2.1 0;rotate_left
  ·rw[Yf H4];refine tW ?_;exact noB rfl (fun h=>(fun h=>H4 h.1) (h.new H12)) hx (by simp)
  rw[Ym H4];by_cases H5:Yex m i;rotate_left
  ·rw[Yf H5];refine tW ?_;exact noB rfl (fun h=>(fun h=>H5 h.2) (h.new H12)) hx (by simp)
  rw[Ym H5];refine tW ?_;exact Ycf rfl ⟨H2,fun h=>by omega,fun h=>by omega,fun _=>⟨H4,H5⟩,fun h=>by omega,fun h=>by omega,fun h=>by omega,fun h=>by omega,fun h=>by omega,fun h=>by omega,fun h=>by omega,fun h=>by omega,fun h=>by omega⟩ hx (by simp)
 refine tW ?_;refine oI (i.1=38) (fun H13=>?_) (fun H13=>?_)
 ·refine tV ?_;apply Yb rfl rfl rfl rfl (p75).go;rintro _ k3 ⟨rfl,hy⟩;replace hx:=hx.trans hy;clear hy;by_cases H4:0≤i.2.2.1∧i.2.2.1≤199;rotate_left
  ·rw[Yf H4];refine tW ?_;exact noB rfl (fun h=>(fun h=>H4 h.1) (h.fld (.inl H13))) hx (by simp)
  rw[Ym H4];refine tW ?_;apply Yb rfl rfl rfl rfl (p75).go;rintro _ k4 ⟨rfl,hy⟩;replace hx:=hx.trans hy;clear hy;by_cases H5:0≤i.2.2.2∧i.2.2.2≤1;rotate_left
  ·rw[Yf H5];refine tW ?_;exact noB rfl (fun h=>(fun h=>H5 h.2) (h.fld (.inl H13))) hx (by simp)
  rw[Ym H5];refine tW ?_;exact Ycf rfl ⟨H2,fun h=>by omega,fun h=>by omega,fun h=>by omega,fun _=>⟨H4,H5⟩,fun h=>by omega,fun h=>by omega,fun h=>by omega,fun h=>by omega,fun h=>by omega,fun h=>by omega,fun h=>by omega,fun h=>by omega⟩ hx (by simp)
 refine tW ?_;refine oI (i.1=39) (fun H14=>?_) (fun H14=>?_)
 ·refine tV ?_;apply Yb rfl rfl rfl rfl (p75).go;rintro _ k3 ⟨rfl,hy⟩;replace hx:=hx.trans hy;clear hy;by_cases H4:0≤i.2.2.1∧i.2.2.1≤199;rotate_left
  ·rw[Yf H4];refine tW ?_;exact noB rfl (fun h=>(fun h=>H4 h.1) (h.fld (.inr H14))) hx (by simp)
  rw[Ym H4];refine tW ?_;apply Yb rfl rfl rfl rfl (p75).go;rintro _ k4 ⟨rfl,hy⟩;replace hx:=hx.trans hy;clear hy;by_cases H5:0≤i.2.2.2∧i.2.2.2≤1;rotate_left
  ·rw[Yf H5];refine tW ?_;exact noB rfl (fun h=>(fun h=>H5 h.2) (h.fld (.inr H14))) hx (by simp)
  rw[Ym H5];refine tW ?_;exact Ycf rfl ⟨H2,fun h=>by omega,fun h=>by omega,fun h=>by omega,fun _=>⟨H4,H5⟩,fun h=>by omega,fun h=>by omega,fun h=>by omega,fun h=>by omega,fun h=>by omega,fun h=>by omega,fun h=>by omega,fun h=>by omega⟩ hx (by simp)
 refine tW ?_;refine oI (i.1=40) (fun H15=>?_) (fun H15=>?_)
 ·refine tV ?_;apply Y0 rfl rfl (v6.mono RN.mono hx);apply Y1 (w:=I ((m.stat.length:Int)-1)) rfl rfl trivial (by rw[w64 (by omega) (by omega)]);refine tV ?_;apply Yb rfl rfl rfl rfl (p75).go;rintro _ k3 ⟨rfl,hy⟩;replace hx:=hx.trans hy;clear hy;by_cases H4:0≤i.2.2.1∧i.2.2.1≤(m.stat.length:Int)-1;rotate_left
  ·rw[Yf H4];refine tW ?_;exact noB rfl (fun h=>(fun h=>H4 h.1) (h.stat (.inl H15))) hx (by simp)
  rw[Ym H4];by_cases H5:Yex m i;rotate_left
  ·rw[Yf H5];refine tW ?_;exact noB rfl (fun h=>(fun h=>H5 h.2) (h.stat (.inl H15))) hx (by simp)
  rw[Ym H5];refine tW ?_;exact Ycf rfl ⟨H2,fun h=>by omega,fun h=>by omega,fun h=>by omega,fun h=>by omega,fun _=>⟨H4,H5⟩,fun h=>by omega,fun h=>by omega,fun h=>by omega,fun h=>by omega,fun h=>by omega,fun h=>by omega,fun h=>by omega⟩ hx (by simp)
 refine tW ?_;refine oI (i.1=41) (fun H16=>?_) (fun H16=>?_)
 ·refine tV ?_;apply Y0 rfl rfl (v6.mono RN.mono hx);apply Y1 (w:=I ((m.stat.length:Int)-1)) rfl rfl trivial (by rw[w64 (by omega) (by omega)]);refine tV ?_;apply Yb rfl rfl rfl rfl (p75).go;rintro _ k3 ⟨rfl,hy⟩;replace hx:=hx.trans hy;clear hy;by_cases H4:0≤i.2.2.1∧i.2.2.1≤(m.stat.length:Int)-1;rotate_left
  ·rw[Yf H4];refine tW ?_;exact noB rfl (fun h=>(fun h=>H4 h.1) (h.stat (.inr H16))) hx (by simp)
  rw[Ym H4];by_cases H5:Yex m i;rotate_left
  ·rw[Yf H5];refine tW ?_;exact noB rfl (fun h=>(fun h=>H5 h.2) (h.stat (.inr H16))) hx (by simp)
  rw[Ym H5];refine tW ?_;exact Ycf rfl ⟨H2,fun h=>by omega,fun h=>by omega,fun h=>by omega,fun h=>by omega,fun _=>⟨H4,H5⟩,fun h=>by omega,fun h=>by omega,fun h=>by omega,fun h=>by omega,fun h=>by omega,fun h=>by omega,fun h=>by omega⟩ hx (by simp)
 refine tW ?_;refine oI (i.1=42) (fun H17=>?_) (fun H17=>?_)
 ·refine tV ?_;apply Yb rfl rfl rfl rfl (p117 (hR' _ hx) hw).go;rintro _ k3 ⟨rfl,hy⟩;replace hx:=hx.trans hy;clear hy;by_cases H4:Yhq m i.2.2.1;rotate_left
  ·rw[Yf H4];refine tW ?_;exact noB rfl (fun h=>(fun h=>H4 h.1) (h.calls H17)) hx (by simp)
  rw[Ym H4];by_cases H5:Yex m i;rotate_left
  ·rw[Yf H5];refine tW ?_;exact noB rfl (fun h=>(fun h=>H5 h.2) (h.calls H17)) hx (by simp)
  rw[Ym H5];refine tW ?_;exact Ycf rfl ⟨H2,fun h=>by omega,fun h=>by omega,fun h=>by omega,fun h=>by omega,fun h=>by omega,fun _=>⟨H4,H5⟩,fun h=>by omega,fun h=>by omega,fun h=>by omega,fun h=>by omega,fun h=>by omega,fun h=>by omega⟩ hx (by simp)
 refine tW ?_;refine oI (i.1=43) (fun H18=>?_) (fun H18=>?_)
 ·refine tV ?_;apply Yb rfl rfl rfl rfl (p75).go;rintro _ k3 ⟨rfl,hy⟩;replace hx:=hx.trans hy;clear hy;by_cases H4:0≤i.2.2.1∧i.2.2.1≤199;rotate_left
  ·rw[Yf H4];refine tW ?_;exact noB rfl (fun h=>(fun h=>H4 h.1) (h.callv H18)) hx (by simp)
  rw[Ym H4];refine tW ?_;apply Yb rfl rfl rfl rfl (p75).go;rintro _ k4 ⟨rfl,hy⟩;replace hx:=hx.trans hy;clear hy;by_cases H5:1≤i.2.2.2∧i.2.2.2≤7;rotate_left
  ·rw[Yf H5];refine tW ?_;exact noB rfl (fun h=>(fun h=>H5 h.2) (h.callv H18)) hx (by simp)
  rw[Ym H5];refine tW ?_;exact Ycf rfl ⟨H2,fun h=>by omega,fun h=>by omega,fun h=>by omega,fun h=>by omega,fun h=>by omega,fun h=>by omega,fun _=>⟨H4,H5⟩,fun h=>by omega,fun h=>by omega,fun h=>by omega,fun h=>by omega,fun h=>by omega⟩ hx (by simp)
 refine tW ?_;refine oI (i.1=44) (fun H19=>?_) (fun H19=>?_)
 ·refine tv ?_;refine tX ?_;apply Ybe [] [.B,.A,.B,.A,.A,.A,.B,.A,.A,.A,.A,.A,.B,.A,.B,.A,.A,.A,.A,.B,.A,.A,.A] (by simp) rfl;apply x_ldm (l:=[vc,vm,I m.entry,I m.need,vg,vw,vr,vs,vf]) rfl rfl rfl rfl;apply x_v rfl rfl trivial;apply x_ld1 rfl rfl rfl;apply Yfq rfl rfl rfl (by rw[Yl];exact(p117 (hR' _ hx) hw).go);intro k3 hy;replace hx:=hx.trans hy;clear hy;by_cases H4:Yhq m i.2.2.1;rotate_left
  ·rw[Yf H4];apply x_v rfl rfl trivial;apply Ki rfl rfl;apply Ki rfl rfl;apply Ki rfl rfl;apply x_v rfl rfl trivial;apply x_v rfl rfl trivial;apply Ki rfl rfl;apply Ki rfl rfl;apply Ki rfl rfl;apply Ki rfl rfl;apply Ki rfl rfl;apply Ki rfl rfl;apply Ki rfl rfl;apply Ki rfl rfl;apply Ki rfl rfl;apply Ki rfl rfl;apply Ki rfl rfl;apply x_v rfl rfl trivial;apply x_v rfl rfl trivial;apply Yba;refine tW ?_;exact noB rfl (fun h=>(fun h=>H4 h.1) (h.callx H19)) hx (by simp)
  rw[Ym H4];apply x_v rfl rfl trivial;apply Ya3 rfl;apply x_v rfl rfl trivial;apply Ya3 rfl;apply x_ld1 rfl rfl rfl;apply Ya3 rfl;apply Yfq rfl rfl rfl (by exact p75 (n:=i.2.2.2) (a:=1) (b:=7));intro k4 hy;replace hx:=hx.trans hy;clear hy;by_cases H5:1≤i.2.2.2∧i.2.2.2≤7;rotate_left
  ·rw[Yf H5];apply x_v rfl rfl trivial;apply x_v rfl rfl trivial;apply Ki rfl rfl;apply Ki rfl rfl;apply Ki rfl rfl;apply Ki rfl rfl;apply Ki rfl rfl;apply Ki rfl rfl;apply Ki rfl rfl;apply Ki rfl rfl;apply Ki rfl rfl;apply Ki rfl rfl;apply Ki rfl rfl;apply x_v rfl rfl trivial;apply x_v rfl rfl trivial;apply Yba;refine tW ?_;exact noB rfl (fun h=>(fun h=>H5 h.2.1) (h.callx H19)) hx (by simp)
  rw[Ym H5];obtain⟨hn,em⟩:=mAt_at H4.1;have hn0:i.2.2.1=(i.2.2.1.toNat:Int):=by have:=H4.1.1;omega
  apply x_v rfl rfl trivial;apply x_v rfl rfl trivial;apply Ya3 rfl;apply x_v rfl rfl trivial;apply Ya3 rfl;apply x_v rfl rfl trivial;apply Ya3 rfl;apply x_ld1 rfl rfl rfl;apply Ya3 rfl;apply x_v rfl rfl trivial;apply Ya3 rfl;apply x_ld1 rfl rfl rfl;apply Ya3 rfl;apply x_iaK (z:=i.2.2.1.toNat) rfl rfl (by rw[←hn0];rfl) (by rw[Yl];exact v2.mono RMth.mono hx) hn;intro p cs hp hcs hcl;obtain⟨_,_,rfl,_⟩:=hcs;apply Ya3 rfl;apply x_faK [I m.methods[i.2.2.1.toNat].args] rfl rfl hp rfl;intro p2 hp2;apply Ya3 rfl;apply x_ldA rfl rfl hp2 (.one rfl);apply Ya3 rfl;apply x_v rfl rfl trivial;apply Ya3 rfl;apply x_ld1 rfl rfl rfl;apply Ya3 rfl;apply Ymj rfl rfl trivial;intro b6 hb6;apply x_v rfl rfl trivial;apply x_v rfl rfl trivial;apply Yba;by_cases H6:(mAt m i.2.2.1).args=i.2.2.2;rotate_left
  ·obtain rfl:b6=false:=by
    rw[hb6,←em];exact Zx H6
   refine tW ?_;exact noB rfl (fun h=>(fun h=>H6 h.2.2) (h.callx H19)) hx (by simp)
  obtain rfl:b6=true:=by
   rw[hb6,←em];exact Zt H6
  refine tW ?_;exact Ycf rfl ⟨H2,fun h=>by omega,fun h=>by omega,fun h=>by omega,fun h=>by omega,fun h=>by omega,fun h=>by omega,fun h=>by omega,fun _=>⟨H4,H5,H6⟩,fun h=>by omega,fun h=>by omega,fun h=>by omega,fun h=>by omega⟩ hx (by simp)
 refine tW ?_;refine oI (i.1=45) (fun H20=>?_) (fun H20=>?_)
 ·refine tV ?_;apply Yb rfl rfl rfl rfl (p123 (hR' _ hx) hw).go;rintro _ k3 ⟨rfl,hy⟩;replace hx:=hx.trans hy;clear hy;by_cases H4:IsM m i.2.2.1;rotate_left
  ·rw[Yf H4];refine tW ?_;exact noB rfl (fun h=>(fun h=>H4 h.1) (h.calli H20)) hx (by simp)
  rw[Ym H4];refine tW ?_;apply Yb rfl rfl rfl rfl (p75).go;rintro _ k4 ⟨rfl,hy⟩;replace hx:=hx.trans hy;clear hy;by_cases H5:1≤i.2.2.2∧i.2.2.2≤7;rotate_left
  ·rw[Yf H5];refine tW ?_;exact noB rfl (fun h=>(fun h=>H5 h.2) (h.calli H20)) hx (by simp)
  rw[Ym H5];refine tW ?_;exact Ycf rfl ⟨H2,fun h=>by omega,fun h=>by omega,fun h=>by omega,fun h=>by omega,fun h=>by omega,fun h=>by omega,fun h=>by omega,fun h=>by omega,fun _=>⟨H4,H5⟩,fun h=>by omega,fun h=>by omega,fun h=>by omega⟩ hx (by simp)
 refine tW ?_;refine oI (i.1=49) (fun H21=>?_) (fun H21=>?_)
 ·refine tV ?_;apply Yb rfl rfl rfl rfl (p169 (hR' _ hx) hw).go;rintro _ k3 ⟨rfl,hy⟩;replace hx:=hx.trans hy;clear hy;by_cases H4:Ypc m i.2.2.1 1;rotate_left
  ·rw[Yf H4];refine tW ?_;exact noB rfl (fun h=>H4 (h.newi H21)) hx (by simp)
  rw[Ym H4];refine tW ?_;exact Ycf rfl ⟨H2,fun h=>by omega,fun h=>by omega,fun h=>by omega,fun h=>by omega,fun h=>by omega,fun h=>by omega,fun h=>by omega,fun h=>by omega,fun h=>by omega,fun _=>H4,fun h=>by omega,fun h=>by omega⟩ hx (by simp)
 refine tW ?_;refine oI (i.1=50) (fun H22=>?_) (fun H22=>?_)
 ·refine tV ?_;apply Yb rfl rfl rfl rfl (p169 (hR' _ hx) hw).go;rintro _ k3 ⟨rfl,hy⟩;replace hx:=hx.trans hy;clear hy;by_cases H4:Ypc m i.2.2.1 2;rotate_left
  ·rw[Yf H4];refine tW ?_;exact noB rfl (fun h=>H4 (h.newa H22)) hx (by simp)
  rw[Ym H4];refine tW ?_;exact Ycf rfl ⟨H2,fun h=>by omega,fun h=>by omega,fun h=>by omega,fun h=>by omega,fun h=>by omega,fun h=>by omega,fun h=>by omega,fun h=>by omega,fun h=>by omega,fun h=>by omega,fun _=>H4,fun h=>by omega⟩ hx (by simp)
 refine tW ?_;refine oI (i.1=56) (fun H23=>?_) (fun H23=>?_)
 ·refine tV ?_;apply Yb rfl rfl rfl rfl (p79 (hR' _ hx) hw).go;rintro _ k3 ⟨rfl,hy⟩;replace hx:=hx.trans hy;clear hy;by_cases H4:IsT m i.2.2.1;rotate_left
  ·rw[Yf H4];refine tW ?_;exact noB rfl (fun h=>H4 (h.cast (.inl H23))) hx (by simp)
  rw[Ym H4];refine tW ?_;exact Ycf rfl ⟨H2,fun h=>by omega,fun h=>by omega,fun h=>by omega,fun h=>by omega,fun h=>by omega,fun h=>by omega,fun h=>by omega,fun h=>by omega,fun h=>by omega,fun h=>by omega,fun h=>by omega,fun _=>H4⟩ hx (by simp)
 refine tW ?_;refine oI (i.1=57) (fun H24=>?_) (fun H24=>?_)
 ·refine tV ?_;apply Yb rfl rfl rfl rfl (p79 (hR' _ hx) hw).go;rintro _ k3 ⟨rfl,hy⟩;replace hx:=hx.trans hy;clear hy;by_cases H4:IsT m i.2.2.1;rotate_left
  ·rw[Yf H4];refine tW ?_;exact noB rfl (fun h=>H4 (h.cast (.inr H24))) hx (by simp)
  rw[Ym H4];refine tW ?_;exact Ycf rfl ⟨H2,fun h=>by omega,fun h=>by omega,fun h=>by omega,fun h=>by omega,fun h=>by omega,fun h=>by omega,fun h=>by omega,fun h=>by omega,fun h=>by omega,fun h=>by omega,fun h=>by omega,fun _=>H4⟩ hx (by simp)
 refine tW ?_;refine tW ?_;exact Ycf rfl ⟨H2,fun h=>by omega,fun h=>by omega,fun h=>by omega,fun h=>by omega,fun h=>by omega,fun h=>by omega,fun h=>by omega,fun h=>by omega,fun h=>by omega,fun h=>by omega,fun h=>by omega,fun h=>by omega⟩ hx (by simp)
end Go.Proofs
namespace Go.Img
open List hiding head
def TrapP (m:Image) (n:Nat) (t:Kr):Prop:=(0≤t.1∧t.1<t.2.1)∧t.2.1≤(n:Int)∧(0≤t.2.2.1∧t.2.2.1≤(n:Int)-1)∧(t.2.2.2= -1∨IsT m t.2.2.2)
def HeadP (x:Mth):Prop:=0<x.code.length→x.code.length≤100∧x.args≤x.locals∧Yg0 (x.code.getD (x.code.length-1) (0,0,0,0)).1
structure MethP (m:Image) (x:Mth):Prop where
 args:0≤x.args∧x.args≤7
 locals:0≤x.locals∧x.locals≤16
 stack:0≤x.stack∧x.stack≤16
 head:HeadP x
 traps:∀t∈x.traps,TrapP m x.code.length t
 code:∀i∈x.code,InsP m x.locals x.code.length i
end Go.Img
set_option maxRecDepth 100000
namespace Go.Proofs
open List
open Go.Proofs.Tryz
variable {m:Image} {c:List AV} {x:Mth} {h:Ya}
theorem p130{d e:List AV}{i:Kr}{b1 b2:Nat}(hb1:h b1=some (.cells c))(hb2:h b2=some (.cells d))(hc:RImg h c m)(hw:m.WF)(hd:RMth h d x)(he:RFour h e i)(hlo:0≤x.locals∧x.locals≤16)(hlc:Len x.code):Looks prog ann 190 [.agg e,.ptr b1 0,.ptr b2 0] h (.bool (BP (InsP m x.locals x.code.length i))):=by
 have hcl:c.length=9:=by obtain⟨vc,vm,vg,vw,vr,vs,vf,rfl,_⟩:=hc;rfl
 have hdl:d.length=6:=by obtain⟨vk,vt,rfl,_⟩:=hd;rfl
 have hel:e.length=4:=by rw[show e=[I i.1,I i.2.1,I i.2.2.1,I i.2.2.2] from he];rfl
 refine Yo rfl func190 Zw rfl ?_;refine tS ?_;apply Yq rfl rfl (RFour.one he);refine tV ?_;apply X3 rfl rfl hb1 (fun h=>by omega) (Yw hcl);apply X3 rfl rfl hb2 (fun h=>by omega) (Yw hdl);apply o_loadn rfl rfl (Yw hel);apply Yb rfl rfl rfl rfl (p131 hc hw hd he hlo hlc).go;rintro _ k1 ⟨rfl,hy⟩;refine tW ?_;exact eqB rfl rfl hy (by simp)
theorem p128{e:List AV}{n:Nat}{t:Kr}{b1 b2:Nat}(hm1:h b1=some (.cells [I n]))(hm2:h b2=some (.cells c))(hc:RImg h c m)(hw:m.WF)(he:RFour h e t)(hn:n≤9223372036854775807):Looks prog ann 188 [.agg e,.ptr b1 0,.ptr b2 0] h (.bool (BP (TrapP m n t))):=by
 have hR:=hc;have hcl:c.length=9:=by obtain⟨vc,vm,vg,vw,vr,vs,vf,rfl,_⟩:=hc;rfl
 obtain rfl:e=[I t.1,I t.2.1,I t.2.2.1,I t.2.2.2]:=he;have hx:Ext h h:= .refl;refine Yo rfl func188 Zw rfl ?_;refine tS ?_;apply Yq rfl rfl (show List.all _ AV.one=true from rfl);refine tV ?_;refine oI (0≤t.1) (fun H1=>?_) (fun H1=>?_);rotate_left
 ·refine tW ?_;exact noB rfl (fun h=>H1 h.1.1) hx (by simp)
 refine tW ?_;refine oI (t.1<t.2.1) (fun H2=>?_) (fun H2=>?_);rotate_left
 ·refine tW ?_;exact noB rfl (fun h=>H2 h.1.2) hx (by simp)
 refine tW ?_;apply Y2 rfl rfl (hx _ _ hm1) (fun h=>by omega) rfl;refine tV ?_;refine oI (t.2.1≤(n:Int)) (fun H3=>?_) (fun H3=>?_);rotate_left
 ·refine tW ?_;exact noB rfl (fun h=>H3 h.2.1) hx (by simp)
 refine tW ?_;apply Y2 rfl rfl (hx _ _ hm1) (fun h=>by omega) rfl;refine tV ?_;apply Y1 (w:=I ((n:Int)-1)) rfl rfl trivial (by rw[w64 (by omega) (by omega)]);refine tV ?_;apply Yb rfl rfl rfl rfl (p75).go;rintro _ k1 ⟨rfl,hy⟩;replace hx:=hx.trans hy;clear hy;by_cases H4:0≤t.2.2.1∧t.2.2.1≤(n:Int)-1;rotate_left
 ·rw[Yf H4];refine tW ?_;exact noB rfl (fun h=>H4 h.2.2.1) hx (by simp)
 rw[Ym H4];refine tW ?_;refine oI (t.2.2.2= -1) (fun H5=>?_) (fun H5=>?_)
 ·refine tW ?_;exact Ycf rfl ⟨⟨H1,H2⟩,H3,H4,.inl H5⟩ hx (by simp)
 refine tW ?_;apply X3 rfl rfl (hx _ _ hm2) (fun h=>by omega) (Yw hcl);refine tV ?_;apply Yb rfl rfl rfl rfl (p79 (RImg.mono _ _ _ _ hx hR) hw).go;rintro _ k1 ⟨rfl,hy⟩;replace hx:=hx.trans hy;clear hy;by_cases H6:IsT m t.2.2.2;rotate_left
 ·rw[Yf H6];refine tW ?_;exact noB rfl (fun h=>h.2.2.2.elim H5 H6) hx (by simp)
 rw[Ym H6];refine tW ?_;exact Ycf rfl ⟨⟨H1,H2⟩,H3,H4,.inr H6⟩ hx (by simp)
theorem p82{d:List AV}(hc:RImg h c m)(hw:m.WF)(hd:RMth h d x)(hwx:x.WF):Looks prog ann 113 [.agg c,.agg d] h (.bool (BP (MethP m x))):=by
 have hone:=hc.one;have hone2:=hd.one;have lco:Len x.code:=hwx.code.1;have ltr:Len x.traps:=hwx.traps.1;have lc2:=lco;unfold Len at lc2;obtain⟨vk,vt,rfl,u1,u2⟩:=hd;refine Yo rfl func113 Zw rfl ?_;refine tS ?_;apply Yee (v:= .agg c) rfl rfl hone;intro b1 hb1;apply Yee (v:= .agg [I x.args,I x.locals,I x.stack,.bool x.gives,vk,vt]) rfl rfl hone2;intro b2 hb2;refine tV ?_;apply Y2 rfl rfl upd_same (fun h=>by omega) rfl;apply Y0 rfl rfl (u1.mono RFour.mono ((Ext.upd hb1).trans (.upd hb2)));apply K8 rfl;intro b3 hb3;apply Ybr (v:=I x.code.length) rfl rfl rfl rfl rfl rfl upd_same rfl;rw[Xm];have h12:b2≠b1:=fun e=>by rw[e,upd_same]at hb2;cases hb2
 have h23:b3≠b2:=fun e=>by rw[e,upd_same]at hb3;cases hb3
 have h13:b3≠b1:=fun e=>by rw[e,Ys h12.symm,upd_same]at hb3;cases hb3
 obtain⟨G,hG⟩:∃G,G=upd (upd (upd h b1 (some (.cells c))) b2 (some (.cells [I x.args,I x.locals,I x.stack,.bool x.gives,vk,vt]))) b3 (some (.cells [I x.code.length])):=⟨_,rfl⟩;have hG0:Ext h G:=by rw[hG];exact((Ext.upd hb1).trans (.upd hb2)).trans (.upd hb3)
 have g1:G b1=some (.cells c):=by rw[hG,Ys h13.symm,Ys h12.symm,upd_same]
 have g2:G b2=some (.cells [I x.args,I x.locals,I x.stack,.bool x.gives,vk,vt]):=by rw[hG,Ys h23.symm,upd_same]
 have g3:G b3=some (.cells [I x.code.length]):=by rw[hG,upd_same]
 show Yu _ _ _ _ _ _ _ _ [] (upd (upd (upd h b1 (some (.cells c))) b2 (some (.cells [I x.args,I x.locals,I x.stack,.bool x.gives,vk,vt]))) b3 (some (.cells [I x.code.length]))) _;rw[←hG];clear hG hb1 hb2 hb3;replace hc:=RImg.mono _ _ _ _ hG0 hc;replace u1:=u1.mono RFour.mono hG0;replace u2:=u2.mono RFour.mono hG0;have hd:RMth G [I x.args,I x.locals,I x.stack,.bool x.gives,vk,vt] x:=⟨vk,vt,rfl,u1,u2⟩;have hx:Ext G G:= .refl;refine tV ?_;apply Y2 rfl rfl (hx _ _ g2) (fun h=>by omega) rfl;refine tV ?_;apply Yb rfl rfl rfl rfl (p75).go;rintro _ k1 ⟨rfl,hy⟩;replace hx:=hx.trans hy;clear hy;by_cases H1:0≤x.args∧x.args≤7;rotate_left
 ·rw[Yf H1];refine tW ?_;exact noB rfl (fun h=>H1 h.args) (hG0.trans hx) (by simp)
 rw[Ym H1];refine tW ?_;apply Y2 rfl rfl (hx _ _ g2) (fun h=>by omega) rfl;refine tV ?_;apply Yb rfl rfl rfl rfl (p75).go;rintro _ k2 ⟨rfl,hy⟩;replace hx:=hx.trans hy;clear hy;by_cases H2:0≤x.locals∧x.locals≤16;rotate_left
 ·rw[Yf H2];refine tW ?_;exact noB rfl (fun h=>H2 h.locals) (hG0.trans hx) (by simp)
 rw[Ym H2];refine tW ?_;apply Y2 rfl rfl (hx _ _ g2) (fun h=>by omega) rfl;refine tV ?_;apply Yb rfl rfl rfl rfl (p75).go;rintro _ k3 ⟨rfl,hy⟩;replace hx:=hx.trans hy;clear hy;by_cases H3:0≤x.stack∧x.stack≤16;rotate_left
 ·rw[Yf H3];refine tW ?_;exact noB rfl (fun h=>H3 h.stack) (hG0.trans hx) (by simp)
 rw[Ym H3];refine tw ?_;refine tw ?_;refine tw ?_;refine tw ?_;refine tw ?_;refine tw ?_;refine tw ?_;refine tw ?_;refine Jc (σ:=Unit) (fun _=>[(2,.ptr b1 0),(3,.ptr b2 0),(5,.ptr b3 0)]) (fun _ h'=>Ext G h'∧HeadP x) ?_ ?_
 ·have hx:=hx;refine tV ?_;apply Y2 rfl rfl (hx _ _ g3) (fun h=>by omega) rfl;refine tV ?_;refine oI (0<x.code.length) (fun H4=>?_) (fun H4=>?_);rotate_left
  ·refine tW ?_;refine⟨(),tU,rfl,hx,fun h=>absurd h H4⟩
  refine tW ?_;apply Y2 rfl rfl (hx _ _ g3) (fun h=>by omega) rfl;refine tV ?_;refine oI (100<x.code.length) (fun H5=>?_) (fun H5=>?_)
  ·refine tW ?_;exact noB rfl (fun h=>absurd (h.head H4).1 (by omega)) (hG0.trans hx) (by simp)
  refine tW ?_;apply Y2 rfl rfl (hx _ _ g2) (fun h=>by omega) rfl;refine tW ?_;apply Y2 rfl rfl (hx _ _ g2) (fun h=>by omega) rfl;refine tV ?_;refine oI (x.locals<x.args) (fun H6=>?_) (fun H6=>?_)
  ·refine tW ?_;exact noB rfl (fun h=>absurd (h.head H4).2.1 (by omega)) (hG0.trans hx) (by simp)
  refine tW ?_;apply Y2 rfl rfl (hx _ _ g2) (fun h=>by omega) rfl;refine tV ?_;apply Y2 rfl rfl (hx _ _ g3) (fun h=>by omega) rfl;refine tV ?_;apply Y1 (w:=I (((x.code.length-1:Nat):Int))) rfl rfl trivial (by rw[w64 (by omega) (by omega)];congr 1;omega);refine tV ?_;apply Qg rfl rfl rfl (u1.mono RFour.mono hx) (show x.code.length-1<_ by omega);intro p cs hp hcs hcl;obtain rfl:cs=[I _,I _,I _,I _]:=hcs;refine tV ?_;apply Yjx [I x.code[x.code.length-1].1] rfl rfl hp rfl;intro p2 hp2;refine tV ?_;apply Ydb rfl rfl hp2 (fun h=>by omega);refine tV ?_;apply Yb rfl rfl rfl rfl (p126).go;rintro _ k4 ⟨rfl,hy⟩;replace hx:=hx.trans hy;clear hy;have hl:x.code.getD (x.code.length-1) (0,0,0,0)=x.code[x.code.length-1]:=by rw[Zd,Zg (by omega)];rfl
  by_cases H7:Yg0 x.code[x.code.length-1].1;rotate_left
  ·rw[Yf H7];refine tW ?_;exact noB rfl (fun h=>H7 (hl▸(h.head H4).2.2)) (hG0.trans hx) (by simp)
  rw[Ym H7];refine tW ?_;refine⟨(),tU,rfl,hx,fun _=>⟨by omega,by omega,by rw[hl];exact H7⟩⟩
 clear hx;rintro _ k5 ⟨hx,H4⟩;refine tV ?_;apply Y2 rfl rfl (hx _ _ g2) (fun h=>by omega) rfl;refine tV ?_;refine tV ?_;apply Yb rfl rfl rfl rfl (Ybq (P:=fun t=>TrapP m x.code.length t) (pall_trap (u2.mono RFour.mono hx) ltr (Yin fun t _ h2 e i hc2 _=>p128 (i _ _ (hx _ _ g3)) (i _ _ (hx _ _ g1)) (RImg.mono _ _ _ _ (hx.trans i) hc) hw hc2 lc2))).go;rintro _ k6 ⟨rfl,hy⟩;replace hx:=hx.trans hy;clear hy;by_cases H5:∀t∈x.traps,TrapP m x.code.length t;rotate_left
 ·rw[Yf H5];refine tW ?_;exact noB rfl (fun h=>H5 h.traps) (hG0.trans hx) (by simp)
 rw[Ym H5];refine tW ?_;apply Y2 rfl rfl (hx _ _ g2) (fun h=>by omega) rfl;refine tV ?_;apply Yb rfl rfl rfl rfl (Ybq (P:=fun i=>InsP m x.locals x.code.length i) (pall_ins (u1.mono RFour.mono hx) lco (Yin fun t _ h2 e i hc2 _=>p130 (i _ _ (hx _ _ g1)) (i _ _ (hx _ _ g2)) (RImg.mono _ _ _ _ (hx.trans i) hc) hw (RMth.mono _ _ _ _ (hx.trans i) hd) hc2 H2 lco))).go;rintro _ k7 ⟨rfl,hy⟩;replace hx:=hx.trans hy;clear hy;by_cases H6:∀i∈x.code,InsP m x.locals x.code.length i;rotate_left
 ·rw[Yf H6];refine tW ?_;exact noB rfl (fun h=>H6 h.code) (hG0.trans hx) (by simp)
 rw[Ym H6];refine tW ?_;exact Ycf rfl ⟨H1,H2,H3,H4,H5,H6⟩ (hG0.trans hx) (by simp)
end Go.Proofs
namespace Go.Img
open List
variable {w:List Int} {l:List Nat} {a n:Nat}
def Yme (k n:Int):Prop:=0≤k∧k≤10000∧0≤n∧n≤1000
def Ob (w:List Int) (a:Nat):Prop:=a+1<w.length∧Yme (w.getD a 0) (w.getD (a+1) 0)∧w.getD (a+1) 0≤(w.length:Int)-a-2
instance (w:List Int) (a:Nat):Decidable (Ob w a):=by unfold Ob Yme;infer_instance
def Yfk (w:List Int) (a:Nat):Option (List Nat):=
 if a<w.length then
  if Ob w a then(Yfk w (a+2+(w.getD (a+1) 0).toNat)).map (a:: ·) else none
 else some []
termination_by w.length-a
def K6 (w:List Int):Option (List Nat):=if w.length≤1048576 then Yfk w 0 else none
def Y5 (n:Nat) (l:List Nat):List Bool:=(List.range n).map fun i=>decide (i∈l)
theorem Ymo(n:Nat):Y5 n []=List.replicate n false:=by
 apply ext_getElem<;>simp[Y5]
theorem Qv:(Y5 n l).length=n:=by simp[Y5]
theorem Yht(n:Nat)(l:List Nat)(a:Nat):Y5 n (l++[a])=(Y5 n l).set a true:=by
 apply ext_getElem
 ·simp[Y5]
 intro i h1 h2;simp only[Y5,getElem_map,getElem_range,getElem_set,mem_append,Zm];by_cases e:a=i
 ·subst e;simp
 ·have:¬i=a:=fun h=>e h.symm;simp[e,this]
theorem Yit(h:a<(Y5 n l).length):(Y5 n l)[a]=decide (a∈l):=by
 simp only[Y5,getElem_map,getElem_range]
theorem Ku(h:¬a<w.length):Yfk w a=some []:=by rw[Yfk,if_neg h]
theorem Yc5(h:a<w.length)(h2:¬Ob w a):Yfk w a=none:=by rw[Yfk,if_pos h,if_neg h2]
theorem Yg8(h:a<w.length)(h2:Ob w a):Yfk w a=(Yfk w (a+2+(w.getD (a+1) 0).toNat)).map (a:: ·):=by rw[Yfk,if_pos h,if_pos h2]
theorem Yle:∀(n a:Nat) (l:List Nat),w.length-a≤n→Yfk w a=some l→∀x∈l,Ob w x:=by
 intro n
 induction n with
 |zero=>
  intro a l hn h x hx;rw[Ku (by omega)]at h;cases h;cases hx
 |succ n ih=>
  intro a l hn h x hx;by_cases h1:a<w.length
  ·by_cases h2:Ob w a
   ·rw[Yg8 h1 h2]at h;cases e:Yfk w (a+2+(w.getD (a+1) 0).toNat) with
    |none=>rw[e]at h;cases h
    |some l2=>
     rw[e]at h;cases h;rcases mem_cons.1 hx with rfl|hx
     ·exact h2
     ·exact ih _ l2 (by omega) e x hx
   ·rw[Yc5 h1 h2]at h;cases h
  ·rw[Ku h1]at h;cases h;cases hx
theorem Yi2(h:K6 w=some l):∀x∈l,Ob w x:=by
 unfold K6 at h;split at h
 ·exact Yle _ 0 l (Zl _) h
 ·cases h
end Go.Img
set_option maxRecDepth 100000
namespace Go.Proofs
open List hiding nil
open Go.Proofs.Tryz
variable {v:AV} {l:List Int} {h:Ya}
def HObj (g h:Ya) (b:Nat) (w:List Int) (l:List Nat):Prop:=∃v1 v2,h b=some (.cells [I 1048576,v1,v2])∧g b=none∧Sl (RN .i32) 1 h v1 w∧Sl RB 1 h v2 (Y5 w.length l)∧(∀i∈Qm v1,g i=none)∧∀i∈Qm v2,g i=none
theorem p170{k n:Int}:Looks prog ann 147 [I k,I n] h (.bool (BP (Yme k n))):=by
 have hx:Ext h h:= .refl;refine Yo rfl func147 Zw rfl ?_;refine tV ?_;refine oI (0≤k) (fun H1=>?_) (fun H1=>?_);rotate_left
 ·refine tW ?_;exact noB rfl (fun h=>H1 h.1) hx (by simp)
 refine tV ?_;refine oI (k≤10000) (fun H2=>?_) (fun H2=>?_);rotate_left
 ·refine tW ?_;exact noB rfl (fun h=>H2 h.2.1) hx (by simp)
 refine tV ?_;refine oI (0≤n) (fun H3=>?_) (fun H3=>?_);rotate_left
 ·refine tW ?_;exact noB rfl (fun h=>H3 h.2.2.1) hx (by simp)
 refine tV ?_;refine oI (n≤1000) (fun H4=>?_) (fun H4=>?_);rotate_left
 ·refine tW ?_;exact noB rfl (fun h=>H4 h.2.2.2) hx (by simp)
 refine tW ?_;exact Ycf rfl ⟨H1,H2,H3,H4⟩ hx (by simp)
theorem p146:HCallC prog ann 146 [I 1048576] h fun v h'=>∃b,h b=none∧v= .ptr b 0∧h'=upd h b (some (.cells [I 1048576,.nil .sl,.nil .sl])):=by
 refine Yz rfl func146 Zw rfl ?_;refine tW ?_;apply Yee (v:= .agg [I 1048576,.nil .sl,.nil .sl]) rfl rfl rfl;intro b hb;refine tW ?_
 (first|apply X7|apply Xx)
 ·exact rfl
 ·exact rfl
 ·exact⟨b,hb,rfl,Yl⟩
 ·exact fun h=>by cases h
theorem Yq0{E:Lk}{x:SX}{s n:Nat}{cs:List AV}(H:VSl h s v cs n)(hn:v≠ .nil .sl)(hx:ev E x=some v):sv E (.isnil false .sl x)=some (True,.bool false):=by
 simp only[sv,hx];cases H with
 |nil=>exact absurd rfl hn
 |tsl _ _ _=>rfl
 |sl _ _ _ _ _ _ _=>rfl
theorem p145o(hv:Sl (RN .i32) 1 h v l)(hl:l.length≤1048576):HCallC prog ann 43 [v] h fun w h'=>OSl h 1 w (Ygf .i32 l) l.length h':=by
 obtain⟨cs,c1,c2,hone⟩:=sl_cells hv (fun c a hc=>by rw[show c=[.int .i32 a] from hc];rfl);obtain rfl:cs=Ygf .i32 l:=Chunks.map c2;by_cases hn:v= .nil .sl
 ·subst hn;have e0:l=[]:=length_eq_zero_iff.1 (by generalize hq:Ygf .i32 l=cs at c1;generalize l.length=n at c1 ⊢;cases c1;rfl);subst e0;refine Yz rfl func43 Zw rfl ?_;refine tW ?_
  (first|apply X7|apply Xx)
  ·exact rfl
  ·exact rfl
  ·rw[Yl];exact .nil .refl
  ·exact fun _=> .inl (.nil .refl)
 refine Yz rfl func43 Zw rfl ?_;refine tV ?_;apply Yq (v:= .bool false) rfl (Yq0 c1 hn rfl) trivial;refine tV ?_;apply Ync rfl rfl rfl;intro i hi;refine tV ?_;apply Yfm (old:=[]) (l:=0) (new:=Ygf .i32 l) (hb:=h) rfl rfl rfl rfl ⟨.upd hi,.inr ⟨i,rfl,hi,upd_same,rfl⟩⟩ (Yiv (c1.mono (.upd hi))) c1.len hone (by omega);intro w h1 O _;rw[Nat.zero_add]at O;refine tW ?_
 (first|apply X7|apply Xx)
 ·exact rfl
 ·exact rfl
 ·rw[Yl];exact O
 ·intro ht;rcases O.own with ⟨rfl,e1,e2⟩|⟨j,rfl,hj,_⟩
  ·exact .inl ⟨.refl,.inl ⟨rfl,e1,e2⟩⟩
  ·cases ht
theorem p145(hv:Sl (RN .i32) 1 h v l)(hl:l.length≤1048576):HCallC prog ann 43 [v] h fun w h'=>Ext h h'∧Sl (RN .i32) 1 h' w l∧∀i∈Qm w,h i=none:=by
 refine(p145o hv hl).mono fun w h' O=>⟨O.ext,⟨_,O.view,Chunks.of_map⟩,fun i hi=>?_⟩;rcases O.own with ⟨rfl,_⟩|⟨j,rfl,hj,_⟩
 ·cases hi
 ·obtain rfl:=Zm.1 hi;exact hj
end Go.Proofs
