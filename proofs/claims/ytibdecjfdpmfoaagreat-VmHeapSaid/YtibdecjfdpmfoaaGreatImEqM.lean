import Derived.Test.YtibdecjfdpmfoaaGreatImEqR
open Go Go.Abs Go.Proofs.SlimCode Go.Img
set_option maxRecDepth 100000
namespace Go.Proofs
open List
open Go.Proofs.Tryz
variable {h:Ya}
theorem p66{c d:List AV}{x y:Mth}(hc:RMth h c x)(hd:RMth h d y)(wx:x.WF)(wy:y.WF):Looks prog ann 163 [.agg c,.agg d] h (.bool (decide (x=y))):=by
 have hone:=hc.one;have hone2:=hd.one;obtain⟨vc,vt,rfl,r1,r2⟩:=hc;obtain⟨vc',vt',rfl,q1,q2⟩:=hd;refine Yo rfl func163 Zw rfl ?_;refine tS ?_;apply Yq rfl rfl hone;apply Yq rfl rfl hone2;have hx0:Ext h h:= .refl;refine tV ?_;refine oB fun b hb=>?_;by_cases H0:x.args=y.args;rotate_left
 ·have e:b=true:=by rw[hb];simp[H0]
  subst e;refine tW ?_;exact Qf rfl (fun e=>H0 (congrArg Mth.args e)) hx0 (by simp)
 have e:b=false:=by rw[hb];simp[H0]
 subst e;refine tV ?_;refine oB fun b hb=>?_;by_cases H1:x.locals=y.locals;rotate_left
 ·have e:b=true:=by rw[hb];simp[H1]
  subst e;refine tW ?_;exact Qf rfl (fun e=>H1 (congrArg Mth.locals e)) hx0 (by simp)
 have e:b=false:=by rw[hb];simp[H1]
 subst e;refine tV ?_;refine oB fun b hb=>?_;by_cases H2:x.stack=y.stack;rotate_left
 ·have e:b=true:=by rw[hb];simp[H2]
  subst e;refine tW ?_;exact Qf rfl (fun e=>H2 (congrArg Mth.stack e)) hx0 (by simp)
 have e:b=false:=by rw[hb];simp[H2]
 subst e;refine tV ?_;refine oB fun b hb=>?_;by_cases H3:x.gives=y.gives;rotate_left
 ·have e:b=true:=by rw[hb];simp[H3]
  subst e;refine tW ?_;exact Qf rfl (fun e=>H3 (congrArg Mth.gives e)) hx0 (by simp)
 have e:b=false:=by rw[hb];simp[H3]
 subst e;refine tV ?_;apply Y0 rfl rfl (r1.mono RFour.mono hx0);refine tV ?_;apply Y0 rfl rfl (q1.mono RFour.mono hx0);refine tV ?_;refine oB fun b hb=>?_;by_cases H4:x.code.length=y.code.length;rotate_left
 ·have e:b=true:=by rw[hb];simp;omega
  subst e;refine tW ?_;exact Qf rfl (fun e=>H4 (congrArg (fun z=>z.code.length) e)) hx0 (by simp)
 have e:b=false:=by rw[hb];simp;omega
 subst e;refine tV ?_;apply Y0 rfl rfl (r2.mono RFour.mono hx0);refine tV ?_;apply Y0 rfl rfl (q2.mono RFour.mono hx0);refine tV ?_;refine oB fun b hb=>?_;by_cases H5:x.traps.length=y.traps.length;rotate_left
 ·have e:b=true:=by rw[hb];simp;omega
  subst e;refine tW ?_;exact Qf rfl (fun e=>H5 (congrArg (fun z=>z.traps.length) e)) hx0 (by simp)
 have e:b=false:=by rw[hb];simp;omega
 subst e;have wcode:Len x.code:=wx.code.1;unfold Len at wcode;refine tV ?_;refine Kg (fun s:Nat×List Nat=>[(2,.tptr [I x.args,I x.locals,I x.stack,.bool x.gives,vc,vt] 0),(3,.tptr [I y.args,I y.locals,I y.stack,.bool y.gives,vc',vt'] 0),(5,.int .i64 (s.1:Int))]) (fun s=>s.2) (fun s h'=>Ext h h'∧(∀b∈s.2,h b=none)∧s.1≤x.code.length∧x.code.take s.1=y.code.take s.1) (fun s=>x.code.length-s.1) (0,[])
  tU rfl ⟨.refl,by simp,Nat.zero_le _,by simp⟩ ?_
 rintro⟨k,bx0⟩ h' ⟨hx1,hbx0,hk,ht⟩;simp only at hx1 hbx0 hk ht ⊢;have hf1:=r1.mono RFour.mono hx1;have hf2:=q1.mono RFour.mono hx1;refine tV ?_;apply Y0 rfl rfl hf1;refine oB fun b2 hb2=>?_;cases b2
 case false=>
  have hkl:k=x.code.length:=by simp at hb2;omega
  have he0:x.code=y.code:=by
   rw[hkl,take_length]at ht;rw[ht,H4,take_length]
  clear hf1 hf2 hb2 hk ht hkl;have wtraps:Len x.traps:=wx.traps.1;unfold Len at wtraps;refine tV ?_;refine Kg (fun s:Nat×List Nat=>[(2,.tptr [I x.args,I x.locals,I x.stack,.bool x.gives,vc,vt] 0),(3,.tptr [I y.args,I y.locals,I y.stack,.bool y.gives,vc',vt'] 0),(8,.int .i64 (s.1:Int))]) (fun s=>s.2) (fun s h'=>Ext h h'∧(∀b∈s.2,h b=none)∧s.1≤x.traps.length∧x.traps.take s.1=y.traps.take s.1) (fun s=>x.traps.length-s.1) (0,bx0)
   tU rfl ⟨hx1,hbx0,Nat.zero_le _,by simp⟩ ?_
  rintro⟨k,bx1⟩ h' ⟨hx2,hbx1,hk,ht⟩;simp only at hx2 hbx1 hk ht ⊢;have hf1:=r2.mono RFour.mono hx2;have hf2:=q2.mono RFour.mono hx2;refine tV ?_;apply Y0 rfl rfl hf1;refine oB fun b2 hb2=>?_;cases b2
  case false=>
   have hkl:k=x.traps.length:=by simp at hb2;omega
   have he1:x.traps=y.traps:=by
    rw[hkl,take_length]at ht;rw[ht,H5,take_length]
   clear hf1 hf2 hb2 hk ht hkl;refine tW ?_;exact Ymh rfl (mth_ext H0 H1 H2 H3 he0 he1) hx2 hbx1
  have hkl:k<x.traps.length:=by simpa using hb2
  have hkl2:k<y.traps.length:=by omega
  have hS:∀id∈Qm vt++Qm vt',h' id≠none:=fun id hid=>by
   rcases mem_append.1 hid with hid|hid
   ·obtain⟨_,g,_⟩:=hf1;exact g.live id hid
   ·obtain⟨_,g,_⟩:=hf2;exact g.live id hid
  ((with_reducible apply X8);(with_reducible apply X0))
  (with_reducible apply Ybf)
  exact rfl
  (with_reducible apply Yci)
  (with_reducible apply X0)
  (with_reducible apply K5)
  (with_reducible apply Ybg)
  (with_reducible apply K5)
  apply Ybe (Qm vt++Qm vt') [.A,.B,.A,.A,.B,.A,.B,.A,.A,.B,.C,.C,.A,.A] hS rfl;apply x_v rfl rfl trivial;apply Yff (v:=vt) rfl rfl (.t [I x.args,I x.locals,I x.stack,.bool x.gives,vc,vt] [vt] (0+5) rfl) trivial (.one rfl);apply x_v rfl rfl trivial;apply Ymi rfl rfl rfl hf1 hkl (fun i hi=>mem_append_left _ hi);intro p1 c1 hp1 hm1 hc1 _;obtain rfl:=hc1;apply Yff (v:= .agg [I x.traps[k].1,I x.traps[k].2.1,I x.traps[k].2.2.1,I x.traps[k].2.2.2]) rfl rfl hp1 hm1 (.many rfl rfl);apply x_v rfl rfl trivial;apply Yff (v:=vt') rfl rfl (.t [I y.args,I y.locals,I y.stack,.bool y.gives,vc',vt'] [vt'] (0+5) rfl) trivial (.one rfl);apply x_v rfl rfl trivial;apply Ymi rfl rfl rfl hf2 hkl2 (fun i hi=>mem_append_right _ hi);intro p2 c2 hp2 hm2 hc2 _;obtain rfl:=hc2;apply Yff (v:= .agg [I y.traps[k].1,I y.traps[k].2.1,I y.traps[k].2.2.1,I y.traps[k].2.2.2]) rfl rfl hp2 hm2 (.many rfl rfl);apply Ymk rfl;intro i6 hi6;apply Ymk rfl;intro i7 hi7;have hn6:i6∉Qm vt++Qm vt':=fun hc=>hS i6 hc hi6;have hn67:i6≠i7:=fun hc=>by
   have hi7:upd h' i6 (some (.cells [I 0,I 0,I 0,I 0])) i7=none:=hi7;rw[←hc,upd_same]at hi7;cases hi7
  have hi7':h' i7=none:=by
   have hi7:upd h' i6 (some (.cells [I 0,I 0,I 0,I 0])) i7=none:=hi7;rwa[Ys (Ne.symm hn67)]at hi7
  have hn7:i7∉Qm vt++Qm vt':=fun hc=>hS i7 hc hi7';have hxa:Ext h' (upd (upd h' i6 (some (.cells [I 0,I 0,I 0,I 0]))) i7 (some (.cells [I 0,I 0,I 0,I 0]))):=(Ext.upd hi6).trans (.upd hi7);have ea6:(upd (upd h' i6 (some (.cells [I 0,I 0,I 0,I 0]))) i7 (some (.cells [I 0,I 0,I 0,I 0]))) i6=some (.cells [I 0,I 0,I 0,I 0]):=by rw[Ys hn67,upd_same]
  have ea7:(upd (upd h' i6 (some (.cells [I 0,I 0,I 0,I 0]))) i7 (some (.cells [I 0,I 0,I 0,I 0]))) i7=some (.cells [I 0,I 0,I 0,I 0]):=upd_same;show Xe _ _ _ _ _ _ _ _ (i7::i6::bx1) (upd (upd h' i6 (some (.cells [I 0,I 0,I 0,I 0]))) i7 (some (.cells [I 0,I 0,I 0,I 0]))) _;generalize upd (upd h' i6 (some (.cells [I 0,I 0,I 0,I 0]))) i7 (some (.cells [I 0,I 0,I 0,I 0]))=ka at hxa ea6 ea7 ⊢;refine x_A (R:=fun E' bx' k1=>E'=_∧bx'=i7::i6::bx1∧k1=upd (Yv (Qm vt++Qm vt') ka) i6 (some (.cells [I x.traps[k].1,I x.traps[k].2.1,I x.traps[k].2.2.1,I x.traps[k].2.2.2]))) (Ybr (v:= .agg [I x.traps[k].1,I x.traps[k].2.1,I x.traps[k].2.2.1,I x.traps[k].2.2.2]) (cs':=[I x.traps[k].1,I x.traps[k].2.1,I x.traps[k].2.2.1,I x.traps[k].2.2.2]) rfl rfl rfl rfl rfl rfl ((Ky hn6).trans ea6) rfl (X8 ⟨rfl,rfl,rfl,rfl⟩)) ?_;rintro _ _ _ ⟨rfl,rfl,rfl⟩ _;rw[Ygk hn6];have hxb:Ext h' (upd ka i6 (some (.cells [I x.traps[k].1,I x.traps[k].2.1,I x.traps[k].2.2.1,I x.traps[k].2.2.2]))):=Yfv hxa hi6;have eb6:upd ka i6 (some (.cells [I x.traps[k].1,I x.traps[k].2.1,I x.traps[k].2.2.1,I x.traps[k].2.2.2])) i6=some (.cells [I x.traps[k].1,I x.traps[k].2.1,I x.traps[k].2.2.1,I x.traps[k].2.2.2]):=upd_same;have eb7:upd ka i6 (some (.cells [I x.traps[k].1,I x.traps[k].2.1,I x.traps[k].2.2.1,I x.traps[k].2.2.2])) i7=_:=(Ys (Ne.symm hn67)).trans ea7;generalize upd ka i6 (some (.cells [I x.traps[k].1,I x.traps[k].2.1,I x.traps[k].2.2.1,I x.traps[k].2.2.2]))=kb at hxb eb6 eb7 ⊢;refine x_A (R:=fun E' bx' k1=>E'=_∧bx'=i7::i6::bx1∧k1=upd (Yv (Qm vt++Qm vt') kb) i7 (some (.cells [I y.traps[k].1,I y.traps[k].2.1,I y.traps[k].2.2.1,I y.traps[k].2.2.2]))) (Ybr (v:= .agg [I y.traps[k].1,I y.traps[k].2.1,I y.traps[k].2.2.1,I y.traps[k].2.2.2]) (cs':=[I y.traps[k].1,I y.traps[k].2.1,I y.traps[k].2.2.1,I y.traps[k].2.2.2]) rfl rfl rfl rfl rfl rfl ((Ky hn7).trans eb7) rfl (X8 ⟨rfl,rfl,rfl,rfl⟩)) ?_;rintro _ _ _ ⟨rfl,rfl,rfl⟩ _;rw[Ygk hn7];have hxc:Ext h' (upd kb i7 (some (.cells [I y.traps[k].1,I y.traps[k].2.1,I y.traps[k].2.2.1,I y.traps[k].2.2.2]))):=Yfv hxb hi7';have ec7:upd kb i7 (some (.cells [I y.traps[k].1,I y.traps[k].2.1,I y.traps[k].2.2.1,I y.traps[k].2.2.2])) i7=some (.cells [I y.traps[k].1,I y.traps[k].2.1,I y.traps[k].2.2.1,I y.traps[k].2.2.2]):=upd_same;have ec6:upd kb i7 (some (.cells [I y.traps[k].1,I y.traps[k].2.1,I y.traps[k].2.2.1,I y.traps[k].2.2.2])) i6=_:=(Ys hn67).trans eb6;generalize upd kb i7 (some (.cells [I y.traps[k].1,I y.traps[k].2.1,I y.traps[k].2.2.1,I y.traps[k].2.2.2]))=kc at hxc ec6 ec7 ⊢;apply Yba;have hxx:=hx2.trans hxc;have hbb:∀b∈i7::i6::bx1,h b=none:=fun b hb=>by
   have hno:∀j,h' j=none→h j=none:=fun j hj=>by
    cases e:h j with
    |none=>rfl
    |some o=>rw[hx2 _ _ e]at hj;cases hj
   rcases mem_cons.1 hb with rfl|hb
   ·exact hno _ hi7'
   ·rcases mem_cons.1 hb with rfl|hb
    ·exact hno _ hi6
    ·exact hbx1 b hb
  refine tV ?_;apply Y2 rfl rfl ec6 (fun h=>by omega) rfl;refine tV ?_;apply Y2 rfl rfl ec7 (fun h=>by omega) rfl;refine tV ?_;refine oB fun b hb=>?_;by_cases Hz0:x.traps[k].1=y.traps[k].1;rotate_left
  ·have e:b=true:=by rw[hb];simp[Hz0]
   subst e;refine tW ?_;exact Qf rfl (fun e=>Hz0 (by subst e;rfl)) hxx hbb
  have e:b=false:=by rw[hb];simp[Hz0]
  subst e;refine tV ?_;apply Y2 rfl rfl ec6 (fun h=>by omega) rfl;refine tV ?_;apply Y2 rfl rfl ec7 (fun h=>by omega) rfl;refine tV ?_;refine oB fun b hb=>?_;by_cases Hz1:x.traps[k].2.1=y.traps[k].2.1;rotate_left
  ·have e:b=true:=by rw[hb];simp[Hz1]
   subst e;refine tW ?_;exact Qf rfl (fun e=>Hz1 (by subst e;rfl)) hxx hbb
  have e:b=false:=by rw[hb];simp[Hz1]
  subst e;refine tV ?_;apply Y2 rfl rfl ec6 (fun h=>by omega) rfl;refine tV ?_;apply Y2 rfl rfl ec7 (fun h=>by omega) rfl;refine tV ?_;refine oB fun b hb=>?_;by_cases Hz2:x.traps[k].2.2.1=y.traps[k].2.2.1;rotate_left
  ·have e:b=true:=by rw[hb];simp[Hz2]
   subst e;refine tW ?_;exact Qf rfl (fun e=>Hz2 (by subst e;rfl)) hxx hbb
  have e:b=false:=by rw[hb];simp[Hz2]
  subst e;refine tV ?_;apply Y2 rfl rfl ec6 (fun h=>by omega) rfl;refine tV ?_;apply Y2 rfl rfl ec7 (fun h=>by omega) rfl;refine tV ?_;refine oB fun b hb=>?_;by_cases Hz3:x.traps[k].2.2.2=y.traps[k].2.2.2;rotate_left
  ·have e:b=true:=by rw[hb];simp[Hz3]
   subst e;refine tW ?_;exact Qf rfl (fun e=>Hz3 (by subst e;rfl)) hxx hbb
  have e:b=false:=by rw[hb];simp[Hz3]
  subst e;have he:x.traps[k]=y.traps[k]:=Prod.ext Hz0 (Prod.ext Hz1 (Prod.ext Hz2 Hz3));refine tW ?_;rw[w64 (n:=(k:Int)+1) (by omega) (by omega)];refine⟨(k+1,i7::i6::bx1),by simp only;omega,tU,rfl,hxx,hbb,by omega,?_⟩;simp only;rw[take_add_one,take_add_one,ht,Zg hkl,Zg hkl2,he]
 have hkl:k<x.code.length:=by simpa using hb2
 have hkl2:k<y.code.length:=by omega
 have hS:∀id∈Qm vc++Qm vc',h' id≠none:=fun id hid=>by
  rcases mem_append.1 hid with hid|hid
  ·obtain⟨_,g,_⟩:=hf1;exact g.live id hid
  ·obtain⟨_,g,_⟩:=hf2;exact g.live id hid
 ((with_reducible apply X8);(with_reducible apply X0))
 (with_reducible apply Ybf)
 exact rfl
 (with_reducible apply Yci)
 (with_reducible apply X0)
 (with_reducible apply K5)
 (with_reducible apply Ybg)
 (with_reducible apply K5)
 apply Ybe (Qm vc++Qm vc') [.A,.B,.A,.A,.B,.A,.B,.A,.A,.B,.C,.C,.A,.A] hS rfl;apply x_v rfl rfl trivial;apply Yff (v:=vc) rfl rfl (.t [I x.args,I x.locals,I x.stack,.bool x.gives,vc,vt] [vc] (0+4) rfl) trivial (.one rfl);apply x_v rfl rfl trivial;apply Ymi rfl rfl rfl hf1 hkl (fun i hi=>mem_append_left _ hi);intro p1 c1 hp1 hm1 hc1 _;obtain rfl:=hc1;apply Yff (v:= .agg [I x.code[k].1,I x.code[k].2.1,I x.code[k].2.2.1,I x.code[k].2.2.2]) rfl rfl hp1 hm1 (.many rfl rfl);apply x_v rfl rfl trivial;apply Yff (v:=vc') rfl rfl (.t [I y.args,I y.locals,I y.stack,.bool y.gives,vc',vt'] [vc'] (0+4) rfl) trivial (.one rfl);apply x_v rfl rfl trivial;apply Ymi rfl rfl rfl hf2 hkl2 (fun i hi=>mem_append_right _ hi);intro p2 c2 hp2 hm2 hc2 _;obtain rfl:=hc2;apply Yff (v:= .agg [I y.code[k].1,I y.code[k].2.1,I y.code[k].2.2.1,I y.code[k].2.2.2]) rfl rfl hp2 hm2 (.many rfl rfl);apply Ymk rfl;intro i6 hi6;apply Ymk rfl;intro i7 hi7;have hn6:i6∉Qm vc++Qm vc':=fun hc=>hS i6 hc hi6;have hn67:i6≠i7:=fun hc=>by
  have hi7:upd h' i6 (some (.cells [I 0,I 0,I 0,I 0])) i7=none:=hi7;rw[←hc,upd_same]at hi7;cases hi7
 have hi7':h' i7=none:=by
  have hi7:upd h' i6 (some (.cells [I 0,I 0,I 0,I 0])) i7=none:=hi7;rwa[Ys (Ne.symm hn67)]at hi7
 have hn7:i7∉Qm vc++Qm vc':=fun hc=>hS i7 hc hi7';have hxa:Ext h' (upd (upd h' i6 (some (.cells [I 0,I 0,I 0,I 0]))) i7 (some (.cells [I 0,I 0,I 0,I 0]))):=(Ext.upd hi6).trans (.upd hi7);have ea6:(upd (upd h' i6 (some (.cells [I 0,I 0,I 0,I 0]))) i7 (some (.cells [I 0,I 0,I 0,I 0]))) i6=some (.cells [I 0,I 0,I 0,I 0]):=by rw[Ys hn67,upd_same]
 have ea7:(upd (upd h' i6 (some (.cells [I 0,I 0,I 0,I 0]))) i7 (some (.cells [I 0,I 0,I 0,I 0]))) i7=some (.cells [I 0,I 0,I 0,I 0]):=upd_same;show Xe _ _ _ _ _ _ _ _ (i7::i6::bx0) (upd (upd h' i6 (some (.cells [I 0,I 0,I 0,I 0]))) i7 (some (.cells [I 0,I 0,I 0,I 0]))) _;generalize upd (upd h' i6 (some (.cells [I 0,I 0,I 0,I 0]))) i7 (some (.cells [I 0,I 0,I 0,I 0]))=ka at hxa ea6 ea7 ⊢;refine x_A (R:=fun E' bx' k1=>E'=_∧bx'=i7::i6::bx0∧k1=upd (Yv (Qm vc++Qm vc') ka) i6 (some (.cells [I x.code[k].1,I x.code[k].2.1,I x.code[k].2.2.1,I x.code[k].2.2.2]))) (Ybr (v:= .agg [I x.code[k].1,I x.code[k].2.1,I x.code[k].2.2.1,I x.code[k].2.2.2]) (cs':=[I x.code[k].1,I x.code[k].2.1,I x.code[k].2.2.1,I x.code[k].2.2.2]) rfl rfl rfl rfl rfl rfl ((Ky hn6).trans ea6) rfl (X8 ⟨rfl,rfl,rfl,rfl⟩)) ?_;rintro _ _ _ ⟨rfl,rfl,rfl⟩ _;rw[Ygk hn6];have hxb:Ext h' (upd ka i6 (some (.cells [I x.code[k].1,I x.code[k].2.1,I x.code[k].2.2.1,I x.code[k].2.2.2]))):=Yfv hxa hi6;have eb6:upd ka i6 (some (.cells [I x.code[k].1,I x.code[k].2.1,I x.code[k].2.2.1,I x.code[k].2.2.2])) i6=some (.cells [I x.code[k].1,I x.code[k].2.1,I x.code[k].2.2.1,I x.code[k].2.2.2]):=upd_same;have eb7:upd ka i6 (some (.cells [I x.code[k].1,I x.code[k].2.1,I x.code[k].2.2.1,I x.code[k].2.2.2])) i7=_:=(Ys (Ne.symm hn67)).trans ea7;generalize upd ka i6 (some (.cells [I x.code[k].1,I x.code[k].2.1,I x.code[k].2.2.1,I x.code[k].2.2.2]))=kb at hxb eb6 eb7 ⊢;refine x_A (R:=fun E' bx' k1=>E'=_∧bx'=i7::i6::bx0∧k1=upd (Yv (Qm vc++Qm vc') kb) i7 (some (.cells [I y.code[k].1,I y.code[k].2.1,I y.code[k].2.2.1,I y.code[k].2.2.2]))) (Ybr (v:= .agg [I y.code[k].1,I y.code[k].2.1,I y.code[k].2.2.1,I y.code[k].2.2.2]) (cs':=[I y.code[k].1,I y.code[k].2.1,I y.code[k].2.2.1,I y.code[k].2.2.2]) rfl rfl rfl rfl rfl rfl ((Ky hn7).trans eb7) rfl (X8 ⟨rfl,rfl,rfl,rfl⟩)) ?_;rintro _ _ _ ⟨rfl,rfl,rfl⟩ _;rw[Ygk hn7];have hxc:Ext h' (upd kb i7 (some (.cells [I y.code[k].1,I y.code[k].2.1,I y.code[k].2.2.1,I y.code[k].2.2.2]))):=Yfv hxb hi7';have ec7:upd kb i7 (some (.cells [I y.code[k].1,I y.code[k].2.1,I y.code[k].2.2.1,I y.code[k].2.2.2])) i7=some (.cells [I y.code[k].1,I y.code[k].2.1,I y.code[k].2.2.1,I y.code[k].2.2.2]):=upd_same;have ec6:upd kb i7 (some (.cells [I y.code[k].1,I y.code[k].2.1,I y.code[k].2.2.1,I y.code[k].2.2.2])) i6=_:=(Ys hn67).trans eb6;generalize upd kb i7 (some (.cells [I y.code[k].1,I y.code[k].2.1,I y.code[k].2.2.1,I y.code[k].2.2.2]))=kc at hxc ec6 ec7 ⊢;apply Yba;have hxx:=hx1.trans hxc;have hbb:∀b∈i7::i6::bx0,h b=none:=fun b hb=>by
  have hno:∀j,h' j=none→h j=none:=fun j hj=>by
   cases e:h j with
   |none=>rfl
   |some o=>rw[hx1 _ _ e]at hj;cases hj
  rcases mem_cons.1 hb with rfl|hb
  ·exact hno _ hi7'
  ·rcases mem_cons.1 hb with rfl|hb
   ·exact hno _ hi6
   ·exact hbx0 b hb
 refine tV ?_;apply Y2 rfl rfl ec6 (fun h=>by omega) rfl;refine tV ?_;apply Y2 rfl rfl ec7 (fun h=>by omega) rfl;refine tV ?_;refine oB fun b hb=>?_;by_cases Hz0:x.code[k].1=y.code[k].1;rotate_left
 ·have e:b=true:=by rw[hb];simp[Hz0]
  subst e;refine tW ?_;exact Qf rfl (fun e=>Hz0 (by subst e;rfl)) hxx hbb
 have e:b=false:=by rw[hb];simp[Hz0]
 subst e;refine tV ?_;apply Y2 rfl rfl ec6 (fun h=>by omega) rfl;refine tV ?_;apply Y2 rfl rfl ec7 (fun h=>by omega) rfl;refine tV ?_;refine oB fun b hb=>?_;by_cases Hz1:x.code[k].2.1=y.code[k].2.1;rotate_left
 ·have e:b=true:=by rw[hb];simp[Hz1]
  subst e;refine tW ?_;exact Qf rfl (fun e=>Hz1 (by subst e;rfl)) hxx hbb
 have e:b=false:=by rw[hb];simp[Hz1]
 subst e;refine tV ?_;apply Y2 rfl rfl ec6 (fun h=>by omega) rfl;refine tV ?_;apply Y2 rfl rfl ec7 (fun h=>by omega) rfl;refine tV ?_;refine oB fun b hb=>?_;by_cases Hz2:x.code[k].2.2.1=y.code[k].2.2.1;rotate_left
 ·have e:b=true:=by rw[hb];simp[Hz2]
  subst e;refine tW ?_;exact Qf rfl (fun e=>Hz2 (by subst e;rfl)) hxx hbb
 have e:b=false:=by rw[hb];simp[Hz2]
 subst e;refine tV ?_;apply Y2 rfl rfl ec6 (fun h=>by omega) rfl;refine tV ?_;apply Y2 rfl rfl ec7 (fun h=>by omega) rfl;refine tV ?_;refine oB fun b hb=>?_;by_cases Hz3:x.code[k].2.2.2=y.code[k].2.2.2;rotate_left
 ·have e:b=true:=by rw[hb];simp[Hz3]
  subst e;refine tW ?_;exact Qf rfl (fun e=>Hz3 (by subst e;rfl)) hxx hbb
 have e:b=false:=by rw[hb];simp[Hz3]
 subst e;have he:x.code[k]=y.code[k]:=Prod.ext Hz0 (Prod.ext Hz1 (Prod.ext Hz2 Hz3));refine tW ?_;rw[w64 (n:=(k:Int)+1) (by omega) (by omega)];refine⟨(k+1,i7::i6::bx0),by simp only;omega,tU,rfl,hxx,hbb,by omega,?_⟩;simp only;rw[take_add_one,take_add_one,ht,Zg hkl,Zg hkl2,he]
theorem p18{c d:List AV}{x y:Image}(hc:RImg h c x)(hd:RImg h d y)(wx:x.WF)(wy:y.WF):Looks prog ann 84 [.agg c,.agg d] h (.bool (decide (x=y))):=by
 have hone:=hc.one;have hone2:=hd.one;obtain⟨vc,vm,vg,vw,vr,vs,vf,rfl,r1,r2,r3,r4,r5,r6,r7⟩:=hc;obtain⟨vc',vm',vg',vw',vr',vs',vf',rfl,q1,q2,q3,q4,q5,q6,q7⟩:=hd;refine Yo rfl func84 Zw rfl ?_;refine tS ?_;apply Yq rfl rfl hone;apply Yq rfl rfl hone2;have hx0:Ext h h:= .refl;refine tV ?_;apply Y0 rfl rfl (r1.mono RCls.mono hx0);refine tV ?_;apply Y0 rfl rfl (q1.mono RCls.mono hx0);refine tV ?_;refine oB fun b hb=>?_;by_cases H0:x.classes.length=y.classes.length;rotate_left
 ·have e:b=true:=by rw[hb];simp;omega
  subst e;refine tW ?_;exact Qf rfl (fun e=>H0 (congrArg (fun z=>z.classes.length) e)) hx0 (by simp)
 have e:b=false:=by rw[hb];simp;omega
 subst e;refine tV ?_;apply Y0 rfl rfl (r2.mono RMth.mono hx0);refine tV ?_;apply Y0 rfl rfl (q2.mono RMth.mono hx0);refine tV ?_;refine oB fun b hb=>?_;by_cases H1:x.methods.length=y.methods.length;rotate_left
 ·have e:b=true:=by rw[hb];simp;omega
  subst e;refine tW ?_;exact Qf rfl (fun e=>H1 (congrArg (fun z=>z.methods.length) e)) hx0 (by simp)
 have e:b=false:=by rw[hb];simp;omega
 subst e;refine tV ?_;refine oB fun b hb=>?_;by_cases H2:x.entry=y.entry;rotate_left
 ·have e:b=true:=by rw[hb];simp[H2]
  subst e;refine tW ?_;exact Qf rfl (fun e=>H2 (congrArg Image.entry e)) hx0 (by simp)
 have e:b=false:=by rw[hb];simp[H2]
 subst e;refine tV ?_;refine oB fun b hb=>?_;by_cases H3:x.need=y.need;rotate_left
 ·have e:b=true:=by rw[hb];simp[H3]
  subst e;refine tW ?_;exact Qf rfl (fun e=>H3 (congrArg Image.need e)) hx0 (by simp)
 have e:b=false:=by rw[hb];simp[H3]
 subst e;refine tV ?_;apply Yb rfl rfl rfl rfl (p62 (r3.mono RN.mono hx0) (q3.mono RN.mono hx0) wx.given.1 wy.given.1).go;rintro _ k1 ⟨rfl,hy1⟩;have hx1:=hx0.trans hy1;clear hy1;by_cases H4:x.given=y.given;rotate_left
 ·rw[Zx H4];refine tw ?_;apply Yq rfl rfl trivial;refine tW ?_;exact Qf rfl (fun e=>H4 (congrArg Image.given e)) hx1 (by simp)
 rw[Zt H4];refine tw ?_;apply Yq rfl rfl trivial;refine tV ?_;apply Yb rfl rfl rfl rfl (p63 (r4.mono RN.mono hx1) (q4.mono RN.mono hx1) wx.words.1 wy.words.1).go;rintro _ k2 ⟨rfl,hy2⟩;have hx2:=hx1.trans hy2;clear hy2;by_cases H5:x.words=y.words;rotate_left
 ·rw[Zx H5];refine tw ?_;apply Yq rfl rfl trivial;refine tW ?_;exact Qf rfl (fun e=>H5 (congrArg Image.words e)) hx2 (by simp)
 rw[Zt H5];refine tw ?_;apply Yq rfl rfl trivial;refine tV ?_;apply Yb rfl rfl rfl rfl (p62 (r5.mono RN.mono hx2) (q5.mono RN.mono hx2) wx.rel.1 wy.rel.1).go;rintro _ k3 ⟨rfl,hy3⟩;have hx3:=hx2.trans hy3;clear hy3;by_cases H6:x.rel=y.rel;rotate_left
 ·rw[Zx H6];refine tw ?_;apply Yq rfl rfl trivial;refine tW ?_;exact Qf rfl (fun e=>H6 (congrArg Image.rel e)) hx3 (by simp)
 rw[Zt H6];refine tw ?_;apply Yq rfl rfl trivial;refine tV ?_;apply Yb rfl rfl rfl rfl (p63 (r6.mono RN.mono hx3) (q6.mono RN.mono hx3) wx.stat.1 wy.stat.1).go;rintro _ k4 ⟨rfl,hy4⟩;have hx4:=hx3.trans hy4;clear hy4;by_cases H7:x.stat=y.stat;rotate_left
 ·rw[Zx H7];refine tw ?_;apply Yq rfl rfl trivial;refine tW ?_;exact Qf rfl (fun e=>H7 (congrArg Image.stat e)) hx4 (by simp)
 rw[Zt H7];refine tw ?_;apply Yq rfl rfl trivial;refine tV ?_;apply Yb rfl rfl rfl rfl (p64 (r7.mono RB.mono hx4) (q7.mono RB.mono hx4) wx.statref wy.statref).go;rintro _ k5 ⟨rfl,hy5⟩;have hx5:=hx4.trans hy5;clear hy5;by_cases H8:x.statref=y.statref;rotate_left
 ·rw[Zx H8];refine tw ?_;apply Yq rfl rfl trivial;refine tW ?_;exact Qf rfl (fun e=>H8 (congrArg Image.statref e)) hx5 (by simp)
 rw[Zt H8];refine tw ?_;apply Yq rfl rfl trivial;have wclasses:Len x.classes:=wx.classes.1;unfold Len at wclasses;refine tV ?_;refine Xv (fun k:Nat=>[(2,.tptr [vc,vm,I x.entry,I x.need,vg,vw,vr,vs,vf] 0),(3,.tptr [vc',vm',I y.entry,I y.need,vg',vw',vr',vs',vf'] 0),(5,.int .i64 (k:Int))]) (fun k h'=>Ext h h'∧k≤x.classes.length∧x.classes.take k=y.classes.take k) (fun k=>x.classes.length-k) 0
  tU ⟨hx5,Nat.zero_le _,by simp⟩ ?_
 rintro k h' ⟨hy0,hk,ht⟩;have hf1:=r1.mono RCls.mono hy0;have hf2:=q1.mono RCls.mono hy0;refine tV ?_;apply Y0 rfl rfl hf1;refine oB fun b2 hb2=>?_;cases b2
 case false=>
  have hkl:k=x.classes.length:=by simp at hb2;omega
  have he0:x.classes=y.classes:=by
   rw[hkl,take_length]at ht;rw[ht,H0,take_length]
  clear hf1 hf2 hb2 hk ht hkl;have wmethods:Len x.methods:=wx.methods.1;unfold Len at wmethods;refine tV ?_;refine Xv (fun k:Nat=>[(2,.tptr [vc,vm,I x.entry,I x.need,vg,vw,vr,vs,vf] 0),(3,.tptr [vc',vm',I y.entry,I y.need,vg',vw',vr',vs',vf'] 0),(6,.int .i64 (k:Int))]) (fun k h'=>Ext h h'∧k≤x.methods.length∧x.methods.take k=y.methods.take k) (fun k=>x.methods.length-k) 0
   tU ⟨hy0,Nat.zero_le _,by simp⟩ ?_
  rintro k h' ⟨hy1,hk,ht⟩;have hf1:=r2.mono RMth.mono hy1;have hf2:=q2.mono RMth.mono hy1;refine tV ?_;apply Y0 rfl rfl hf1;refine oB fun b2 hb2=>?_;cases b2
  case false=>
   have hkl:k=x.methods.length:=by simp at hb2;omega
   have he1:x.methods=y.methods:=by
    rw[hkl,take_length]at ht;rw[ht,H1,take_length]
   clear hf1 hf2 hb2 hk ht hkl;refine tW ?_;exact Ymh rfl (img_ext he0 he1 H2 H3 H4 H5 H6 H7 H8) hy1 (by simp)
  have hkl:k<x.methods.length:=by simpa using hb2
  have hkl2:k<y.methods.length:=by omega
  refine tV ?_;apply Qg rfl rfl rfl hf1 hkl;intro p1 c1 hp1 hc1 g1;apply Ycm rfl rfl hp1 g1 (fun _=> .refl);refine tV ?_;apply Qg rfl rfl rfl hf2 hkl2;intro p2 c2 hp2 hc2 g2;apply Ycm rfl rfl hp2 g2 (fun _=> .refl);apply Yb rfl rfl rfl rfl (p66 hc1 hc2 (wx.methods.2 _ (getElem_mem hkl)) (wy.methods.2 _ (getElem_mem hkl2))).go;rintro _ k1 ⟨rfl,hyy⟩;have hxx:=hy1.trans hyy;apply Yq rfl rfl trivial;by_cases he:x.methods[k]=y.methods[k];rotate_left
  ·rw[Zx he];refine tW ?_;exact Qf rfl (fun e=>he (by subst e;rfl)) hxx (by simp)
  rw[Zt he];refine tW ?_;rw[w64 (n:=(k:Int)+1) (by omega) (by omega)];refine⟨k+1,by simp only;omega,tU,rfl,hxx,by omega,?_⟩;rw[take_add_one,take_add_one,ht,Zg hkl,Zg hkl2,he]
 have hkl:k<x.classes.length:=by simpa using hb2
 have hkl2:k<y.classes.length:=by omega
 refine tV ?_;apply Qg rfl rfl rfl hf1 hkl;intro p1 c1 hp1 hc1 g1;apply Ycm rfl rfl hp1 g1 (fun _=> .refl);refine tV ?_;apply Qg rfl rfl rfl hf2 hkl2;intro p2 c2 hp2 hc2 g2;apply Ycm rfl rfl hp2 g2 (fun _=> .refl);apply Yb rfl rfl rfl rfl (p65 hc1 hc2 (wx.classes.2 _ (getElem_mem hkl)) (wy.classes.2 _ (getElem_mem hkl2))).go;rintro _ k1 ⟨rfl,hyy⟩;have hxx:=hy0.trans hyy;apply Yq rfl rfl trivial;by_cases he:x.classes[k]=y.classes[k];rotate_left
 ·rw[Zx he];refine tW ?_;exact Qf rfl (fun e=>he (by subst e;rfl)) hxx (by simp)
 rw[Zt he];refine tW ?_;rw[w64 (n:=(k:Int)+1) (by omega) (by omega)];refine⟨k+1,by simp only;omega,tU,rfl,hxx,by omega,?_⟩;rw[take_add_one,take_add_one,ht,Zg hkl,Zg hkl2,he]
end Go.Proofs
