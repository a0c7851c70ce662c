import Derived.Test.YtibdecjfdpmfoaaGreatImEqL
open Go Go.Abs Go.Proofs.SlimCode Go.Img
set_option maxRecDepth 100000
namespace Go.Proofs
open List
open Go.Proofs.Tryz
variable {v1 v2:AV} {x y:Cls} {E:Env} {c d:List AV} {bx:List Nat} {f:Nat} {α:Type} {h h':Ya}
theorem Qf[DecidableEq α]{x y:α}(hE:lk E 4=some (.bool false))(hne:x≠y)(hx:Ext h h')(hb:∀b∈bx,h b=none)(hz0:ann.fz f=false:=by first|rfl|assumption):lret prog ann f [.tmp 4] h (.bool (decide (x=y))) .ret E bx h':=Y3 (vs:=[.bool false]) (by simp only[Yb8,hE]) hz0 (by rw[Zx hne];rfl) hx hb
theorem Ymh[DecidableEq α]{x y:α}(hE:lk E 4=some (.bool true))(hne:x=y)(hx:Ext h h')(hb:∀b∈bx,h b=none)(hz0:ann.fz f=false:=by first|rfl|assumption):lret prog ann f [.tmp 4] h (.bool (decide (x=y))) .ret E bx h':=Y3 (vs:=[.bool true]) (by simp only[Yb8,hE]) hz0 (by rw[Zt hne];rfl) hx hb
theorem cls_ext(h0:x.name=y.name)(h1:x.super=y.super)(h2:x.init=y.init)(h3:x.array=y.array)(h4:x.elem=y.elem)(h5:x.thrown=y.thrown)(h6:x.refs=y.refs)(h7:x.subs=y.subs)(h8:x.slots=y.slots)(h9:x.faces=y.faces):x=y:=by
 cases x;cases y;simp only at h0 h1 h2 h3 h4 h5 h6 h7 h8 h9;subst h0 h1 h2 h3 h4 h5 h6 h7 h8 h9;rfl
theorem mth_ext{x y:Mth}(h0:x.args=y.args)(h1:x.locals=y.locals)(h2:x.stack=y.stack)(h3:x.gives=y.gives)(h4:x.code=y.code)(h5:x.traps=y.traps):x=y:=by
 cases x;cases y;simp only at h0 h1 h2 h3 h4 h5;subst h0 h1 h2 h3 h4 h5;rfl
theorem img_ext{x y:Image}(h0:x.classes=y.classes)(h1:x.methods=y.methods)(h2:x.entry=y.entry)(h3:x.need=y.need)(h4:x.given=y.given)(h5:x.words=y.words)(h6:x.rel=y.rel)(h7:x.stat=y.stat)(h8:x.statref=y.statref):x=y:=by
 cases x;cases y;simp only at h0 h1 h2 h3 h4 h5 h6 h7 h8;subst h0 h1 h2 h3 h4 h5 h6 h7 h8;rfl
theorem p68(hc:RCls h c x)(hd:RCls h d y)(wx:x.WF)(wy:y.WF):Looks prog ann 241 [.agg c,.agg d] h (.bool (decide (x=y))):=by
 have hone:=hc.one;have hone2:=hd.one;obtain⟨vr,vs,vt,vf,rfl,r1,r2,r3,r4⟩:=hc;obtain⟨vr',vs',vt',vf',rfl,q1,q2,q3,q4⟩:=hd;refine Yo rfl func241 Zw rfl ?_;refine tS ?_;apply Yq rfl rfl hone;apply Yq rfl rfl hone2;have hx0:Ext h h:= .refl;refine tV ?_;refine oB fun b hb=>?_;by_cases H0:x.name=y.name;rotate_left
 ·have e:b=false:=by rw[hb];simp[H0]
  subst e;refine tW ?_;exact Qf rfl (fun e=>H0 (congrArg Cls.name e)) hx0 (by simp)
 have e:b=true:=by rw[hb];simp[H0]
 subst e;refine tV ?_;refine oB fun b hb=>?_;by_cases H1:x.super=y.super;rotate_left
 ·have e:b=false:=by rw[hb];simp[H1]
  subst e;refine tW ?_;exact Qf rfl (fun e=>H1 (congrArg Cls.super e)) hx0 (by simp)
 have e:b=true:=by rw[hb];simp[H1]
 subst e;refine tV ?_;refine oB fun b hb=>?_;by_cases H2:x.init=y.init;rotate_left
 ·have e:b=false:=by rw[hb];simp[H2]
  subst e;refine tW ?_;exact Qf rfl (fun e=>H2 (congrArg Cls.init e)) hx0 (by simp)
 have e:b=true:=by rw[hb];simp[H2]
 subst e;refine tV ?_;refine oB fun b hb=>?_;by_cases H3:x.array=y.array;rotate_left
 ·have e:b=false:=by rw[hb];simp[H3]
  subst e;refine tW ?_;exact Qf rfl (fun e=>H3 (congrArg Cls.array e)) hx0 (by simp)
 have e:b=true:=by rw[hb];simp[H3]
 subst e;refine tV ?_;refine oB fun b hb=>?_;by_cases H4:x.elem=y.elem;rotate_left
 ·have e:b=false:=by rw[hb];simp[H4]
  subst e;refine tW ?_;exact Qf rfl (fun e=>H4 (congrArg Cls.elem e)) hx0 (by simp)
 have e:b=true:=by rw[hb];simp[H4]
 subst e;refine tV ?_;refine oB fun b hb=>?_;by_cases H5:x.thrown=y.thrown;rotate_left
 ·have e:b=false:=by rw[hb];simp[H5]
  subst e;refine tW ?_;exact Qf rfl (fun e=>H5 (congrArg Cls.thrown e)) hx0 (by simp)
 have e:b=true:=by rw[hb];simp[H5]
 subst e;refine tV ?_;apply Yb rfl rfl rfl rfl (p73 (r1.mono RB.mono hx0) (q1.mono RB.mono hx0) wx.refs wy.refs).go;rintro _ k1 ⟨rfl,hy1⟩;have hx1:=hx0.trans hy1;clear hy1;by_cases H6:x.refs=y.refs;rotate_left
 ·rw[Zx H6];refine tW ?_;exact Qf rfl (fun e=>H6 (congrArg Cls.refs e)) hx1 (by simp)
 rw[Zt H6];refine tV ?_;apply Yb rfl rfl rfl rfl (p72 (r2.mono RN.mono hx1) (q2.mono RN.mono hx1) wx.subs.1 wy.subs.1).go;rintro _ k2 ⟨rfl,hy2⟩;have hx2:=hx1.trans hy2;clear hy2;by_cases H7:x.subs=y.subs;rotate_left
 ·rw[Zx H7];refine tW ?_;exact Qf rfl (fun e=>H7 (congrArg Cls.subs e)) hx2 (by simp)
 rw[Zt H7];refine tV ?_;apply Yb rfl rfl rfl rfl (p72 (r3.mono RN.mono hx2) (q3.mono RN.mono hx2) wx.slots.1 wy.slots.1).go;rintro _ k3 ⟨rfl,hy3⟩;have hx3:=hx2.trans hy3;clear hy3;by_cases H8:x.slots=y.slots;rotate_left
 ·rw[Zx H8];refine tW ?_;exact Qf rfl (fun e=>H8 (congrArg Cls.slots e)) hx3 (by simp)
 rw[Zt H8];refine tV ?_;apply Yb rfl rfl rfl rfl (p112 (r4.mono RPair.mono hx3) (q4.mono RPair.mono hx3) wx.faces.1 wy.faces.1).go;rintro _ k4 ⟨rfl,hy4⟩;have hx4:=hx3.trans hy4;clear hy4;by_cases H9:x.faces=y.faces;rotate_left
 ·rw[Zx H9];refine tW ?_;exact Qf rfl (fun e=>H9 (congrArg Cls.faces e)) hx4 (by simp)
 rw[Zt H9];refine tW ?_;exact Ymh rfl (cls_ext H0 H1 H2 H3 H4 H5 H6 H7 H8 H9) hx4 (by simp)
theorem p70{x y:Mth}(hc:RMth h c x)(hd:RMth h d y)(wx:x.WF)(wy:y.WF):Looks prog ann 243 [.agg c,.agg d] h (.bool (decide (x=y))):=by
 have hone:=hc.one;have hone2:=hd.one;obtain⟨vr,vs,rfl,r1,r2⟩:=hc;obtain⟨vr',vs',rfl,q1,q2⟩:=hd;refine Yo rfl func243 Zw rfl ?_;refine tS ?_;apply Yq rfl rfl hone;apply Yq rfl rfl hone2;have hx0:Ext h h:= .refl;refine tV ?_;refine oB fun b hb=>?_;by_cases H0:x.args=y.args;rotate_left
 ·have e:b=false:=by rw[hb];simp[H0]
  subst e;refine tW ?_;exact Qf rfl (fun e=>H0 (congrArg Mth.args e)) hx0 (by simp)
 have e:b=true:=by rw[hb];simp[H0]
 subst e;refine tV ?_;refine oB fun b hb=>?_;by_cases H1:x.locals=y.locals;rotate_left
 ·have e:b=false:=by rw[hb];simp[H1]
  subst e;refine tW ?_;exact Qf rfl (fun e=>H1 (congrArg Mth.locals e)) hx0 (by simp)
 have e:b=true:=by rw[hb];simp[H1]
 subst e;refine tV ?_;refine oB fun b hb=>?_;by_cases H2:x.stack=y.stack;rotate_left
 ·have e:b=false:=by rw[hb];simp[H2]
  subst e;refine tW ?_;exact Qf rfl (fun e=>H2 (congrArg Mth.stack e)) hx0 (by simp)
 have e:b=true:=by rw[hb];simp[H2]
 subst e;refine tV ?_;refine oB fun b hb=>?_;by_cases H3:x.gives=y.gives;rotate_left
 ·have e:b=false:=by rw[hb];simp[H3]
  subst e;refine tW ?_;exact Qf rfl (fun e=>H3 (congrArg Mth.gives e)) hx0 (by simp)
 have e:b=true:=by rw[hb];simp[H3]
 subst e;refine tV ?_;apply Yb rfl rfl rfl rfl (p113 (r1.mono RFour.mono hx0) (q1.mono RFour.mono hx0) wx.code.1 wy.code.1).go;rintro _ k1 ⟨rfl,hy1⟩;have hx1:=hx0.trans hy1;clear hy1;by_cases H4:x.code=y.code;rotate_left
 ·rw[Zx H4];refine tW ?_;exact Qf rfl (fun e=>H4 (congrArg Mth.code e)) hx1 (by simp)
 rw[Zt H4];refine tV ?_;apply Yb rfl rfl rfl rfl (p114 (r2.mono RFour.mono hx1) (q2.mono RFour.mono hx1) wx.traps.1 wy.traps.1).go;rintro _ k2 ⟨rfl,hy2⟩;have hx2:=hx1.trans hy2;clear hy2;by_cases H5:x.traps=y.traps;rotate_left
 ·rw[Zx H5];refine tW ?_;exact Qf rfl (fun e=>H5 (congrArg Mth.traps e)) hx2 (by simp)
 rw[Zt H5];refine tW ?_;exact Ymh rfl (mth_ext H0 H1 H2 H3 H4 H5) hx2 (by simp)
theorem splice_all{z:List AV}(h:z.length=c.length):Ql z 0 c=some c:=by
 unfold Ql;rw[if_pos (by omega)];simp[h]
theorem Yhv[DecidableEq α]{t:Nat}{x y:α}{v:Bool}(hE:lk E t=some (.bool v))(hv:v=decide (x=y))(hx:Ext h h')(hb:∀b∈bx,h b=none)(hz0:ann.fz f=false:=by first|rfl|assumption):lret prog ann f [.tmp t] h (.bool (decide (x=y))) .ret E bx h':=Y3 (vs:=[.bool v]) (by simp only[Yb8,hE]) hz0 (by rw[hv];rfl) hx hb
def SF (s:Nat) (z:List AV):SC:=(.seq (.reg [] [⟨some 6,none,.mv (.c (.bool false))⟩])
 (.seq (.seq (.reg [] [⟨some 10,none,.mv (.r 0)⟩,⟨some 11,none,.len (.r 10) none⟩,⟨some 12,none,.mv (.r 1)⟩,⟨some 13,none,.len (.r 12) none⟩,⟨some 14,none,.bin .neq (.r 11) (.r 13)⟩])
 (.cond (.r 14) (.seq (.reg [] [⟨some 6,none,.mv (.c (.bool false))⟩]) .ret) .skip))
 (.seq (.seq (.reg [] [⟨some 15,none,.mv (.r 0)⟩,⟨some 16,none,.len (.r 15) none⟩,⟨some 17,none,.mv (.c (.int .i64 0))⟩])
 (.block 0 (.loop (.seq (.reg [] [⟨some 18,none,.bin .lss (.r 17) (.r 16)⟩])
  (.seq (.cond (.r 18) .skip (.exit 0))
  (.seq (.block 1 (.seq (.reg [] [⟨some 19,none,.mv (.r 17)⟩,⟨some 20,none,.ia (.r 15) (.r 17) none s⟩,⟨some 21,none,.ld (.r 20) (some s)⟩,⟨some 8,none,.alc false z⟩,⟨some 7,none,.mv (.r 19)⟩,⟨none,none,.st (.r 8) (.r 21) s⟩])
   (.seq (.reg [] [⟨some 22,none,.mv (.r 1)⟩,⟨some 23,none,.mv (.r 7)⟩,⟨some 24,none,.ia (.r 22) (.r 23) none s⟩,⟨some 25,none,.ld (.r 24) (some s)⟩,⟨some 9,none,.alc false z⟩,⟨none,none,.st (.r 9) (.r 25) s⟩])
   (.seq (.reg [] [⟨some 26,none,.mv (.r 2)⟩,⟨some 27,none,.ld (.r 8) (some s)⟩,⟨some 28,none,.ld (.r 9) (some s)⟩,⟨some 29,none,.call (.r 26) [(.r 27),(.r 28)]⟩,⟨some 30,none,.un .not (.r 29)⟩])
   (.cond (.r 30) (.seq (.reg [] [⟨some 6,none,.mv (.c (.bool false))⟩]) .ret) .skip)))))
  (.reg [] [⟨some 31,none,.bin .add (.r 17) (.c (.int .i64 1))⟩,⟨some 17,none,.mv (.r 31)⟩])))))))
 (.seq (.reg [] [⟨some 6,none,.mv (.c (.bool true))⟩]) .ret))))
theorem sf_of[DecidableEq α]{gf s:Nat}{z:List AV}{R:Ya→List AV→α→Prop}{W:α→Prop}{fn:Func}{a b:List α}
  (hp0:ann.pure f=false)(hf:prog.funcs[f]?=some fn)(hb:fn.body.bind (slC prog ann f)=some (SF s z))(hn:(fn.name == "runtime.NumGoroutine" || decide (fn.ntmps<3))=false)(hnt:fn.ntmps=32)(hres:fn.results.toList=[.tmp 6])
  (hz:z.length=s)(hR:Yqy R)(hone:∀h c x,R h c x→c.all AV.one=true)(hgf:∀h c d x y,R h c x→R h d y→W x→W y→Looks prog ann gf ([]++[.agg c,.agg d]++[]) h (.bool (decide (x=y))))
  (h1:Sl R s h v1 a)(h2:Sl R s h v2 b)(_l1:a.length≤9223372036854775807)(l2:b.length≤9223372036854775807)(w1:∀x∈a,W x)(w2:∀x∈b,W x)(hz0:ann.fz f=false:=by first|rfl|assumption):Looks prog ann f [v1,v2,.fn gf [] []] h (.bool (decide (a=b))):=by
 refine Yo (by rw[hp0];rfl) hf hb hn ?_;rw[hnt,hres];unfold SF;refine tV ?_;apply Y0 rfl rfl h1;refine tV ?_;apply Y0 rfl rfl h2;refine oB fun b1 hb1=>?_;by_cases hl:a.length=b.length;rotate_left
 ·have e1:b1=true:=by rw[hb1];simp;omega
  subst e1;refine tW ?_;exact Yhv rfl (by rw[Zx (fun e=>hl (by rw[e]))]) .refl (by simp)
 have e1:b1=false:=by rw[hb1];simp;omega
 subst e1;refine tV ?_;apply Y0 rfl rfl h1;refine tV ?_;refine Kg (fun s:Nat×List Nat=>[(1,v2),(2,.fn gf [] []),(15,v1),(16,.int .i64 (a.length:Int)),(17,.int .i64 (s.1:Int))]) (fun s=>s.2) (fun s h'=>Ext h h'∧(∀b∈s.2,h b=none)∧s.1≤a.length∧a.take s.1=b.take s.1) (fun s=>a.length-s.1) (0,[])
  tU rfl ⟨.refl,by simp,Nat.zero_le _,by simp⟩ ?_
 rintro⟨k,bx⟩ h' ⟨hx,hbx,hk,ht⟩;simp only at hx hbx hk ht ⊢;refine tW ?_;refine oB fun b2 hb2=>?_;cases b2
 case false=>
  have hkl:k=a.length:=by simp at hb2;omega
  have e:a=b:=by
   rw[hkl,take_length]at ht;rw[ht,hl,take_length]
  refine tW ?_;exact Yhv rfl (by rw[Zt e]) hx hbx
 have hkl:k<a.length:=by simpa using hb2
 have hkl2:k<b.length:=by omega
 refine tV ?_;apply Qg rfl rfl rfl (h1.mono hR hx) hkl;intro p1 c1 hp1 hc1 q1;apply Ycm rfl rfl hp1 q1 (fun h=>by omega);apply K8 rfl;intro i8 hi8;show Yu _ _ _ _ _ _ _ _ (i8::bx) _ _;refine tv ?_;apply Ybr (v:= .agg c1) (cs':=c1) rfl rfl rfl rfl q1 (hone _ _ _ hc1) upd_same (splice_all (hz.trans q1.symm));rw[Xm];have hn8:h i8=none:=by
  cases e:h i8 with
  |none=>rfl
  |some o=>rw[hx _ _ e]at hi8;cases hi8
 have hx8:Ext h' (upd h' i8 (some (.cells c1))):= .upd hi8;have e8:upd h' i8 (some (.cells c1)) i8=some (.cells c1):=upd_same;generalize upd h' i8 (some (.cells c1))=k8 at hx8 e8 ⊢;refine tV ?_;apply Qg rfl rfl rfl (h2.mono hR (hx.trans hx8)) hkl2;intro p2 c2 hp2 hc2 q2;apply Ycm rfl rfl hp2 q2 (fun h=>by omega);apply K8 rfl;intro i9 hi9;show Yu _ _ _ _ _ _ _ _ (i9::i8::bx) _ _;apply Ybr (v:= .agg c2) (cs':=c2) rfl rfl rfl rfl q2 (hone _ _ _ hc2) upd_same (splice_all (hz.trans q2.symm));rw[Xm];have hn9:h i9=none:=by
  cases e:h i9 with
  |none=>rfl
  |some o=>rw[hx8 _ _ (hx _ _ e)]at hi9;cases hi9
 have hx9:Ext k8 (upd k8 i9 (some (.cells c2))):= .upd hi9;have e9:upd k8 i9 (some (.cells c2)) i9=some (.cells c2):=upd_same;replace e8:=hx9 _ _ e8;generalize upd k8 i9 (some (.cells c2))=k9 at hx9 e8 e9 ⊢;refine tV ?_;apply X3 rfl rfl e8 (fun h=>by omega) (Yw q1);apply X3 rfl rfl e9 (fun h=>by omega) (Yw q2);apply Yb rfl rfl rfl rfl (hgf _ _ _ _ _ (hR _ _ _ _ (hx8.trans hx9) hc1) (hR _ _ _ _ hx9 hc2) (w1 _ (getElem_mem hkl)) (w2 _ (getElem_mem hkl2))).go;rintro _ k10 ⟨rfl,hx10⟩;have hxx:=((hx.trans hx8).trans hx9).trans hx10;have hbb:∀b∈i9::i8::bx,h b=none:=fun b hb=>by
  rcases mem_cons.1 hb with rfl|hb
  ·exact hn9
  ·rcases mem_cons.1 hb with rfl|hb
   ·exact hn8
   ·exact hbx b hb
 apply Yq rfl rfl trivial;by_cases he:a[k]=b[k];rotate_left
 ·rw[Zx he];refine tW ?_;exact Yhv rfl (by rw[Zx (fun e=>he (by subst e;rfl))]) hxx hbb
 rw[Zt he];refine tW ?_;rw[w64 (n:=(k:Int)+1) (by omega) (by omega)];refine⟨(k+1,i9::i8::bx),by simp only;omega,tU,rfl,hxx,hbb,by omega,?_⟩;simp only;rw[take_add_one,take_add_one,ht,Zg hkl,Zg hkl2,he]
theorem p67{a b:List Cls}(h1:Sl RCls 10 h v1 a)(h2:Sl RCls 10 h v2 b)(l1:Len a∧∀x∈a,x.WF)(l2:Len b∧∀x∈b,x.WF):Looks prog ann 240 [v1,v2,.fn 241 [] []] h (.bool (decide (a=b))):=
 sf_of (s:=10) (z:=[.str [],I 0,I 0,.nil .sl,.nil .sl,.nil .sl,.nil .sl,I 0,I 0,.bool false]) (W:=Cls.WF) rfl func240 Zw rfl rfl rfl rfl RCls.mono (fun _ _ _ h=>h.one) (fun _ _ _ _ _ h1 h2 w1 w2=>p68 h1 h2 w1 w2) h1 h2 l1.1 l2.1 l1.2 l2.2
theorem p69{a b:List Mth}(h1:Sl RMth 6 h v1 a)(h2:Sl RMth 6 h v2 b)(l1:Len a∧∀x∈a,x.WF)(l2:Len b∧∀x∈b,x.WF):Looks prog ann 242 [v1,v2,.fn 243 [] []] h (.bool (decide (a=b))):=
 sf_of (s:=6) (z:=[I 0,I 0,I 0,.bool false,.nil .sl,.nil .sl]) (W:=Mth.WF) rfl func242 Zw rfl rfl rfl rfl RMth.mono (fun _ _ _ h=>h.one) (fun _ _ _ _ _ h1 h2 w1 w2=>p70 h1 h2 w1 w2) h1 h2 l1.1 l2.1 l1.2 l2.2
theorem p19{x y:Image}(hc:RImg h c x)(hd:RImg h d y)(wx:x.WF)(wy:y.WF):Looks prog ann 237 [.agg c,.agg d] h (.bool (decide (x=y))):=by
 have hone:=hc.one;have hone2:=hd.one;obtain⟨vc,vm,vg,vw,vr,vs,vf,rfl,r1,r2,r3,r4,r5,r6,r7⟩:=hc;obtain⟨vc',vm',vg',vw',vr',vs',vf',rfl,q1,q2,q3,q4,q5,q6,q7⟩:=hd;refine Yo rfl func237 Zw rfl ?_;refine tS ?_;apply Yq rfl rfl hone;apply Yq rfl rfl hone2;refine tv ?_
 ((with_reducible apply X8);(with_reducible apply X0))
 apply Jc (σ:=Unit) (fun _=>[(2,.tptr [vc,vm,I x.entry,I x.need,vg,vw,vr,vs,vf] 0),(3,.tptr [vc',vm',I y.entry,I y.need,vg',vw',vr',vs',vf'] 0),(5,.bool (decide (x.classes=y.classes)&&decide (x.methods=y.methods)))]) (fun _ h'=>Ext h h')
 ·refine tV ?_;apply Yb rfl rfl rfl rfl (p67 r1 q1 wx.classes wy.classes).go;rintro _ k1 ⟨rfl,hx1⟩;by_cases H0:x.classes=y.classes;rotate_left
  ·rw[Zx H0];refine tW ?_;exact⟨(),tU,rfl,hx1⟩
  rw[Zt H0];refine tV ?_;apply Yb rfl rfl rfl rfl (p69 (r2.mono RMth.mono hx1) (q2.mono RMth.mono hx1) wx.methods wy.methods).go;rintro _ k2 ⟨rfl,hx2⟩;refine tW ?_;exact⟨(),tU,rfl,hx1.trans hx2⟩
 rintro _ k0 hx0;apply Jc (σ:=Unit) (fun _=>[(2,.tptr [vc,vm,I x.entry,I x.need,vg,vw,vr,vs,vf] 0),(3,.tptr [vc',vm',I y.entry,I y.need,vg',vw',vr',vs',vf'] 0),(5,.bool (decide (x.classes=y.classes)&&decide (x.methods=y.methods))),(6,.bool (decide (x.words=y.words)&&(decide (x.rel=y.rel)&&(decide (x.stat=y.stat)&&decide (x.statref=y.statref)))))]) (fun _ h'=>Ext h h')
 ·refine tV ?_;apply Yb rfl rfl rfl rfl (p71 (r4.mono RN.mono hx0) (q4.mono RN.mono hx0) wx.words.1 wy.words.1).go;rintro _ m0 ⟨rfl,hy0⟩;have hz0:=hx0.trans hy0;by_cases K0:x.words=y.words;rotate_left
  ·rw[Zx K0];refine tW ?_;exact⟨(),tU,rfl,hz0⟩
  rw[Zt K0];refine tV ?_;apply Yb rfl rfl rfl rfl (p72 (r5.mono RN.mono hz0) (q5.mono RN.mono hz0) wx.rel.1 wy.rel.1).go;rintro _ m1 ⟨rfl,hy1⟩;have hz1:=hz0.trans hy1;by_cases K1:x.rel=y.rel;rotate_left
  ·rw[Zx K1];refine tW ?_;exact⟨(),tU,rfl,hz1⟩
  rw[Zt K1];refine tV ?_;apply Yb rfl rfl rfl rfl (p71 (r6.mono RN.mono hz1) (q6.mono RN.mono hz1) wx.stat.1 wy.stat.1).go;rintro _ m2 ⟨rfl,hy2⟩;have hz2:=hz1.trans hy2;by_cases K2:x.stat=y.stat;rotate_left
  ·rw[Zx K2];refine tW ?_;exact⟨(),tU,rfl,hz2⟩
  rw[Zt K2];refine tV ?_;apply Yb rfl rfl rfl rfl (p73 (r7.mono RB.mono hz2) (q7.mono RB.mono hz2) wx.statref wy.statref).go;rintro _ m3 ⟨rfl,hy3⟩;have hz3:=hz2.trans hy3;refine tW ?_;exact⟨(),tU,rfl,hz3⟩
 rintro _ n0 hw0;by_cases A0:x.classes=y.classes∧x.methods=y.methods;rotate_left
 ·have e:(decide (x.classes=y.classes)&&decide (x.methods=y.methods))=false:=by
   rw[←Bool.decide_and];exact Zx A0
  rw[e];refine tW ?_;exact Yhv rfl (by rw[Zx (fun e=>A0 (by rw[e];exact⟨rfl,rfl⟩))]) hw0 (by simp)
 have e:(decide (x.classes=y.classes)&&decide (x.methods=y.methods))=true:=by
  rw[←Bool.decide_and];exact Zt A0
 rw[e];by_cases A1:x.words=y.words∧x.rel=y.rel∧x.stat=y.stat∧x.statref=y.statref;rotate_left
 ·have e:(decide (x.words=y.words)&&(decide (x.rel=y.rel)&&(decide (x.stat=y.stat)&&decide (x.statref=y.statref))))=false:=by
   simp only[←Bool.decide_and];exact Zx A1
  rw[e];refine tW ?_;exact Yhv rfl (by rw[Zx (fun e=>A1 (by rw[e];exact⟨rfl,rfl,rfl,rfl⟩))]) hw0 (by simp)
 have e:(decide (x.words=y.words)&&(decide (x.rel=y.rel)&&(decide (x.stat=y.stat)&&decide (x.statref=y.statref))))=true:=by
  simp only[←Bool.decide_and];exact Zt A1
 rw[e];refine tW ?_;refine oB fun b3 hb3=>?_;by_cases B0:x.entry=y.entry;rotate_left
 ·have e:b3=false:=by rw[hb3];simp[B0]
  subst e;refine tW ?_;exact Yhv rfl (by rw[Zx (fun e=>B0 (by rw[e]))]) hw0 (by simp)
 have e:b3=true:=by rw[hb3];simp[B0]
 subst e;refine tW ?_;refine oB fun b4 hb4=>?_;by_cases B1:x.need=y.need;rotate_left
 ·have e:b4=false:=by rw[hb4];simp[B1]
  subst e;refine tW ?_;exact Yhv rfl (by rw[Zx (fun e=>B1 (by rw[e]))]) hw0 (by simp)
 have e:b4=true:=by rw[hb4];simp[B1]
 subst e;refine tV ?_;apply Yb rfl rfl rfl rfl (p72 (r3.mono RN.mono hw0) (q3.mono RN.mono hw0) wx.given.1 wy.given.1).go;rintro _ n1 ⟨rfl,hw1⟩;refine tW ?_;refine Yhv rfl ?_ (hw0.trans hw1) (by simp);by_cases B2:x.given=y.given
 ·rw[Zt B2,Zt (img_ext A0.1 A0.2 B0 B1 B2 A1.1 A1.2.1 A1.2.2.1 A1.2.2.2)]
 ·rw[Zx B2,Zx (fun e=>B2 (by rw[e]))]
theorem p65(hc:RCls h c x)(hd:RCls h d y)(wx:x.WF)(wy:y.WF):Looks prog ann 162 [.agg c,.agg d] h (.bool (decide (x=y))):=by
 have hone:=hc.one;have hone2:=hd.one;obtain⟨vr,vs,vt,vf,rfl,r1,r2,r3,r4⟩:=hc;obtain⟨vr',vs',vt',vf',rfl,q1,q2,q3,q4⟩:=hd;refine Yo rfl func162 Zw rfl ?_;refine tS ?_;apply Yq rfl rfl hone;apply Yq rfl rfl hone2;have hx0:Ext h h:= .refl;refine tV ?_;refine oB fun b hb=>?_;by_cases H0:x.name=y.name;rotate_left
 ·have e:b=true:=by rw[hb];simp[H0]
  subst e;refine tW ?_;exact Qf rfl (fun e=>H0 (congrArg Cls.name e)) hx0 (by simp)
 have e:b=false:=by rw[hb];simp[H0]
 subst e;refine tV ?_;refine oB fun b hb=>?_;by_cases H1:x.super=y.super;rotate_left
 ·have e:b=true:=by rw[hb];simp[H1]
  subst e;refine tW ?_;exact Qf rfl (fun e=>H1 (congrArg Cls.super e)) hx0 (by simp)
 have e:b=false:=by rw[hb];simp[H1]
 subst e;refine tV ?_;refine oB fun b hb=>?_;by_cases H2:x.init=y.init;rotate_left
 ·have e:b=true:=by rw[hb];simp[H2]
  subst e;refine tW ?_;exact Qf rfl (fun e=>H2 (congrArg Cls.init e)) hx0 (by simp)
 have e:b=false:=by rw[hb];simp[H2]
 subst e;refine tV ?_;apply Yb rfl rfl rfl rfl (p64 (r1.mono RB.mono hx0) (q1.mono RB.mono hx0) wx.refs wy.refs).go;rintro _ k1 ⟨rfl,hy1⟩;have hx1:=hx0.trans hy1;clear hy1;by_cases H3:x.refs=y.refs;rotate_left
 ·rw[Zx H3];refine tw ?_;apply Yq rfl rfl trivial;refine tW ?_;exact Qf rfl (fun e=>H3 (congrArg Cls.refs e)) hx1 (by simp)
 rw[Zt H3];refine tw ?_;apply Yq rfl rfl trivial;refine tV ?_;apply Yb rfl rfl rfl rfl (p62 (r2.mono RN.mono hx1) (q2.mono RN.mono hx1) wx.subs.1 wy.subs.1).go;rintro _ k2 ⟨rfl,hy2⟩;have hx2:=hx1.trans hy2;clear hy2;by_cases H4:x.subs=y.subs;rotate_left
 ·rw[Zx H4];refine tw ?_;apply Yq rfl rfl trivial;refine tW ?_;exact Qf rfl (fun e=>H4 (congrArg Cls.subs e)) hx2 (by simp)
 rw[Zt H4];refine tw ?_;apply Yq rfl rfl trivial;refine tV ?_;apply Yb rfl rfl rfl rfl (p62 (r3.mono RN.mono hx2) (q3.mono RN.mono hx2) wx.slots.1 wy.slots.1).go;rintro _ k3 ⟨rfl,hy3⟩;have hx3:=hx2.trans hy3;clear hy3;by_cases H5:x.slots=y.slots;rotate_left
 ·rw[Zx H5];refine tw ?_;apply Yq rfl rfl trivial;refine tW ?_;exact Qf rfl (fun e=>H5 (congrArg Cls.slots e)) hx3 (by simp)
 rw[Zt H5];refine tw ?_;apply Yq rfl rfl trivial;refine tV ?_;apply Y0 rfl rfl (r4.mono RPair.mono hx3);refine tV ?_;apply Y0 rfl rfl (q4.mono RPair.mono hx3);refine tV ?_;refine oB fun b hb=>?_;by_cases H6:x.faces.length=y.faces.length;rotate_left
 ·have e:b=true:=by rw[hb];simp;omega
  subst e;refine tW ?_;exact Qf rfl (fun e=>H6 (congrArg (fun z=>z.faces.length) e)) hx3 (by simp)
 have e:b=false:=by rw[hb];simp;omega
 subst e;refine tV ?_;refine oB fun b hb=>?_;by_cases H7:x.array=y.array;rotate_left
 ·have e:b=true:=by rw[hb];simp[H7]
  subst e;refine tW ?_;exact Qf rfl (fun e=>H7 (congrArg Cls.array e)) hx3 (by simp)
 have e:b=false:=by rw[hb];simp[H7]
 subst e;refine tV ?_;refine oB fun b hb=>?_;by_cases H8:x.elem=y.elem;rotate_left
 ·have e:b=true:=by rw[hb];simp[H8]
  subst e;refine tW ?_;exact Qf rfl (fun e=>H8 (congrArg Cls.elem e)) hx3 (by simp)
 have e:b=false:=by rw[hb];simp[H8]
 subst e;refine tV ?_;refine oB fun b hb=>?_;by_cases H9:x.thrown=y.thrown;rotate_left
 ·have e:b=true:=by rw[hb];simp[H9]
  subst e;refine tW ?_;exact Qf rfl (fun e=>H9 (congrArg Cls.thrown e)) hx3 (by simp)
 have e:b=false:=by rw[hb];simp[H9]
 subst e;have wl:Len x.faces:=wx.faces.1;unfold Len at wl;refine tV ?_;refine Xv (fun k:Nat=>[(2,.tptr [.str x.name,I x.super,I x.init,vr,vs,vt,vf,I x.array,I x.elem,.bool x.thrown] 0),(3,.tptr [.str y.name,I y.super,I y.init,vr',vs',vt',vf',I y.array,I y.elem,.bool y.thrown] 0),(5,.int .i64 (k:Int))]) (fun k h'=>h'=k3∧k≤x.faces.length∧x.faces.take k=y.faces.take k) (fun k=>x.faces.length-k) 0
  tU ⟨rfl,Nat.zero_le _,by simp⟩ ?_
 rintro k h' ⟨rfl,hk,ht⟩;have hf1:=r4.mono RPair.mono hx3;have hf2:=q4.mono RPair.mono hx3;refine tV ?_;apply Y0 rfl rfl hf1;refine oB fun b2 hb2=>?_;cases b2
 case false=>
  have hkl:k=x.faces.length:=by simp at hb2;omega
  have e:x.faces=y.faces:=by
   rw[hkl,take_length]at ht;rw[ht,H6,take_length]
  refine tW ?_;exact Ymh rfl (cls_ext H0 H1 H2 H7 H8 H9 H3 H4 H5 e) hx3 (by simp)
 have hkl:k<x.faces.length:=by simpa using hb2
 have hkl2:k<y.faces.length:=by omega
 refine tV ?_;apply Qg rfl rfl rfl hf1 hkl;intro pa0 ca0 hpa0 hca0 _;obtain rfl:=hca0;refine tV ?_;apply o_iaP (z:=0) [I x.faces[k].1] rfl rfl rfl hpa0 (by decide) (by decide) rfl;intro ea0 hea0;refine tV ?_;apply Ydb rfl rfl hea0 (fun _=> .refl);refine tV ?_;apply Qg rfl rfl rfl hf2 hkl2;intro pb0 cb0 hpb0 hcb0 _;obtain rfl:=hcb0;refine tV ?_;apply o_iaP (z:=0) [I y.faces[k].1] rfl rfl rfl hpb0 (by decide) (by decide) rfl;intro eb0 heb0;refine tV ?_;apply Ydb rfl rfl heb0 (fun _=> .refl);refine tV ?_;refine oB fun b hb=>?_;by_cases Hc0:x.faces[k].1=y.faces[k].1;rotate_left
 ·have e:b=true:=by rw[hb];simp[Hc0]
  subst e;refine tW ?_;exact Qf rfl (fun e=>Hc0 (by subst e;rfl)) hx3 (by simp)
 have e:b=false:=by rw[hb];simp[Hc0]
 subst e;refine tV ?_;apply Qg rfl rfl rfl hf1 hkl;intro pa1 ca1 hpa1 hca1 _;obtain rfl:=hca1;refine tV ?_;apply o_iaP (z:=1) [I x.faces[k].2] rfl rfl rfl hpa1 (by decide) (by decide) rfl;intro ea1 hea1;refine tV ?_;apply Ydb rfl rfl hea1 (fun _=> .refl);refine tV ?_;apply Qg rfl rfl rfl hf2 hkl2;intro pb1 cb1 hpb1 hcb1 _;obtain rfl:=hcb1;refine tV ?_;apply o_iaP (z:=1) [I y.faces[k].2] rfl rfl rfl hpb1 (by decide) (by decide) rfl;intro eb1 heb1;refine tV ?_;apply Ydb rfl rfl heb1 (fun _=> .refl);refine tV ?_;refine oB fun b hb=>?_;by_cases Hc1:x.faces[k].2=y.faces[k].2;rotate_left
 ·have e:b=true:=by rw[hb];simp[Hc1]
  subst e;refine tW ?_;exact Qf rfl (fun e=>Hc1 (by subst e;rfl)) hx3 (by simp)
 have e:b=false:=by rw[hb];simp[Hc1]
 subst e;have he:x.faces[k]=y.faces[k]:=Prod.ext Hc0 Hc1;refine tW ?_;rw[w64 (n:=(k:Int)+1) (by omega) (by omega)];refine⟨k+1,by simp only;omega,tU,rfl,rfl,by omega,?_⟩;rw[take_add_one,take_add_one,ht,Zg hkl,Zg hkl2,he]
end Go.Proofs
