import Derived.Test.YtibdecjfdpmfoaaGreatImReadC
section
open Go Go.Abs Go.Proofs.SlimCode Go.Img
set_option maxRecDepth 100000
namespace Go.Proofs
open List
open Go.Proofs.Tryz
variable {v:AV} {h:Ya}
theorem p61{v1 v2:AV}{a b:B}{n m:Nat}(h1:VSl h 1 v1 (ubs a) n)(h2:VSl h 1 v2 (ubs b) m):Looks prog ann 105 [v1,v2] h (.bool (decide (a=b))):=by
 refine Yo rfl func105 Zw rfl ?_;refine tV ?_;apply Ynd rfl rfl h1 (fun h=>by omega);refine tV ?_;apply Ynd rfl rfl h2 (fun h=>by omega);apply Y1 (w:= .bool (decide (a=b))) rfl rfl trivial (by
  by_cases e:a=b
  ·subst e;simp
  ·simp[e])
 refine tW ?_
 (first|apply Y3|apply lret_norm)
 ·exact rfl
 ·exact rfl
 ·exact rfl
 ·exact .refl
 ·simp
theorem fill_v{E:Lk}{x:SX}{cs:List AV}{o:Nat}{r:List (Nat×Nat×SX)}(hx:ev E x=some v)(h1:v.one=true):Ybt E cs ((o,1,x)::r)=match Yps cs o v with
  |some cs=>Ybt E cs r
  |none=>none:=by
 simp only[Ybt,hx];cases v<;>first|rfl|cases h1
def noImage:Image:=⟨[],[],0,0,[],[],[],[],[]⟩
theorem Yaj:RImg h [.nil .sl,.nil .sl,I 0,I 0,.nil .sl,.nil .sl,.nil .sl,.nil .sl,.nil .sl] noImage:=⟨_,_,_,_,_,_,_,rfl,.nil,.nil,.nil,.nil,.nil,.nil,.nil⟩
theorem Ye7:noImage.WF:=by
 have l:∀{α:Type},Len ([]:List α):=Nat.zero_le _;exact⟨⟨l,fun _ h=>nomatch h⟩,⟨l,fun _ h=>nomatch h⟩,(by decide : -9223372036854775808≤(0:Int)∧(0:Int)≤9223372036854775807),(by decide : -9223372036854775808≤(0:Int)∧(0:Int)≤9223372036854775807),⟨l,fun _ h=>nomatch h⟩,⟨l,fun _ h=>nomatch h⟩,⟨l,fun _ h=>nomatch h⟩,⟨l,fun _ h=>nomatch h⟩,l⟩
theorem Yrf{bs bs':B}{m:Image}{K c:Nat}{t:Bool}(H:Out Yhx K bs m c bs' false t):(t=true∧Yhx bs=none)∨(t=false∧∃r,Yhx bs=some (m,r)):=by
 cases H with
 |ok h _ _=>exact .inr ⟨rfl,_,h⟩
 |bad _ h _ _=>exact .inl ⟨rfl,h rfl⟩
theorem Yfv{k:Ya}{b:Nat}{X:Option AObj}(hx:Ext h k)(hb:h b=none):Ext h (upd k b X):=fun id o e=>by
 rw[Ys (fun hc=>by rw[hc,hb]at e;cases e)];exact hx id o e
def DecQ (bs:B) (h:Ya):AV→Ya→Prop:=fun r h'=>Ext h h'∧∃c e m,r= .tup [.agg c,I e]∧RImg h' c m∧m.WF∧((e=0∧Img.decode bs=some m)∨(e=6∧Img.decode bs=none∧m=noImage))
theorem p17{bs:B}(hv:VSl h 1 v (ubs bs) bs.length)(hl:bs.length≤9223372036854775807):HCallC prog ann 47 [v] h (DecQ bs h):=by
 refine Yt rfl rfl func47 Zw rfl ?_;refine tS ?_;apply K8 rfl;intro b2 hb2;have hxb:Ext h (upd h b2 (some (.cells [.nil .sl,.nil .sl,I 0,I 0,.nil .sl,.nil .sl,.nil .sl,.nil .sl,.nil .sl]))):= .upd hb2;have e2:upd h b2 (some (.cells [.nil .sl,.nil .sl,I 0,I 0,.nil .sl,.nil .sl,.nil .sl,.nil .sl,.nil .sl])) b2=some (.cells [.nil .sl,.nil .sl,I 0,I 0,.nil .sl,.nil .sl,.nil .sl,.nil .sl,.nil .sl]):=upd_same;show Yu _ _ _ _ _ _ _ _ [b2] (upd h b2 (some (.cells [.nil .sl,.nil .sl,I 0,I 0,.nil .sl,.nil .sl,.nil .sl,.nil .sl,.nil .sl]))) _;generalize upd h b2 (some (.cells [.nil .sl,.nil .sl,I 0,I 0,.nil .sl,.nil .sl,.nil .sl,.nil .sl,.nil .sl]))=k0 at hxb e2 ⊢;have bad:∀(k:Ya) (bx:List Nat) (X:Option AObj),Ext h k→(∀b∈bx,h b=none)→Img.decode bs=none→DecQ bs h (Yx [.agg [.nil .sl,.nil .sl,I 0,I 0,.nil .sl,.nil .sl,.nil .sl,.nil .sl,.nil .sl],I 6]) (Yv bx (upd k b2 X)):=fun k bx X hx hbx hd=>⟨(Yfv hx hb2).kill hbx,_,6,noImage,rfl,Yaj,Ye7,.inr ⟨rfl,hd,rfl⟩⟩;have hbx1:∀b∈[b2],h b=none:=fun b hb=>by rw[Zm.1 hb];exact hb2
 have hv0:=hv.mono hxb;refine tV ?_;apply Yec rfl rfl hv0
 (refine tG ?_;refine oB fun b1 h1=>?_)
 by_cases h12:bs.length<12
 ·have hd:Img.decode bs=none:=by unfold Img.decode;rw[if_pos (.inl h12)]
  have e1:b1=true:=by rw[h1];exact Zt (by omega)
  subst e1;refine tW ?_;apply Ybr (v:= .agg [.nil .sl,.nil .sl,I 0,I 0,.nil .sl,.nil .sl,.nil .sl,.nil .sl,.nil .sl]) (cs':=[.nil .sl,.nil .sl,I 0,I 0,.nil .sl,.nil .sl,.nil .sl,.nil .sl,.nil .sl]) rfl rfl rfl rfl rfl rfl e2 rfl;refine tW ?_;exact Xd (vs:=[.agg [.nil .sl,.nil .sl,I 0,I 0,.nil .sl,.nil .sl,.nil .sl,.nil .sl,.nil .sl],I 6]) (.cells (m:=9) rfl (by kernel_rfl) upd_same rfl (.tmp rfl .nil)) rfl (bad _ _ _ hxb hbx1 hd)
 have e1:b1=false:=by rw[h1];exact Zx (by omega)
 subst e1;refine tW ?_;apply Yec rfl rfl hv0
 (with_reducible apply Yay)
 exact rfl;exact rfl
 (with_reducible apply o_bool)
 exact rfl;exact rfl;exact trivial;intro b2' h2;by_cases h20:1048576<bs.length
 ·have hd:Img.decode bs=none:=by unfold Img.decode;rw[if_pos (.inr h20)]
  have e1:b2'=true:=by rw[h2];exact Zt (by omega)
  subst e1;refine tW ?_;apply Ybr (v:= .agg [.nil .sl,.nil .sl,I 0,I 0,.nil .sl,.nil .sl,.nil .sl,.nil .sl,.nil .sl]) (cs':=[.nil .sl,.nil .sl,I 0,I 0,.nil .sl,.nil .sl,.nil .sl,.nil .sl,.nil .sl]) rfl rfl rfl rfl rfl rfl e2 rfl;refine tW ?_;exact Xd (vs:=[.agg [.nil .sl,.nil .sl,I 0,I 0,.nil .sl,.nil .sl,.nil .sl,.nil .sl,.nil .sl],I 6]) (.cells (m:=9) rfl (by kernel_rfl) upd_same rfl (.tmp rfl .nil)) rfl (bad _ _ _ hxb hbx1 hd)
 have e1:b2'=false:=by rw[h2];exact Zx (by omega)
 subst e1;refine tW ?_;apply Yec rfl rfl hv0
 (refine tG ?_;(with_reducible apply o_subN (a:=bs.length) (b:=4));exact rfl;exact rfl;exact rfl;(omega);exact w64 (by omega) (by omega))
 apply o_sltW (l:=8) (m:=((bs.length-4:Nat):Int)) rfl rfl hv rfl rfl (by omega) (by omega) (by omega);intro u hu;have hin:(Yj4 bs).length=bs.length-4-8:=by unfold Yj4;rw[length_drop,length_take];omega
 have ein:((ubs bs).take (((bs.length-4:Nat):Int).toNat*1)).drop ((8:Int).toNat*1)=ubs (Yj4 bs):=by
  simp only[Zn,Nat.mul_one];unfold ubs Yj4;rw[←map_take,←map_drop];rfl
 rw[ein,Zn,show(8:Int).toNat=8 from rfl,←hin]at hu;apply Yq (v:= .agg [u,.bool false]) rfl (by simp only[sv];rw[fill_v rfl hu.one];rfl) trivial;apply Yee (v:= .agg [u,.bool false]) rfl rfl (by show(u.one&&(true&&true))=true;rw[hu.one];rfl);intro w hw;have hhw:h w=none:=by
  cases e:h w with
  |none=>rfl
  |some o=>rw[hxb w o e]at hw;cases hw
 have hne:b2≠w:=fun hc=>by rw[←hc,e2]at hw;cases hw
 have H0:Rd h w (Yj4 bs) false (upd k0 w (some (.cells [u,.bool false]))):=⟨hxb.trans (.upd hw),hhw,u,upd_same,hu⟩;replace e2:upd k0 w (some (.cells [u,.bool false])) b2=_:=(Ys hne).trans e2;show Yu _ _ _ _ _ _ _ _ [w,b2] (upd k0 w (some (.cells [u,.bool false]))) _;generalize upd k0 w (some (.cells [u,.bool false]))=k1 at H0 e2 ⊢;have C:=Ch.start H0;refine tV ?_;apply Yb rfl rfl rfl rfl (p51 _ _ _ _ (by omega) C.rd);rintro v0 k2 ⟨G0,a0,bs0,t0,R0⟩;obtain⟨hs0,hn0,ha0⟩:=R0.val;replace C:=C.call R0 (by simp);have hl0:=R0.out.len;refine tV ?_;apply Yb rfl rfl rfl rfl (p53 _ _ _ _ (by omega) C.rd);rintro v1 k3 ⟨G1,a1,bs1,t1,R1⟩;obtain⟨hs1,hn1,ha1⟩:=R1.val;replace C:=C.call R1 (by simp);have hl1:=R1.out.len;refine tV ?_;apply Yb rfl rfl rfl rfl (p55 _ _ _ _ (by omega) C.rd);rintro _ k4 ⟨G2,a2,bs2,t2,R2⟩;obtain⟨rfl,ha2⟩:=R2.val;replace C:=C.call R2 (by simp);have hl2:=R2.out.len;refine tV ?_;apply Yb rfl rfl rfl rfl (p55 _ _ _ _ (by omega) C.rd);rintro _ k5 ⟨G3,a3,bs3,t3,R3⟩;obtain⟨rfl,ha3⟩:=R3.val;replace C:=C.call R3 (by simp);have hl3:=R3.out.len;apply Yq (v:= .agg [v0,v1,I a2,I a3,.nil .sl,.nil .sl,.nil .sl,.nil .sl,.nil .sl]) rfl (by simp only[sv];rw[fill_v rfl hs0.one];simp only[Yps];rw[fill_v rfl hs1.one];rfl) trivial;apply K8 rfl;intro b5 hb5;apply Ybr (v:= .agg [v0,v1,I a2,I a3,.nil .sl,.nil .sl,.nil .sl,.nil .sl,.nil .sl]) (cs':=[v0,v1,I a2,I a3,.nil .sl,.nil .sl,.nil .sl,.nil .sl,.nil .sl]) rfl rfl rfl rfl rfl (by simp only[AV.cells,all_cons,hs0.one,hs1.one];rfl) upd_same rfl;rw[Xm];replace C:=C.box (o:= .cells [v0,v1,I a2,I a3,.nil .sl,.nil .sl,.nil .sl,.nil .sl,.nil .sl]) hb5;have e5:upd k5 b5 (some (.cells [v0,v1,I a2,I a3,.nil .sl,.nil .sl,.nil .sl,.nil .sl,.nil .sl])) b5=some (.cells [v0,v1,I a2,I a3,.nil .sl,.nil .sl,.nil .sl,.nil .sl,.nil .sl]):=upd_same;show Yu _ _ _ _ _ _ _ _ [b5,w,b2] (upd k5 b5 (some (.cells [v0,v1,I a2,I a3,.nil .sl,.nil .sl,.nil .sl,.nil .sl,.nil .sl]))) _;generalize upd k5 b5 (some (.cells [v0,v1,I a2,I a3,.nil .sl,.nil .sl,.nil .sl,.nil .sl,.nil .sl]))=kk at C e5 ⊢;refine tV ?_;apply Yb rfl rfl rfl rfl (p56 _ _ _ _ (by omega) C.rd);rintro v4 k6 ⟨G4,a4,bs4,t4,R4⟩;obtain⟨hs4,hn4,ha4⟩:=R4.val;have C':=C.call R4 (Qj e5);replace e5:=C.keep R4 (.head _) e5;replace C:=C';have hl4:=R4.out.len;refine tV ?_;apply Yb rfl rfl rfl rfl (p57 _ _ _ _ (by omega) C.rd);rintro v5 k7 ⟨G5,a5,bs5,t5,R5⟩;obtain⟨hs5,hn5,ha5⟩:=R5.val;have C':=C.call R5 (Qj e5);replace e5:=C.keep R5 (.head _) e5;replace C:=C';have hl5:=R5.out.len;refine tV ?_;apply Yb rfl rfl rfl rfl (p56 _ _ _ _ (by omega) C.rd);rintro v6 k8 ⟨G6,a6,bs6,t6,R6⟩;obtain⟨hs6,hn6,ha6⟩:=R6.val;have C':=C.call R6 (Qj e5);replace e5:=C.keep R6 (.head _) e5;replace C:=C';have hl6:=R6.out.len;refine tV ?_;apply K7 rfl rfl rfl rfl hs4.one e5 (show 4<9 by decide);replace C:=C.set (o:= .cells [v0,v1,I a2,I a3,v4,.nil .sl,.nil .sl,.nil .sl,.nil .sl]) (.head _);replace e5:upd k8 b5 (some (.cells [v0,v1,I a2,I a3,v4,.nil .sl,.nil .sl,.nil .sl,.nil .sl])) b5=some (.cells [v0,v1,I a2,I a3,v4,.nil .sl,.nil .sl,.nil .sl,.nil .sl]):=upd_same;show Yu _ _ _ _ _ _ _ _ [b5,w,b2] (upd k8 b5 (some (.cells [v0,v1,I a2,I a3,v4,.nil .sl,.nil .sl,.nil .sl,.nil .sl]))) _;generalize upd k8 b5 (some (.cells [v0,v1,I a2,I a3,v4,.nil .sl,.nil .sl,.nil .sl,.nil .sl]))=m1 at C e5 ⊢;refine tV ?_;apply K7 rfl rfl rfl rfl hs5.one e5 (show 5<9 by decide);replace C:=C.set (o:= .cells [v0,v1,I a2,I a3,v4,v5,.nil .sl,.nil .sl,.nil .sl]) (.head _);replace e5:upd m1 b5 (some (.cells [v0,v1,I a2,I a3,v4,v5,.nil .sl,.nil .sl,.nil .sl])) b5=some (.cells [v0,v1,I a2,I a3,v4,v5,.nil .sl,.nil .sl,.nil .sl]):=upd_same;show Yu _ _ _ _ _ _ _ _ [b5,w,b2] (upd m1 b5 (some (.cells [v0,v1,I a2,I a3,v4,v5,.nil .sl,.nil .sl,.nil .sl]))) _;generalize upd m1 b5 (some (.cells [v0,v1,I a2,I a3,v4,v5,.nil .sl,.nil .sl,.nil .sl]))=m2 at C e5 ⊢;refine tV ?_;apply K7 rfl rfl rfl rfl hs6.one e5 (show 6<9 by decide);replace C:=C.set (o:= .cells [v0,v1,I a2,I a3,v4,v5,v6,.nil .sl,.nil .sl]) (.head _);replace e5:upd m2 b5 (some (.cells [v0,v1,I a2,I a3,v4,v5,v6,.nil .sl,.nil .sl])) b5=some (.cells [v0,v1,I a2,I a3,v4,v5,v6,.nil .sl,.nil .sl]):=upd_same;show Yu _ _ _ _ _ _ _ _ [b5,w,b2] (upd m2 b5 (some (.cells [v0,v1,I a2,I a3,v4,v5,v6,.nil .sl,.nil .sl]))) _;generalize upd m2 b5 (some (.cells [v0,v1,I a2,I a3,v4,v5,v6,.nil .sl,.nil .sl]))=m3 at C e5 ⊢;refine tV ?_;apply Yb rfl rfl rfl rfl (p57 _ _ _ _ (by omega) C.rd);rintro v7 k9 ⟨G7,a7,bs7,t7,R7⟩;obtain⟨hs7,hn7,ha7⟩:=R7.val;have C':=C.call R7 (Qj e5);replace e5:=C.keep R7 (.head _) e5;replace C:=C';have hl7:=R7.out.len;refine tV ?_;apply Yb rfl rfl rfl rfl (p59 _ _ _ _ (by omega) C.rd);rintro v8 k10 ⟨G8,a8,bs8,t8,R8⟩;obtain⟨hs8,hn8,ha8⟩:=R8.val;have C':=C.call R8 (Qj e5);replace e5:=C.keep R8 (.head _) e5;replace C:=C';have hl8:=R8.out.len;refine tV ?_;apply K7 rfl rfl rfl rfl hs7.one e5 (show 7<9 by decide);replace C:=C.set (o:= .cells [v0,v1,I a2,I a3,v4,v5,v6,v7,.nil .sl]) (.head _);replace e5:upd k10 b5 (some (.cells [v0,v1,I a2,I a3,v4,v5,v6,v7,.nil .sl])) b5=some (.cells [v0,v1,I a2,I a3,v4,v5,v6,v7,.nil .sl]):=upd_same;show Yu _ _ _ _ _ _ _ _ [b5,w,b2] (upd k10 b5 (some (.cells [v0,v1,I a2,I a3,v4,v5,v6,v7,.nil .sl]))) _;generalize upd k10 b5 (some (.cells [v0,v1,I a2,I a3,v4,v5,v6,v7,.nil .sl]))=m4 at C e5 ⊢;refine tV ?_;apply K7 rfl rfl rfl rfl hs8.one e5 (show 8<9 by decide);replace C:=C.set (o:= .cells [v0,v1,I a2,I a3,v4,v5,v6,v7,v8]) (.head _);replace e5:upd m4 b5 (some (.cells [v0,v1,I a2,I a3,v4,v5,v6,v7,v8])) b5=some (.cells [v0,v1,I a2,I a3,v4,v5,v6,v7,v8]):=upd_same;show Yu _ _ _ _ _ _ _ _ [b5,w,b2] (upd m4 b5 (some (.cells [v0,v1,I a2,I a3,v4,v5,v6,v7,v8]))) _;generalize upd m4 b5 (some (.cells [v0,v1,I a2,I a3,v4,v5,v6,v7,v8]))=m5 at C e5 ⊢;have hR:RImg G8 [v0,v1,I a2,I a3,v4,v5,v6,v7,v8] (⟨a0,a1,a2,a3,a4,a5,a6,a7,a8⟩:Image):=⟨v0,v1,v4,v5,v6,v7,v8,rfl,hs0.mono RCls.mono (R1.ext.trans (R2.ext.trans (R3.ext.trans (R4.ext.trans (R5.ext.trans (R6.ext.trans (R7.ext.trans (R8.ext)))))))),hs1.mono RMth.mono (R2.ext.trans (R3.ext.trans (R4.ext.trans (R5.ext.trans (R6.ext.trans (R7.ext.trans (R8.ext))))))),hs4.mono RN.mono (R5.ext.trans (R6.ext.trans (R7.ext.trans (R8.ext)))),hs5.mono RN.mono (R6.ext.trans (R7.ext.trans (R8.ext))),hs6.mono RN.mono (R7.ext.trans (R8.ext)),hs7.mono RN.mono (R8.ext),hs8⟩;have hW:Image.WF (⟨a0,a1,a2,a3,a4,a5,a6,a7,a8⟩:Image):=⟨⟨Nat.le_trans hn0 (by decide),ha0⟩,⟨Nat.le_trans hn1 (by decide),ha1⟩,ha2,ha3,⟨Nat.le_trans hn4 (by decide),ha4⟩,⟨Nat.le_trans hn5 (by decide),ha5⟩,⟨Nat.le_trans hn6 (by decide),ha6⟩,⟨Nat.le_trans hn7 (by decide),ha7⟩,Nat.le_trans hn8 (by decide)⟩;have O:Out Yhx 430 (Yj4 bs) (⟨a0,a1,a2,a3,a4,a5,a6,a7,a8⟩:Image) (Img.body (⟨a0,a1,a2,a3,a4,a5,a6,a7,a8⟩:Image)).length bs8 false t8:=(R0.out.bind (R1.out.bind (R2.out.bind (R3.out.bind (R4.out.bind (R5.out.bind (R6.out.bind (R7.out.bind (R8.out.map (f:=fun x=>(⟨a0,a1,a2,a3,a4,a5,a6,a7,x⟩:Image))))))))))).as (by simp only[Img.body,length_append]) (by omega);have hcost:=O.cost;have hpo:=Yrf O;generalize (⟨a0,a1,a2,a3,a4,a5,a6,a7,a8⟩:Image)=m at hR hW hcost hpo;clear hs0 hs1 hs4 hs5 hs6 hs7 hs8 O;have hsz:(Img.body m).length≤1099511627776:=by omega
 refine tV ?_;apply X3 (l:=[v0,v1,I a2,I a3,v4,v5,v6,v7,v8]) rfl rfl e5 (fun h=>by omega) rfl;apply Yb rfl rfl rfl rfl (p16 (RImg.mono _ _ _ _ C.rd.ext hR) hW hsz);intro cv k9 hc;have hx9:Ext m5 k9:=by
  rcases hc with ⟨_,O⟩|⟨_,_,hx⟩
  ·exact O.ext
  ·exact hx
 have e2':=hx9 _ _ (C.frame b2 _ hne e2);have e5':=hx9 _ _ e5;obtain⟨u',hu1,hu2⟩:=C.rd.st;have hw9:=hx9 _ _ hu1;have hb5w:=(C.bxs b5 (.head _)).2.2;have hb5h:h b5=none:=by
  have hg:=(C.bxs b5 (.head _)).2.1;cases e:h b5 with
  |none=>rfl
  |some o=>rw[C.ext b5 o e]at hg;cases hg
 have hbx3:∀b∈[b5,w,b2],h b=none:=fun b hb=>by
  simp only[mem_cons,not_mem_nil,or_false]at hb;rcases hb with rfl|rfl|rfl
  ·exact hb5h
  ·exact hhw
  ·exact hb2
 have hGx:Ext G8 k9:=C.rd.ext.trans hx9;have hh9:Ext h k9:=C.ext.trans hGx;have hdec:Img.decode bs=match Yhx (Yj4 bs) with
  |some (m,_)=>if size m≤1048576∧Qy m=bs then some m else none
  |none=>none:=by
  unfold Img.decode;rw[if_neg (by omega)];rfl
 refine tV ?_;apply Y2 rfl rfl hw9 (fun h=>by omega) rfl;rcases hpo with ⟨rfl,hp⟩|⟨rfl,r,hp⟩
 ·have hd:Img.decode bs=none:=by rw[hdec,hp]
  refine tW ?_;apply Ybr (v:= .agg [.nil .sl,.nil .sl,I 0,I 0,.nil .sl,.nil .sl,.nil .sl,.nil .sl,.nil .sl]) (cs':=[.nil .sl,.nil .sl,I 0,I 0,.nil .sl,.nil .sl,.nil .sl,.nil .sl,.nil .sl]) rfl rfl rfl rfl rfl rfl e2' rfl;refine tW ?_;exact Xd (vs:=[.agg [.nil .sl,.nil .sl,I 0,I 0,.nil .sl,.nil .sl,.nil .sl,.nil .sl,.nil .sl],I 6]) (.cells (m:=9) rfl (by kernel_rfl) upd_same rfl (.tmp rfl .nil)) rfl (bad _ _ _ hh9 hbx3 hd)
 rcases hc with ⟨hsm,O⟩|⟨hsm,rfl,_⟩;rotate_left
 ·have hd:Img.decode bs=none:=by rw[hdec,hp];simp only;rw[if_neg (by omega)]
  refine tW ?_;apply Ybr (v:= .agg [.nil .sl,.nil .sl,I 0,I 0,.nil .sl,.nil .sl,.nil .sl,.nil .sl,.nil .sl]) (cs':=[.nil .sl,.nil .sl,I 0,I 0,.nil .sl,.nil .sl,.nil .sl,.nil .sl,.nil .sl]) rfl rfl rfl rfl rfl rfl e2' rfl;refine tW ?_;exact Xd (vs:=[.agg [.nil .sl,.nil .sl,I 0,I 0,.nil .sl,.nil .sl,.nil .sl,.nil .sl,.nil .sl],I 6]) (.cells (m:=9) rfl (by kernel_rfl) upd_same rfl (.tmp rfl .nil)) rfl (bad _ _ _ hh9 hbx3 hd)
 obtain⟨i,rfl,_,hi,hil⟩:=Yoo O (by rw[Ya9];unfold size;omega);refine tW ?_;apply Yb rfl rfl rfl rfl (p61 O.view (hv.mono hh9)).go;rintro _ k10 ⟨rfl,hx10⟩;have e2q:=hx10 _ _ e2';have e5q:=hx10 _ _ e5';by_cases heq:Qy m=bs
 ·have hd:Img.decode bs=some m:=by rw[hdec,hp];simp only;rw[if_pos ⟨hsm,heq⟩]
  have ed:decide (Qy m=bs)=true:=Zt heq;rw[ed];refine tw ?_;apply Yq rfl rfl trivial;refine tW ?_;apply X3 (l:=[v0,v1,I a2,I a3,v4,v5,v6,v7,v8]) rfl rfl e5q (fun h=>by omega) rfl;apply Ybr (v:= .agg [v0,v1,I a2,I a3,v4,v5,v6,v7,v8]) (cs':=[v0,v1,I a2,I a3,v4,v5,v6,v7,v8]) rfl rfl rfl rfl rfl hR.one e2q rfl;refine tW ?_;refine Xd (vs:=[.agg [v0,v1,I a2,I a3,v4,v5,v6,v7,v8],I 0]) (.cells (m:=9) rfl (by kernel_rfl) upd_same rfl (.tmp rfl .nil)) rfl ⟨(Yfv (hh9.trans hx10) hb2).kill hbx3,_,0,m,rfl,RImg.mono _ _ _ _ ?_ hR,hW,.inl ⟨rfl,hd⟩⟩;refine(Yfv (hGx.trans hx10) (C.new b2 (by rw[e2];simp) hb2)).kill fun b hb=>?_;simp only[mem_cons,not_mem_nil,or_false]at hb;rcases hb with rfl|rfl|rfl
  ·exact(C.bxs _ (.head _)).2.1
  ·exact C.rd.fresh
  ·exact C.new _ (by rw[e2];simp) hb2
 ·have hd:Img.decode bs=none:=by rw[hdec,hp];simp only;rw[if_neg (fun h=>heq h.2)]
  have ed:decide (Qy m=bs)=false:=Zx heq;rw[ed];refine tw ?_;apply Yq rfl rfl trivial;refine tW ?_;apply Ybr (v:= .agg [.nil .sl,.nil .sl,I 0,I 0,.nil .sl,.nil .sl,.nil .sl,.nil .sl,.nil .sl]) (cs':=[.nil .sl,.nil .sl,I 0,I 0,.nil .sl,.nil .sl,.nil .sl,.nil .sl,.nil .sl]) rfl rfl rfl rfl rfl rfl e2q rfl;refine tW ?_;exact Xd (vs:=[.agg [.nil .sl,.nil .sl,I 0,I 0,.nil .sl,.nil .sl,.nil .sl,.nil .sl,.nil .sl],I 6]) (.cells (m:=9) rfl (by kernel_rfl) upd_same rfl (.tmp rfl .nil)) rfl (bad _ _ _ (hh9.trans hx10) hbx3 hd)
end Go.Proofs
end
section
namespace Go.Abs
open List hiding nil
variable {p v:AV} {k:IntKind} {cs:List AV} {r:List SO} {d s:Nat} {n:Option Nat} {x:SX}
inductive LdV:Option Nat→List AV→AV→Prop where
 |one {c:List AV} {v:AV} (h:c=[v]):LdV none c v
 |many {c d:List AV} {m:Nat} (h:c=d) (hm:d.length=m):LdV (some m) c (.agg d)
section
variable {P:Program} {A:Ann} {f nt:Nat} {E:Env} {bx:List Nat} {h:Ya} {Q:AX→Env→List Nat→Ya→Prop} {h0:Ya} {q:Nat}
theorem Ji(hlt:(decide (d<nt))=true)(hx:ev (lk E) x=some p)(hp:VPtr h p cs)(hv:LdV n cs v)(hq:0<q→Ext h h0)
  (H:Yu P A f nt h0 (q-1) r ((d,v)::E) bx h Q):Yu P A f nt h0 q (⟨some d,none,.ld x n⟩::r) E bx h Q:=by
 cases hv with
 |one e=>subst e;exact Ydb hlt hx hp hq H
 |many e hm=>subst e;exact Ycm hlt hx hp hm hq H
theorem o_iaP{m:Nat}{i:SX}{z:Int}(t:List AV)(hlt:(decide (d<nt))=true)(hx:ev (lk E) x=some p)(hi:ev (lk E) i=some (.int k z))(hp:VPtr h p cs)(h1:0≤z)(h2:z<m)(ht:Yp cs (z.toNat*s) t.length=some t)
  (H:∀p,VPtr h p t→Yu P A f nt h0 (q-1) r ((d,p)::E) bx h Q):Yu P A f nt h0 q (⟨some d,none,.ia x i (some m) s⟩::r) E bx h Q:=by
 obtain⟨p',e,hp'⟩:=hp.part ht;cases hp with
 |t os _ off hc=>
  simp only[Yr4,Zs]at e;subst e;exact Yq (p:=0≤z∧z<m) hlt (by simp only[sv,hx,hi]) ⟨h1,h2⟩ (H _ hp')
 |p id off os _ hid hc=>
  simp only[Yr4,Zs]at e;subst e;exact Yq (p:=0≤z∧z<m) hlt (by simp only[sv,hx,hi]) ⟨h1,h2⟩ (H _ hp')
end
def Qm:AV→List Nat
 |.sl i _ _ _=>[i]
 |_=>[]
def PtIn (S:List Nat):AV→Prop
 |.ptr i _=>i∈S
 |_=>True
theorem VSl.live{h:Ya}{n:Nat}(H:VSl h s v cs n):∀i∈Qm v,h i≠none:=by
 intro i hi;cases H with
 |nil=>cases hi
 |tsl _ _ _=>cases hi
 |sl id _ _ os _ hid _=>
  obtain rfl:=Zm.1 hi;rw[hid];simp
section
variable {P:Program} {A:Ann} {f nt:Nat} {E:Env} {bx:List Nat} {h:Ya} {Q:AX→Env→List Nat→Ya→Prop} {S:List Nat} {cls:List Cl}
theorem Ymi{α:Type}{R:Ya→List AV→α→Prop}{l:List α}{i:SX}{z:Nat}(hlt:(decide (d<nt))=true)(hx:ev (lk E) x=some v)(hi:ev (lk E) i=some (.int k (z:Int)))(hv:Sl R s h v l)(hz:z<l.length)(hS:∀i∈Qm v,i∈S)
  (H:∀p c,VPtr h p c→PtIn S p→R h c l[z]→c.length=s→Xe P A f nt S cls r ((d,p)::E) bx h Q):Xe P A f nt S (.A::cls) (⟨some d,none,.ia x i none s⟩::r) E bx h Q:=by
 obtain⟨cs,h1,h2⟩:=hv;obtain⟨g1,g2⟩:=h2.get hz;have hl:=h1.len;have hb:z*s+s≤l.length*s:=by
  have:(z+1)*s≤l.length*s:=Zr s (by omega);rw[Nat.add_mul]at this;omega
 have hsl:Yp cs (z*s) s=some ((cs.drop (z*s)).take s):=Ybc (by omega);obtain⟨a,ha⟩:∃a,a=l[z]:=⟨_,rfl⟩;rw[←ha]at H g1;clear ha;generalize l.length=n at h1 hb hl hz;have hzi:(0:Int)≤(z:Int)∧(z:Int)<n:=by omega
 cases h1 with
 |nil=>omega
 |tsl _ _ _=>exact x_v (p:=(0:Int)≤(z:Int)∧(z:Int)<n) (v:= .tptr cs (z*s)) hlt (by simp only[sv,hx,hi,Zn]) hzi (H _ _ (.t _ _ _ (by rw[g2];exact hsl)) trivial g1 g2)
 |sl id off _ os _ hid hc=>exact x_v (p:=s=s∧(0:Int)≤(z:Int)∧(z:Int)<n) (v:= .ptr id (off+z*s)) hlt (by simp only[sv,hx,hi,Zn]) ⟨rfl,hzi⟩ (H _ _ (.p _ _ os _ hid (by rw[g2];exact Ja hc hsl)) (hS id (by simp[Qm])) g1 g2)
theorem Yff(hlt:(decide (d<nt))=true)(hx:ev (lk E) x=some p)(hp:VPtr h p cs)(hm:PtIn S p)(hv:LdV n cs v)
  (H:Xe P A f nt S cls r ((d,v)::E) bx h Q):Xe P A f nt S (.B::cls) (⟨some d,none,.ld x n⟩::r) E bx h Q:=by
 intro ops l0 rg hl hs hS;obtain⟨o0,r0,rfl,h1,h2⟩:=Y7 hl;obtain⟨e1,e2,e3⟩:=Xn h1;obtain⟨t,x0,hop,q1,q2,hro⟩:=Ybz e2;have hg:o0.guard=none:=by
  rcases e3 with ⟨e,_⟩|⟨_,_,_,_,e,_⟩
  ·exact e
  ·cases e
 intro m hn;have hpl:Yh4 A f nt o0 v ⟨rg,bx⟩=some ⟨upd rg d v,bx⟩:=Qw e1.symm (by simpa using hlt) (fun hb=>by rw[hop]at hb;simp[Ycs]at hb);have hld:∃rd,(∀id∈rd,id∈S)∧Kq P t p h m=some (v,h,m,(rd,[])):=by
  cases hv with
  |one e=>
   subst e;rcases Xz q2 with ⟨_,e,_,_⟩|⟨_,g1,k,g2⟩
   ·cases e
   cases hp with
   |t os _ off hc=>
    refine⟨[],by simp,?_⟩;have hc:Yp os off 1=some [v]:=hc;simp only[Kq,g1,g2,AM.bind,AM.lift,AM.pure,Xt,Zf,if_false,hc,X9];rfl
   |p id off os _ hid hc=>
    refine⟨[id],by simpa[PtIn]using hm,?_⟩;have hc:Yp os off 1=some [v]:=hc;simp only[Kq,g1,g2,AM.bind,AM.lift,AM.pure,Xt,AM.get,hid,Zf,if_false,hc,X9];rfl
  |@many _ dd k e hk=>
   subst e;rcases Xz q2 with ⟨_,e,g1,g2⟩|⟨e,_⟩
   ·cases e;cases hp with
    |t os _ off hc=>
     refine⟨[],by simp,?_⟩;rw[hk]at hc;simp only[Kq,g1,g2,AM.bind,AM.lift,AM.pure,Xt,if_true,hc,X9];rfl
    |p id off os _ hid hc=>
     refine⟨[id],by simpa[PtIn]using hm,?_⟩;rw[hk]at hc;simp only[Kq,g1,g2,AM.bind,AM.lift,AM.pure,Xt,AM.get,hid,if_true,hc,X9];rfl
   ·cases e
 obtain⟨rd,hrd,hld⟩:=hld;obtain⟨k,fr3,h3,n3,lgs3,e4,hd,qq⟩:=H ops r0 _ h2 (hs.put d v) hS m hn;have hst:Qd (Xg P A k) P A f nt ops o0 ⟨rg,bx⟩ h m=some (⟨upd rg d v,bx⟩,h,m,(rd,[])):=by
  unfold Qd;have hw:Yy ops o0 rg=some true:=by unfold Yy;rw[hg]
  simp only[hw];unfold opV;rw[hop];simp only[hro,Zf,if_false,opM,Yg hs q1 hx];unfold AM.bind;simp only[AM.lift,AM.pure,hld,hpl];simp
 refine⟨k,fr3,h3,n3,((rd,[]),m,m)::lgs3,?_,?_,qq⟩
 ·unfold Xo;rw[hst];simp only;rw[e4]
 ·intro j y hy;cases j with
  |zero=>
   simp only[Zc,Zs]at hy;subst hy;exact⟨Zl _,.B,rfl,rfl,hrd,rfl⟩
  |succ j=>
   obtain⟨a,c,b1,b2⟩:=hd j y (by simpa using hy);exact⟨a,c,by simpa using b1,b2⟩
theorem Ymk{esc:Bool}{z:List AV}(hlt:(decide (d<nt))=true)
  (H:∀i,h i=none→Xe P A f nt S cls r ((d,.ptr i 0)::E) (if esc then bx else i::bx) (upd h i (some (.cells z))) Q):Xe P A f nt S (.C::cls) (⟨some d,none,.alc esc z⟩::r) E bx h Q:=by
 intro ops l0 rg hl hs hS;obtain⟨o0,r0,rfl,h1,h2⟩:=Y7 hl;obtain⟨e1,e2,e3⟩:=Xn h1;have hg:o0.guard=none:=by
  rcases e3 with ⟨e,_⟩|⟨_,_,_,_,e,_⟩
  ·exact e
  ·cases e
 obtain⟨d',t,zz,hd',hop,hz,rfl,ho,hsz,hro,hesc⟩:=Xw (Yfa e2 rfl (by simp));have hd:o0.dst=some d:=e1.symm;rw[hd]at hd';cases hd';refine Ym7 (by unfold Yy;rw[hg]) fun n hn=>?_;have hi:=hn n (Zl _);refine⟨0,.ptr n 0,upd h n (some (.cells zz.cells)),n+1,([],[]),_,?_,rfl,Ypw hd hlt (by rw[hop];rfl),?_⟩
 ·unfold opV;rw[hop];simp only[hro,Zf,if_false,opM,hz,Yd,Yj];rw[if_pos ⟨ho,hsz⟩];rfl
 ·have:=H n hi ops r0 _ h2 (hs.put d _) (fun id hid=>by
   unfold upd;split
   ·simp
   ·exact hS id hid)
  rw[hesc];exact this
end
end Go.Abs
end
section
open Go Go.Abs Go.Proofs.SlimCode Go.Img
set_option maxRecDepth 100000
namespace Go.Proofs
open List
open Go.Proofs.Tryz
variable {v1 v2:AV} {fn:Func} {a b:List Int} {E:Lk} {n:Option Nat} {op:SX→SX→SK} {α:Type} {h:Ya} {R:Ya→List AV→α→Prop}
theorem eqC_int{a b:Int}:eqC 0 (I a) (I b)=some (decide (a=b)):=rfl
theorem eqs_pair{x y:SX}{p q:Int×Int}(hx:ev E x=some (.agg [I p.1,I p.2]))(hy:ev E y=some (.agg [I q.1,I q.2])):sv E (.eqs true [(0,0),(1,0)] x y)=some (True,.bool (!decide (p=q))):=by
 obtain⟨a,b⟩:=p;obtain⟨c,d⟩:=q;simp only[sv,hx,hy];simp only[Yas,scal,all_cons,all_nil,Bool.and_self,if_true,Zc,getElem?_cons_succ,eqC_int,Zp];by_cases h1:a=c<;>by_cases h2:b=d<;>simp[h1,h2]
theorem Yqk{x y:SX}{p q:Kr}(hx:ev E x=some (.agg [I p.1,I p.2.1,I p.2.2.1,I p.2.2.2]))(hy:ev E y=some (.agg [I q.1,I q.2.1,I q.2.2.1,I q.2.2.2])):sv E (.eqs true [(0,0),(1,0),(2,0),(3,0)] x y)=some (True,.bool (!decide (p=q))):=by
 obtain⟨a,b,c,d⟩:=p;obtain⟨a',b',c',d'⟩:=q;simp only[sv,hx,hy];simp only[Yas,scal,all_cons,all_nil,Bool.and_self,if_true,Zc,getElem?_cons_succ,eqC_int,Zp];by_cases h1:a=a'<;>by_cases h2:b=b'<;>by_cases h3:c=c'<;>by_cases h4:d=d'<;>simp[h1,h2,h3,h4]
def SQ (s:Nat) (n:Option Nat) (op:SX→SX→SK):SC:=(.seq (.reg [] [⟨some 4,none,.mv (.c (.bool false))⟩])
 (.seq (.seq (.reg [] [⟨some 6,none,.mv (.r 0)⟩,⟨some 7,none,.len (.r 6) none⟩,⟨some 8,none,.mv (.r 1)⟩,⟨some 9,none,.len (.r 8) none⟩,⟨some 10,none,.bin .neq (.r 7) (.r 9)⟩])
 (.cond (.r 10) (.seq (.reg [] [⟨some 4,none,.mv (.c (.bool false))⟩]) .ret) .skip))
 (.seq (.seq (.reg [] [⟨some 11,none,.mv (.r 0)⟩,⟨some 12,none,.len (.r 11) none⟩,⟨some 13,none,.mv (.c (.int .i64 0))⟩])
 (.block 0 (.loop (.seq (.reg [] [⟨some 14,none,.bin .lss (.r 13) (.r 12)⟩])
  (.seq (.cond (.r 14) .skip (.exit 0))
  (.seq (.block 1 (.seq (.reg [] [⟨some 15,none,.mv (.r 13)⟩,⟨some 5,none,.mv (.r 15)⟩])
   (.seq (.reg [(3,7)] [⟨some 16,none,.mv (.r 0)⟩,⟨some 17,none,.mv (.r 5)⟩,⟨some 18,none,.ia (.r 16) (.r 17) none s⟩,⟨some 19,none,.ld (.r 18) n⟩,⟨some 20,none,.mv (.r 1)⟩,⟨some 21,none,.mv (.r 5)⟩,
    ⟨some 22,none,.ia (.r 20) (.r 21) none s⟩,⟨some 23,none,.ld (.r 22) n⟩,⟨some 24,none,op (.r 19) (.r 23)⟩])
   (.cond (.r 24) (.seq (.reg [] [⟨some 4,none,.mv (.c (.bool false))⟩]) .ret) .skip))))
  (.reg [] [⟨some 25,none,.bin .add (.r 13) (.c (.int .i64 1))⟩,⟨some 13,none,.mv (.r 25)⟩])))))))
 (.seq (.reg [] [⟨some 4,none,.mv (.c (.bool true))⟩]) .ret))))
def SE (s:Nat) (n:Option Nat) (op:SX→SX→SK):SC:=(.seq (.reg [] [⟨some 4,none,.mv (.c (.bool false))⟩])
 (.seq (.seq (.reg [] [⟨some 6,none,.mv (.r 0)⟩,⟨some 7,none,.len (.r 6) none⟩,⟨some 8,none,.mv (.r 1)⟩,⟨some 9,none,.len (.r 8) none⟩,⟨some 10,none,.bin .neq (.r 7) (.r 9)⟩])
 (.cond (.r 10) (.seq (.reg [] [⟨some 4,none,.mv (.c (.bool false))⟩]) .ret) .skip))
 (.seq (.seq (.reg [] [⟨some 5,none,.mv (.c (.int .i64 0))⟩])
 (.block 0 (.loop (.seq (.seq (.reg [] [⟨some 11,none,.mv (.r 5)⟩,⟨some 12,none,.mv (.r 0)⟩,⟨some 13,none,.len (.r 12) none⟩,⟨some 14,none,.bin .lss (.r 11) (.r 13)⟩])
  (.cond (.r 14) .skip (.exit 0)))
  (.seq (.block 1 (.seq (.reg [(3,7)] [⟨some 17,none,.mv (.r 0)⟩,⟨some 18,none,.mv (.r 5)⟩,⟨some 19,none,.ia (.r 17) (.r 18) none s⟩,⟨some 20,none,.ld (.r 19) n⟩,⟨some 21,none,.mv (.r 1)⟩,⟨some 22,none,.mv (.r 5)⟩,
    ⟨some 23,none,.ia (.r 21) (.r 22) none s⟩,⟨some 24,none,.ld (.r 23) n⟩,⟨some 25,none,op (.r 20) (.r 24)⟩])
   (.cond (.r 25) (.seq (.reg [] [⟨some 4,none,.mv (.c (.bool false))⟩]) .ret) .skip)))
  (.reg [] [⟨some 15,none,.mv (.r 5)⟩,⟨some 16,none,.bin .add (.r 15) (.c (.int .i64 1))⟩,⟨some 5,none,.mv (.r 16)⟩]))))))
 (.seq (.reg [] [⟨some 4,none,.mv (.c (.bool true))⟩]) .ret))))
theorem Yq4[DecidableEq α]{f s:Nat}{a b:List α}
  (hp0:ann.pure f=false)(hf:prog.funcs[f]?=some fn)(hb:fn.body.bind (slC prog ann f)=some (SQ s n op))(hn:(fn.name == "runtime.NumGoroutine" || decide (fn.ntmps<2))=false)(hnt:fn.ntmps=26)(hres:fn.results.toList=[.tmp 4])
  (val:α→AV)(hR:∀h c x,R h c x→LdV n c (val x))(hop:∀(E:Lk) (x y:SX) (p q:α),ev E x=some (val p)→ev E y=some (val q)→sv E (op x y)=some (True,.bool (!decide (p=q))))
  (h1:Sl R s h v1 a)(h2:Sl R s h v2 b)(_l1:a.length≤9223372036854775807)(l2:b.length≤9223372036854775807)(hz0:ann.fz f=false:=by first|rfl|assumption):Looks prog ann f [v1,v2] h (.bool (decide (a=b))):=by
 refine Yo (by rw[hp0];rfl) hf hb hn ?_;rw[hnt,hres];unfold SQ;have no:∀(E:Env),lk E 4=some (.bool false)→a≠b→lret prog ann f [.tmp 4] h (.bool (decide (a=b))) .ret E [] h:=fun E e hne=>Y3 (vs:=[.bool false]) (by simp only[Yb8,e]) hz0 (by rw[Zx hne];rfl) .refl (by simp);refine tV ?_;apply Y0 rfl rfl h1;refine tV ?_;apply Y0 rfl rfl h2;refine oB fun b1 hb1=>?_;by_cases hl:a.length=b.length;rotate_left
 ·have e1:b1=true:=by rw[hb1];simp;omega
  subst e1;refine tW ?_;exact no _ rfl (fun e=>hl (by rw[e]))
 have e1:b1=false:=by rw[hb1];simp;omega
 subst e1;refine tV ?_;apply Y0 rfl rfl h1;refine tV ?_;refine Xv (fun k:Nat=>[(0,v1),(1,v2),(12,.int .i64 (a.length:Int)),(13,.int .i64 (k:Int))]) (fun k h'=>h'=h∧k≤a.length∧a.take k=b.take k) (fun k=>a.length-k) 0
  tU ⟨rfl,Nat.zero_le _,by simp⟩ ?_
 rintro k h' ⟨rfl,hk,ht⟩;refine tW ?_;refine oB fun b2 hb2=>?_;cases b2
 case false=>
  have hkl:k=a.length:=by simp at hb2;omega
  have e:a=b:=by
   rw[hkl,take_length]at ht;rw[ht,hl,take_length]
  refine tW ?_;exact Y3 (vs:=[.bool true]) rfl hz0 (by rw[Zt e];rfl) .refl (by simp)
 have hkl:k<a.length:=by simpa using hb2
 refine tV ?_;apply Qg rfl rfl rfl h1 hkl;intro p1 c1 hp1 hc1 _;apply Ji rfl rfl hp1 (hR _ _ _ hc1) (fun _=> .refl);refine tV ?_;apply Qg rfl rfl rfl h2 (by omega);intro p2 c2 hp2 hc2 _;apply Ji rfl rfl hp2 (hR _ _ _ hc2) (fun _=> .refl);apply Yq rfl (hop _ _ _ _ _ rfl rfl) trivial;by_cases he:a[k]=b[k];rotate_left
 ·rw[Zx he];refine tW ?_;exact no _ rfl (fun e=>he (by subst e;rfl))
 rw[Zt he];refine tW ?_;rw[w64 (n:=(k:Int)+1) (by omega) (by omega)];refine⟨k+1,by simp only;omega,tU,rfl,rfl,by omega,?_⟩;rw[take_add_one,take_add_one,ht,Zg hkl,Zg (by omega),he]
theorem se_of[DecidableEq α]{f s:Nat}{a b:List α}
  (hp0:ann.pure f=false)(hf:prog.funcs[f]?=some fn)(hb:fn.body.bind (slC prog ann f)=some (SE s n op))(hn:(fn.name == "runtime.NumGoroutine" || decide (fn.ntmps<2))=false)(hnt:fn.ntmps=26)(hres:fn.results.toList=[.tmp 4])
  (val:α→AV)(hR:∀h c x,R h c x→LdV n c (val x))(hop:∀(E:Lk) (x y:SX) (p q:α),ev E x=some (val p)→ev E y=some (val q)→sv E (op x y)=some (True,.bool (!decide (p=q))))
  (h1:Sl R s h v1 a)(h2:Sl R s h v2 b)(_l1:a.length≤9223372036854775807)(l2:b.length≤9223372036854775807)(hz0:ann.fz f=false:=by first|rfl|assumption):Looks prog ann f [v1,v2] h (.bool (decide (a=b))):=by
 refine Yo (by rw[hp0];rfl) hf hb hn ?_;rw[hnt,hres];unfold SE;have no:∀(E:Env),lk E 4=some (.bool false)→a≠b→lret prog ann f [.tmp 4] h (.bool (decide (a=b))) .ret E [] h:=fun E e hne=>Y3 (vs:=[.bool false]) (by simp only[Yb8,e]) hz0 (by rw[Zx hne];rfl) .refl (by simp);refine tV ?_;apply Y0 rfl rfl h1;refine tV ?_;apply Y0 rfl rfl h2;refine oB fun b1 hb1=>?_;by_cases hl:a.length=b.length;rotate_left
 ·have e1:b1=true:=by rw[hb1];simp;omega
  subst e1;refine tW ?_;exact no _ rfl (fun e=>hl (by rw[e]))
 have e1:b1=false:=by rw[hb1];simp;omega
 subst e1;refine tV ?_;refine Xv (fun k:Nat=>[(0,v1),(1,v2),(5,.int .i64 (k:Int))]) (fun k h'=>h'=h∧k≤a.length∧a.take k=b.take k) (fun k=>a.length-k) 0
  tU ⟨rfl,Nat.zero_le _,by simp⟩ ?_
 rintro k h' ⟨rfl,hk,ht⟩;refine tV ?_;apply Y0 rfl rfl h1;refine oB fun b2 hb2=>?_;cases b2
 case false=>
  have hkl:k=a.length:=by simp at hb2;omega
  have e:a=b:=by
   rw[hkl,take_length]at ht;rw[ht,hl,take_length]
  refine tW ?_;exact Y3 (vs:=[.bool true]) rfl hz0 (by rw[Zt e];rfl) .refl (by simp)
 have hkl:k<a.length:=by simpa using hb2
 refine tV ?_;apply Qg rfl rfl rfl h1 hkl;intro p1 c1 hp1 hc1 _;apply Ji rfl rfl hp1 (hR _ _ _ hc1) (fun _=> .refl);refine tV ?_;apply Qg rfl rfl rfl h2 (by omega);intro p2 c2 hp2 hc2 _;apply Ji rfl rfl hp2 (hR _ _ _ hc2) (fun _=> .refl);apply Yq rfl (hop _ _ _ _ _ rfl rfl) trivial;by_cases he:a[k]=b[k];rotate_left
 ·rw[Zx he];refine tW ?_;exact no _ rfl (fun e=>he (by subst e;rfl))
 rw[Zt he];refine tW ?_;rw[w64 (n:=(k:Int)+1) (by omega) (by omega)];refine⟨k+1,by simp only;omega,tU,rfl,rfl,by omega,?_⟩;rw[take_add_one,take_add_one,ht,Zg hkl,Zg (by omega),he]
theorem p71(h1:Sl (RN .i32) 1 h v1 a)(h2:Sl (RN .i32) 1 h v2 b)(l1:Len a)(l2:Len b):Looks prog ann 244 [v1,v2] h (.bool (decide (a=b))):=
 Yq4 rfl func244 Zw rfl rfl rfl (fun x=> .int .i32 x) (fun _ _ _ h=> .one h) (fun E x y p q hx hy=>by simp only[sv,hx,hy,Yod];rfl) h1 h2 l1 l2
theorem p72(h1:Sl (RN .i64) 1 h v1 a)(h2:Sl (RN .i64) 1 h v2 b)(l1:Len a)(l2:Len b):Looks prog ann 194 [v1,v2] h (.bool (decide (a=b))):=
 Yq4 rfl func194 Zw rfl rfl rfl (fun x=> .int .i64 x) (fun _ _ _ h=> .one h) (fun E x y p q hx hy=>by simp only[sv,hx,hy,Yod];rfl) h1 h2 l1 l2
theorem p73{a b:List Bool}(h1:Sl RB 1 h v1 a)(h2:Sl RB 1 h v2 b)(l1:Len a)(l2:Len b):Looks prog ann 245 [v1,v2] h (.bool (decide (a=b))):=
 Yq4 rfl func245 Zw rfl rfl rfl (fun x=> .bool x) (fun _ _ _ h=> .one h) (fun E x y p q hx hy=>by simp only[sv,hx,hy];cases p<;>cases q<;>rfl) h1 h2 l1 l2
theorem p112{a b:List (Int×Int)}(h1:Sl RPair 2 h v1 a)(h2:Sl RPair 2 h v2 b)(l1:Len a)(l2:Len b):Looks prog ann 252 [v1,v2] h (.bool (decide (a=b))):=
 Yq4 rfl func252 Zw rfl rfl rfl (fun p=> .agg [I p.1,I p.2]) (fun _ _ _ h=> .many h rfl) (fun E x y p q hx hy=>eqs_pair hx hy) h1 h2 l1 l2
theorem p113{a b:List Kr}(h1:Sl RFour 4 h v1 a)(h2:Sl RFour 4 h v2 b)(l1:Len a)(l2:Len b):Looks prog ann 253 [v1,v2] h (.bool (decide (a=b))):=
 Yq4 rfl func253 Zw rfl rfl rfl (fun p=> .agg [I p.1,I p.2.1,I p.2.2.1,I p.2.2.2]) (fun _ _ _ h=> .many h rfl) (fun E x y p q hx hy=>Yqk hx hy) h1 h2 l1 l2
theorem p114{a b:List Kr}(h1:Sl RFour 4 h v1 a)(h2:Sl RFour 4 h v2 b)(l1:Len a)(l2:Len b):Looks prog ann 254 [v1,v2] h (.bool (decide (a=b))):=
 Yq4 rfl func254 Zw rfl rfl rfl (fun p=> .agg [I p.1,I p.2.1,I p.2.2.1,I p.2.2.2]) (fun _ _ _ h=> .many h rfl) (fun E x y p q hx hy=>Yqk hx hy) h1 h2 l1 l2
theorem p62(h1:Sl (RN .i64) 1 h v1 a)(h2:Sl (RN .i64) 1 h v2 b)(l1:Len a)(l2:Len b):Looks prog ann 74 [v1,v2] h (.bool (decide (a=b))):=
 se_of rfl func74 Zw rfl rfl rfl (fun x=> .int .i64 x) (fun _ _ _ h=> .one h) (fun E x y p q hx hy=>by simp only[sv,hx,hy,Yod];rfl) h1 h2 l1 l2
theorem p63(h1:Sl (RN .i32) 1 h v1 a)(h2:Sl (RN .i32) 1 h v2 b)(l1:Len a)(l2:Len b):Looks prog ann 160 [v1,v2] h (.bool (decide (a=b))):=
 se_of rfl func160 Zw rfl rfl rfl (fun x=> .int .i32 x) (fun _ _ _ h=> .one h) (fun E x y p q hx hy=>by simp only[sv,hx,hy,Yod];rfl) h1 h2 l1 l2
theorem p64{a b:List Bool}(h1:Sl RB 1 h v1 a)(h2:Sl RB 1 h v2 b)(l1:Len a)(l2:Len b):Looks prog ann 161 [v1,v2] h (.bool (decide (a=b))):=
 se_of rfl func161 Zw rfl rfl rfl (fun x=> .bool x) (fun _ _ _ h=> .one h) (fun E x y p q hx hy=>by simp only[sv,hx,hy];cases p<;>cases q<;>rfl) h1 h2 l1 l2
end Go.Proofs
end
