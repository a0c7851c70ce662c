import Derived.Test.YtibdecjfdpmfoaaGreatImNum
open Go Go.Abs Go.Proofs.SlimCode Go.Img
set_option maxRecDepth 100000
namespace Go.Proofs
open List
open Go.Proofs.Tryz
variable {v:AV} {n:Int} {p:Int×Int} {e:Int→B} {c cap first:List AV} {l:List Int} {gf k w:Nat} {α:Type} {g h:Ya}
theorem Yey(a b:B):ubs (a++b)=ubs a++ubs b:=by simp[ubs]
theorem X2(e:α→B){l:List α}(hk:k<l.length):(l.take (k+1)).flatMap e=(l.take k).flatMap e++e l[k]:=by
 rw[take_add_one,Zg hk,Option.toList_some,flatMap_append,flatMap_singleton]
theorem p95{bs s:B}(H:OSl g 1 v (ubs bs) bs.length h)(hl:(bs++Yao s).length≤1099511627776) :
  HCallC prog ann 117 [v,.str s] h fun v' h'=>OSl g 1 v' (ubs (bs++Yao s)) (bs++Yao s).length h':=by
 have hl2:bs.length+((put s.length).length+s.length)≤1099511627776:=by simpa[Yao]using hl
 refine Yz rfl func117 Zw rfl ?_;refine tV ?_;apply Yb rfl rfl rfl rfl (p102 H (n:=s.length) (by unfold I64;omega) (by omega));intro v2 h2 H2;refine tV ?_;apply o_appsO (new:=ubs s) (n:=s.length) rfl rfl rfl rfl H2 (by simp[Yaf,ubs]) (by simp[ubs]) (by simp[ubs,AV.one]) (by simp only[length_append];omega);intro v3 h3 H3 _;have H4:OSl g 1 v3 (ubs (bs++Yao s)) (bs++Yao s).length h3:=by
  have:bs++Yao s=bs++put s.length++s:=by simp[Yao]
  rw[this];rw[Yey,show(bs++put s.length++s).length=(bs++put s.length).length+s.length from length_append];exact H3
 refine tW ?_
 (first|apply X7|apply Xx)
 ·exact rfl
 ·exact rfl
 ·show OSl g 1 v3 _ _ (Yv [] h3);rw[Yl];exact H4
 ·intro ht;have:=notree H4 (by simp only[length_append,Yao];have:=Yow (zz s.length);unfold put;omega);rw[show Yx [v3]=v3 from rfl,this]at ht;cases ht
theorem p42(hn:I64 n):Kd prog ann 57 [.ptr w 0,I n] w (put n) g:=by
 intro bs h H hl;obtain⟨v,hw,O⟩:=H.own;refine Yz rfl func57 Zw rfl ?_;refine tV ?_;apply Y2 rfl rfl hw (fun h=>by omega) rfl;refine tV ?_;apply Yb rfl rfl rfl rfl (p102 O hn (by simp only[length_append]at hl;omega));intro v2 h2 O2;refine tV ?_;obtain⟨hw2,W2⟩:=Wr.put H.fresh O2;apply K7 rfl rfl rfl rfl (O2.view.one) hw2 (Nat.zero_lt_one);refine tW ?_
 (first|apply X7|apply Xx)
 ·exact(rfl:Yb8 _ []=some [])
 ·exact rfl
 ·rw[Yl];exact⟨rfl,W2⟩
 ·exact fun _=> .inr ⟨w,H.changed W2 (Jw n)⟩
theorem p45(hn:I32 n):Kd prog ann 60 [.ptr w 0,.int .i32 n] w (put n) g:=by
 intro bs h H hl;have hn':I64 n:=by unfold I32 at hn;unfold I64;omega
 refine Yz rfl func60 Zw rfl ?_;refine tV ?_;apply o_int rfl rfl trivial (w64 (n:=n) hn'.1 hn'.2);apply Yb rfl rfl rfl rfl (p42 hn' bs h H hl);rintro _ h1 ⟨rfl,H1⟩;refine tW ?_
 (first|apply X7|apply Xx)
 ·exact(rfl:Yb8 _ []=some [])
 ·exact rfl
 ·rw[Yl];exact⟨rfl,H1⟩
 ·exact fun _=> .inr ⟨w,H.changed H1 (Jw n)⟩
theorem p47{b:Bool}:Kd prog ann 62 [.ptr w 0,.bool b] w (Jy b) g:=by
 intro bs h H hl;refine Yz rfl func62 Zw rfl ?_;cases b
 ·refine tV ?_;apply Yb rfl rfl rfl rfl (p42 (n:=0) (by unfold I64;omega) bs h H hl);rintro _ h1 ⟨rfl,H1⟩;refine tW ?_
  (first|apply X7|apply Xx)
  ·exact(rfl:Yb8 _ []=some [])
  ·exact rfl
  ·rw[Yl];exact⟨rfl,H1⟩
  ·exact fun _=> .inr ⟨w,H.changed H1 (Jw _)⟩
 ·refine tV ?_;apply Yb rfl rfl rfl rfl (p42 (n:=1) (by unfold I64;omega) bs h H hl);rintro _ h1 ⟨rfl,H1⟩;refine tW ?_
  (first|apply X7|apply Xx)
  ·exact(rfl:Yb8 _ []=some [])
  ·exact rfl
  ·rw[Yl];exact⟨rfl,H1⟩
  ·exact fun _=> .inr ⟨w,H.changed H1 (Jw _)⟩
theorem p43(hv:Sl (RN .i64) 1 g v l)(hlen:l.length≤9223372036854775807)
  (hp:∀a∈l,∀g',Ext g g'→Kd prog ann gf (first++[I a]++cap) w (e a) g'):Kd prog ann 58 [.ptr w 0,v,.fn gf first cap] w (Y4 e l) g:=by
 intro bs h H hl;have hl2:bs.length+((put l.length).length+(l.flatMap e).length)≤1099511627776:=by simpa[Y4]using hl
 refine Yz rfl func58 Zw rfl ?_;refine tV ?_;apply Yai rfl rfl H.ext hv;apply Yb rfl rfl rfl rfl (p42 (n:=l.length) (by unfold I64;omega) bs h H (by simp only[length_append];omega));rintro _ h1 ⟨rfl,H1⟩;refine tV ?_;apply Yai rfl rfl H1.ext hv;refine tV ?_;refine Xv (fun k:Nat=>[(2,.fn gf first cap),(12,v),(13,.int .i64 l.length),(14,.int .i64 k)]) (fun k h=>k≤l.length∧Wr g w (bs++put l.length++(l.take k).flatMap e) h) (fun k=>l.length-k) 0
  tU ⟨Nat.zero_le _,by simpa using H1⟩ ?_
 rintro k h2 ⟨hk,H2⟩;refine tW ?_
 (refine tG ?_;refine oB fun b hb=>?_;cases b)
 case false=>
  have hkl:k=l.length:=by simp at hb;omega
  subst hkl;have H3:Wr g w (bs++Y4 e l) h2:=by
   rw[Zk (Zl _)]at H2;rw[show bs++Y4 e l=bs++put l.length++l.flatMap e by simp[Y4]];exact H2
  refine tW ?_
  (first|apply X7|apply Xx)
  ·exact(rfl:Yb8 _ []=some [])
  ·exact rfl
  ·rw[Yl];exact⟨rfl,H3⟩
  ·exact fun _=> .inr ⟨w,H.changed H3 (by unfold Y4;intro h;exact Jw _ (append_eq_nil_iff.1 h).1)⟩
 have hkl:k<l.length:=by simpa using hb
 refine tV ?_;apply Yjw rfl rfl rfl H2.ext hv hkl;intro p c hpc hc _;obtain rfl:c=[I l[k]]:=hc;apply Ydb rfl rfl hpc (fun h=>by omega);refine tV ?_;have hle:((l.take k).flatMap e).length+(e l[k]).length≤(l.flatMap e).length:=by
  have h1:=X2 e hkl;have h2:l.flatMap e=(l.take (k+1)).flatMap e++(l.drop (k+1)).flatMap e:=by rw[←flatMap_append,take_append_drop]
  rw[h2,h1];simp only[length_append];omega
 apply Yb rfl rfl rfl rfl (hp l[k] (getElem_mem hkl) g .refl _ h2 H2 (by simp only[length_append];omega));rintro _ h3 ⟨rfl,H3⟩;refine tW ?_;rw[w64 (n:=(k:Int)+1) (by omega) (by omega)];refine⟨k+1,by simp only;omega,tU,rfl,by omega,?_⟩;rw[X2 e hkl,←append_assoc];exact H3
theorem p44(hv:Sl (RN .i32) 1 g v l)(hlen:l.length≤9223372036854775807)
  (hp:∀a∈l,∀g',Ext g g'→Kd prog ann gf (first++[.int .i32 a]++cap) w (e a) g'):Kd prog ann 59 [.ptr w 0,v,.fn gf first cap] w (Y4 e l) g:=by
 intro bs h H hl;have hl2:bs.length+((put l.length).length+(l.flatMap e).length)≤1099511627776:=by simpa[Y4]using hl
 refine Yz rfl func59 Zw rfl ?_;refine tV ?_;apply Yai rfl rfl H.ext hv;apply Yb rfl rfl rfl rfl (p42 (n:=l.length) (by unfold I64;omega) bs h H (by simp only[length_append];omega));rintro _ h1 ⟨rfl,H1⟩;refine tV ?_;apply Yai rfl rfl H1.ext hv;refine tV ?_;refine Xv (fun k:Nat=>[(2,.fn gf first cap),(12,v),(13,.int .i64 l.length),(14,.int .i64 k)]) (fun k h=>k≤l.length∧Wr g w (bs++put l.length++(l.take k).flatMap e) h) (fun k=>l.length-k) 0
  tU ⟨Nat.zero_le _,by simpa using H1⟩ ?_
 rintro k h2 ⟨hk,H2⟩;refine tW ?_
 (refine tG ?_;refine oB fun b hb=>?_;cases b)
 case false=>
  have hkl:k=l.length:=by simp at hb;omega
  subst hkl;have H3:Wr g w (bs++Y4 e l) h2:=by
   rw[Zk (Zl _)]at H2;rw[show bs++Y4 e l=bs++put l.length++l.flatMap e by simp[Y4]];exact H2
  refine tW ?_
  (first|apply X7|apply Xx)
  ·exact(rfl:Yb8 _ []=some [])
  ·exact rfl
  ·rw[Yl];exact⟨rfl,H3⟩
  ·exact fun _=> .inr ⟨w,H.changed H3 (by unfold Y4;intro h;exact Jw _ (append_eq_nil_iff.1 h).1)⟩
 have hkl:k<l.length:=by simpa using hb
 refine tV ?_;apply Yjw rfl rfl rfl H2.ext hv hkl;intro p c hpc hc _;obtain rfl:c=[.int .i32 l[k]]:=hc;apply Ydb rfl rfl hpc (fun h=>by omega);refine tV ?_;have hle:((l.take k).flatMap e).length+(e l[k]).length≤(l.flatMap e).length:=by
  have h1:=X2 e hkl;have h2:l.flatMap e=(l.take (k+1)).flatMap e++(l.drop (k+1)).flatMap e:=by rw[←flatMap_append,take_append_drop]
  rw[h2,h1];simp only[length_append];omega
 apply Yb rfl rfl rfl rfl (hp l[k] (getElem_mem hkl) g .refl _ h2 H2 (by simp only[length_append];omega));rintro _ h3 ⟨rfl,H3⟩;refine tW ?_;rw[w64 (n:=(k:Int)+1) (by omega) (by omega)];refine⟨k+1,by simp only;omega,tU,rfl,by omega,?_⟩;rw[X2 e hkl,←append_assoc];exact H3
theorem p46{l:List Bool}{e:Bool→B}(hv:Sl RB 1 g v l)(hlen:l.length≤9223372036854775807)
  (hp:∀a∈l,∀g',Ext g g'→Kd prog ann gf (first++[.bool a]++cap) w (e a) g'):Kd prog ann 61 [.ptr w 0,v,.fn gf first cap] w (Y4 e l) g:=by
 intro bs h H hl;have hl2:bs.length+((put l.length).length+(l.flatMap e).length)≤1099511627776:=by simpa[Y4]using hl
 refine Yz rfl func61 Zw rfl ?_;refine tV ?_;apply Yai rfl rfl H.ext hv;apply Yb rfl rfl rfl rfl (p42 (n:=l.length) (by unfold I64;omega) bs h H (by simp only[length_append];omega));rintro _ h1 ⟨rfl,H1⟩;refine tV ?_;apply Yai rfl rfl H1.ext hv;refine tV ?_;refine Xv (fun k:Nat=>[(2,.fn gf first cap),(12,v),(13,.int .i64 l.length),(14,.int .i64 k)]) (fun k h=>k≤l.length∧Wr g w (bs++put l.length++(l.take k).flatMap e) h) (fun k=>l.length-k) 0
  tU ⟨Nat.zero_le _,by simpa using H1⟩ ?_
 rintro k h2 ⟨hk,H2⟩;refine tW ?_
 (refine tG ?_;refine oB fun b hb=>?_;cases b)
 case false=>
  have hkl:k=l.length:=by simp at hb;omega
  subst hkl;have H3:Wr g w (bs++Y4 e l) h2:=by
   rw[Zk (Zl _)]at H2;rw[show bs++Y4 e l=bs++put l.length++l.flatMap e by simp[Y4]];exact H2
  refine tW ?_
  (first|apply X7|apply Xx)
  ·exact(rfl:Yb8 _ []=some [])
  ·exact rfl
  ·rw[Yl];exact⟨rfl,H3⟩
  ·exact fun _=> .inr ⟨w,H.changed H3 (by unfold Y4;intro h;exact Jw _ (append_eq_nil_iff.1 h).1)⟩
 have hkl:k<l.length:=by simpa using hb
 refine tV ?_;apply Yjw rfl rfl rfl H2.ext hv hkl;intro p c hpc hc _;obtain rfl:c=[.bool l[k]]:=hc;apply Ydb rfl rfl hpc (fun h=>by omega);refine tV ?_;have hle:((l.take k).flatMap e).length+(e l[k]).length≤(l.flatMap e).length:=by
  have h1:=X2 e hkl;have h2:l.flatMap e=(l.take (k+1)).flatMap e++(l.drop (k+1)).flatMap e:=by rw[←flatMap_append,take_append_drop]
  rw[h2,h1];simp only[length_append];omega
 apply Yb rfl rfl rfl rfl (hp l[k] (getElem_mem hkl) g .refl _ h2 H2 (by simp only[length_append];omega));rintro _ h3 ⟨rfl,H3⟩;refine tW ?_;rw[w64 (n:=(k:Int)+1) (by omega) (by omega)];refine⟨k+1,by simp only;omega,tU,rfl,by omega,?_⟩;rw[X2 e hkl,←append_assoc];exact H3
theorem Yn{z:List AV}(h:c.length=z.length):Ql z 0 c=some c:=by
 unfold Ql;rw[if_pos (by omega)];simp[h]
theorem RPair.one(H:RPair h c p):c.all AV.one=true:=by rw[H];rfl
theorem RFour.one{p:Kr}(H:RFour h c p):c.all AV.one=true:=by rw[H];rfl
theorem p38{l:List Cls}{e:Cls→B}(hv:Sl RCls 10 g v l)(hlen:l.length≤9223372036854775807)
  (hp:∀a∈l,∀g' c,Ext g g'→RCls g' c a→Kd prog ann gf (first++[.agg c]++cap) w (e a) g'):Kd prog ann 53 [.ptr w 0,v,.fn gf first cap] w (Y4 e l) g:=by
 intro bs h H hl;have hl2:bs.length+((put l.length).length+(l.flatMap e).length)≤1099511627776:=by simpa[Y4]using hl
 refine Yz rfl func53 Zw rfl ?_;refine tV ?_;apply Yai rfl rfl H.ext hv;apply Yb rfl rfl rfl rfl (p42 (n:=l.length) (by unfold I64;omega) bs h H (by simp only[length_append];omega));rintro _ h1 ⟨rfl,H1⟩;refine tV ?_;apply Yai rfl rfl H1.ext hv;refine tV ?_;refine Kg (fun s:Nat×List Nat×Ya=>[(2,.fn gf first cap),(12,v),(13,.int .i64 l.length),(14,.int .i64 (s.1:Int))]) (fun s=>s.2.1)
  (fun s h=>s.1≤l.length∧Ext g s.2.2∧(∀b∈s.2.1,s.2.2 b≠none∧g b=none)∧Wr s.2.2 w (bs++put l.length++(l.take s.1).flatMap e) h) (fun s=>l.length-s.1) (0,[],g)
  tU rfl ⟨Nat.zero_le _,.refl,by simp,by simpa using H1⟩ ?_
 rintro⟨k,bx,g'⟩ h2 ⟨hk,hx,hbx,H2⟩;simp only at hk hx hbx H2 ⊢;refine tW ?_
 (refine tG ?_;refine oB fun b hb=>?_;cases b)
 case false=>
  have hkl:k=l.length:=by simp at hb;omega
  subst hkl;have H3:Wr g' w (bs++Y4 e l) h2:=by
   rw[Zk (Zl _)]at H2;rw[show bs++Y4 e l=bs++put l.length++l.flatMap e by simp[Y4]];exact H2
  refine tW ?_
  (first|apply X7|apply Xx)
  ·exact(rfl:Yb8 _ []=some [])
  ·exact rfl
  ·exact⟨rfl,H3.kill hx hbx⟩
  ·exact fun _=> .inr ⟨w,H.changed (H3.base hx) (by unfold Y4;intro h;exact Jw _ (append_eq_nil_iff.1 h).1)⟩
 have hkl:k<l.length:=by simpa using hb
 refine tV ?_;apply Yjw rfl rfl rfl (hx.trans H2.ext) hv hkl;intro p c hpc hc hcl;apply Ycm rfl rfl hpc hcl (fun h=>by omega);apply K8 rfl;intro b hbn;apply Ybr (v:= .agg c) rfl rfl rfl rfl hcl (RCls.one hc) upd_same (Yn (show c.length=_ by rw[hcl];rfl));rw[Xm];refine tV ?_;apply X3 rfl rfl upd_same (fun h=>by omega) (Yw hcl);have hle:((l.take k).flatMap e).length+(e l[k]).length≤(l.flatMap e).length:=by
  have h1:=X2 e hkl;have h2:l.flatMap e=(l.take (k+1)).flatMap e++(l.drop (k+1)).flatMap e:=by rw[←flatMap_append,take_append_drop]
  rw[h2,h1];simp only[length_append];omega
 have hgb:g' b=none:=by
  cases hh:g' b with
  |none=>rfl
  |some o=>rw[H2.ext b o hh]at hbn;cases hbn
 have hx2:Ext g (upd g' b (some (.cells c))):=hx.trans (.upd hgb);apply Yb rfl rfl rfl rfl (hp l[k] (getElem_mem hkl) _ c hx2 (RCls.mono _ _ _ _ hx2 hc) _ _ (H2.box hbn) (by simp only[length_append];omega));rintro _ h3 ⟨rfl,H3⟩;refine tW ?_;rw[w64 (n:=(k:Int)+1) (by omega) (by omega)];refine⟨(k+1,b::bx,upd g' b (some (.cells c))),by simp only;omega,tU,rfl,hkl,hx2,fun i hi=>?_,?_⟩
 ·show upd g' b (some (.cells c)) i≠none∧g i=none;rcases mem_cons.1 hi with rfl|hi
  ·refine⟨by rw[upd_same];simp,?_⟩;cases hh:g i with
   |none=>rfl
   |some o=>rw[hx i o hh]at hgb;cases hgb
  ·obtain⟨a1,a2⟩:=hbx i hi;refine⟨?_,a2⟩;rw[Ys (fun e=>a1 (by rw[e,hgb]))];exact a1
 ·simp only;rw[X2 e hkl,←append_assoc];exact H3
theorem p40{l:List Mth}{e:Mth→B}(hv:Sl RMth 6 g v l)(hlen:l.length≤9223372036854775807)
  (hp:∀a∈l,∀g' c,Ext g g'→RMth g' c a→Kd prog ann gf (first++[.agg c]++cap) w (e a) g'):Kd prog ann 55 [.ptr w 0,v,.fn gf first cap] w (Y4 e l) g:=by
 intro bs h H hl;have hl2:bs.length+((put l.length).length+(l.flatMap e).length)≤1099511627776:=by simpa[Y4]using hl
 refine Yz rfl func55 Zw rfl ?_;refine tV ?_;apply Yai rfl rfl H.ext hv;apply Yb rfl rfl rfl rfl (p42 (n:=l.length) (by unfold I64;omega) bs h H (by simp only[length_append];omega));rintro _ h1 ⟨rfl,H1⟩;refine tV ?_;apply Yai rfl rfl H1.ext hv;refine tV ?_;refine Kg (fun s:Nat×List Nat×Ya=>[(2,.fn gf first cap),(12,v),(13,.int .i64 l.length),(14,.int .i64 (s.1:Int))]) (fun s=>s.2.1)
  (fun s h=>s.1≤l.length∧Ext g s.2.2∧(∀b∈s.2.1,s.2.2 b≠none∧g b=none)∧Wr s.2.2 w (bs++put l.length++(l.take s.1).flatMap e) h) (fun s=>l.length-s.1) (0,[],g)
  tU rfl ⟨Nat.zero_le _,.refl,by simp,by simpa using H1⟩ ?_
 rintro⟨k,bx,g'⟩ h2 ⟨hk,hx,hbx,H2⟩;simp only at hk hx hbx H2 ⊢;refine tW ?_
 (refine tG ?_;refine oB fun b hb=>?_;cases b)
 case false=>
  have hkl:k=l.length:=by simp at hb;omega
  subst hkl;have H3:Wr g' w (bs++Y4 e l) h2:=by
   rw[Zk (Zl _)]at H2;rw[show bs++Y4 e l=bs++put l.length++l.flatMap e by simp[Y4]];exact H2
  refine tW ?_
  (first|apply X7|apply Xx)
  ·exact(rfl:Yb8 _ []=some [])
  ·exact rfl
  ·exact⟨rfl,H3.kill hx hbx⟩
  ·exact fun _=> .inr ⟨w,H.changed (H3.base hx) (by unfold Y4;intro h;exact Jw _ (append_eq_nil_iff.1 h).1)⟩
 have hkl:k<l.length:=by simpa using hb
 refine tV ?_;apply Yjw rfl rfl rfl (hx.trans H2.ext) hv hkl;intro p c hpc hc hcl;apply Ycm rfl rfl hpc hcl (fun h=>by omega);apply K8 rfl;intro b hbn;apply Ybr (v:= .agg c) rfl rfl rfl rfl hcl (RMth.one hc) upd_same (Yn (show c.length=_ by rw[hcl];rfl));rw[Xm];refine tV ?_;apply X3 rfl rfl upd_same (fun h=>by omega) (Yw hcl);have hle:((l.take k).flatMap e).length+(e l[k]).length≤(l.flatMap e).length:=by
  have h1:=X2 e hkl;have h2:l.flatMap e=(l.take (k+1)).flatMap e++(l.drop (k+1)).flatMap e:=by rw[←flatMap_append,take_append_drop]
  rw[h2,h1];simp only[length_append];omega
 have hgb:g' b=none:=by
  cases hh:g' b with
  |none=>rfl
  |some o=>rw[H2.ext b o hh]at hbn;cases hbn
 have hx2:Ext g (upd g' b (some (.cells c))):=hx.trans (.upd hgb);apply Yb rfl rfl rfl rfl (hp l[k] (getElem_mem hkl) _ c hx2 (RMth.mono _ _ _ _ hx2 hc) _ _ (H2.box hbn) (by simp only[length_append];omega));rintro _ h3 ⟨rfl,H3⟩;refine tW ?_;rw[w64 (n:=(k:Int)+1) (by omega) (by omega)];refine⟨(k+1,b::bx,upd g' b (some (.cells c))),by simp only;omega,tU,rfl,hkl,hx2,fun i hi=>?_,?_⟩
 ·show upd g' b (some (.cells c)) i≠none∧g i=none;rcases mem_cons.1 hi with rfl|hi
  ·refine⟨by rw[upd_same];simp,?_⟩;cases hh:g i with
   |none=>rfl
   |some o=>rw[hx i o hh]at hgb;cases hgb
  ·obtain⟨a1,a2⟩:=hbx i hi;refine⟨?_,a2⟩;rw[Ys (fun e=>a1 (by rw[e,hgb]))];exact a1
 ·simp only;rw[X2 e hkl,←append_assoc];exact H3
theorem p96{l:List (Int×Int)}{e:(Int×Int)→B}(hv:Sl RPair 2 g v l)(hlen:l.length≤9223372036854775807)
  (hp:∀a∈l,∀g' c,Ext g g'→RPair g' c a→Kd prog ann gf (first++[.agg c]++cap) w (e a) g'):Kd prog ann 118 [.ptr w 0,v,.fn gf first cap] w (Y4 e l) g:=by
 intro bs h H hl;have hl2:bs.length+((put l.length).length+(l.flatMap e).length)≤1099511627776:=by simpa[Y4]using hl
 refine Yz rfl func118 Zw rfl ?_;refine tV ?_;apply Yai rfl rfl H.ext hv;apply Yb rfl rfl rfl rfl (p42 (n:=l.length) (by unfold I64;omega) bs h H (by simp only[length_append];omega));rintro _ h1 ⟨rfl,H1⟩;refine tV ?_;apply Yai rfl rfl H1.ext hv;refine tV ?_;refine Kg (fun s:Nat×List Nat×Ya=>[(2,.fn gf first cap),(12,v),(13,.int .i64 l.length),(14,.int .i64 (s.1:Int))]) (fun s=>s.2.1)
  (fun s h=>s.1≤l.length∧Ext g s.2.2∧(∀b∈s.2.1,s.2.2 b≠none∧g b=none)∧Wr s.2.2 w (bs++put l.length++(l.take s.1).flatMap e) h) (fun s=>l.length-s.1) (0,[],g)
  tU rfl ⟨Nat.zero_le _,.refl,by simp,by simpa using H1⟩ ?_
 rintro⟨k,bx,g'⟩ h2 ⟨hk,hx,hbx,H2⟩;simp only at hk hx hbx H2 ⊢;refine tW ?_
 (refine tG ?_;refine oB fun b hb=>?_;cases b)
 case false=>
  have hkl:k=l.length:=by simp at hb;omega
  subst hkl;have H3:Wr g' w (bs++Y4 e l) h2:=by
   rw[Zk (Zl _)]at H2;rw[show bs++Y4 e l=bs++put l.length++l.flatMap e by simp[Y4]];exact H2
  refine tW ?_
  (first|apply X7|apply Xx)
  ·exact(rfl:Yb8 _ []=some [])
  ·exact rfl
  ·exact⟨rfl,H3.kill hx hbx⟩
  ·exact fun _=> .inr ⟨w,H.changed (H3.base hx) (by unfold Y4;intro h;exact Jw _ (append_eq_nil_iff.1 h).1)⟩
 have hkl:k<l.length:=by simpa using hb
 refine tV ?_;apply Yjw rfl rfl rfl (hx.trans H2.ext) hv hkl;intro p c hpc hc hcl;apply Ycm rfl rfl hpc hcl (fun h=>by omega);apply K8 rfl;intro b hbn;apply Ybr (v:= .agg c) rfl rfl rfl rfl hcl (RPair.one hc) upd_same (Yn (show c.length=_ by rw[hcl];rfl));rw[Xm];refine tV ?_;apply X3 rfl rfl upd_same (fun h=>by omega) (Yw hcl);have hle:((l.take k).flatMap e).length+(e l[k]).length≤(l.flatMap e).length:=by
  have h1:=X2 e hkl;have h2:l.flatMap e=(l.take (k+1)).flatMap e++(l.drop (k+1)).flatMap e:=by rw[←flatMap_append,take_append_drop]
  rw[h2,h1];simp only[length_append];omega
 have hgb:g' b=none:=by
  cases hh:g' b with
  |none=>rfl
  |some o=>rw[H2.ext b o hh]at hbn;cases hbn
 have hx2:Ext g (upd g' b (some (.cells c))):=hx.trans (.upd hgb);apply Yb rfl rfl rfl rfl (hp l[k] (getElem_mem hkl) _ c hx2 (RPair.mono _ _ _ _ hx2 hc) _ _ (H2.box hbn) (by simp only[length_append];omega));rintro _ h3 ⟨rfl,H3⟩;refine tW ?_;rw[w64 (n:=(k:Int)+1) (by omega) (by omega)];refine⟨(k+1,b::bx,upd g' b (some (.cells c))),by simp only;omega,tU,rfl,hkl,hx2,fun i hi=>?_,?_⟩
 ·show upd g' b (some (.cells c)) i≠none∧g i=none;rcases mem_cons.1 hi with rfl|hi
  ·refine⟨by rw[upd_same];simp,?_⟩;cases hh:g i with
   |none=>rfl
   |some o=>rw[hx i o hh]at hgb;cases hgb
  ·obtain⟨a1,a2⟩:=hbx i hi;refine⟨?_,a2⟩;rw[Ys (fun e=>a1 (by rw[e,hgb]))];exact a1
 ·simp only;rw[X2 e hkl,←append_assoc];exact H3
theorem p98{l:List Kr}{e:Kr→B}(hv:Sl RFour 4 g v l)(hlen:l.length≤9223372036854775807)
  (hp:∀a∈l,∀g' c,Ext g g'→RFour g' c a→Kd prog ann gf (first++[.agg c]++cap) w (e a) g'):Kd prog ann 120 [.ptr w 0,v,.fn gf first cap] w (Y4 e l) g:=by
 intro bs h H hl;have hl2:bs.length+((put l.length).length+(l.flatMap e).length)≤1099511627776:=by simpa[Y4]using hl
 refine Yz rfl func120 Zw rfl ?_;refine tV ?_;apply Yai rfl rfl H.ext hv;apply Yb rfl rfl rfl rfl (p42 (n:=l.length) (by unfold I64;omega) bs h H (by simp only[length_append];omega));rintro _ h1 ⟨rfl,H1⟩;refine tV ?_;apply Yai rfl rfl H1.ext hv;refine tV ?_;refine Kg (fun s:Nat×List Nat×Ya=>[(2,.fn gf first cap),(12,v),(13,.int .i64 l.length),(14,.int .i64 (s.1:Int))]) (fun s=>s.2.1)
  (fun s h=>s.1≤l.length∧Ext g s.2.2∧(∀b∈s.2.1,s.2.2 b≠none∧g b=none)∧Wr s.2.2 w (bs++put l.length++(l.take s.1).flatMap e) h) (fun s=>l.length-s.1) (0,[],g)
  tU rfl ⟨Nat.zero_le _,.refl,by simp,by simpa using H1⟩ ?_
 rintro⟨k,bx,g'⟩ h2 ⟨hk,hx,hbx,H2⟩;simp only at hk hx hbx H2 ⊢;refine tW ?_
 (refine tG ?_;refine oB fun b hb=>?_;cases b)
 case false=>
  have hkl:k=l.length:=by simp at hb;omega
  subst hkl;have H3:Wr g' w (bs++Y4 e l) h2:=by
   rw[Zk (Zl _)]at H2;rw[show bs++Y4 e l=bs++put l.length++l.flatMap e by simp[Y4]];exact H2
  refine tW ?_
  (first|apply X7|apply Xx)
  ·exact(rfl:Yb8 _ []=some [])
  ·exact rfl
  ·exact⟨rfl,H3.kill hx hbx⟩
  ·exact fun _=> .inr ⟨w,H.changed (H3.base hx) (by unfold Y4;intro h;exact Jw _ (append_eq_nil_iff.1 h).1)⟩
 have hkl:k<l.length:=by simpa using hb
 refine tV ?_;apply Yjw rfl rfl rfl (hx.trans H2.ext) hv hkl;intro p c hpc hc hcl;apply Ycm rfl rfl hpc hcl (fun h=>by omega);apply K8 rfl;intro b hbn;apply Ybr (v:= .agg c) rfl rfl rfl rfl hcl (RFour.one hc) upd_same (Yn (show c.length=_ by rw[hcl];rfl));rw[Xm];refine tV ?_;apply X3 rfl rfl upd_same (fun h=>by omega) (Yw hcl);have hle:((l.take k).flatMap e).length+(e l[k]).length≤(l.flatMap e).length:=by
  have h1:=X2 e hkl;have h2:l.flatMap e=(l.take (k+1)).flatMap e++(l.drop (k+1)).flatMap e:=by rw[←flatMap_append,take_append_drop]
  rw[h2,h1];simp only[length_append];omega
 have hgb:g' b=none:=by
  cases hh:g' b with
  |none=>rfl
  |some o=>rw[H2.ext b o hh]at hbn;cases hbn
 have hx2:Ext g (upd g' b (some (.cells c))):=hx.trans (.upd hgb);apply Yb rfl rfl rfl rfl (hp l[k] (getElem_mem hkl) _ c hx2 (RFour.mono _ _ _ _ hx2 hc) _ _ (H2.box hbn) (by simp only[length_append];omega));rintro _ h3 ⟨rfl,H3⟩;refine tW ?_;rw[w64 (n:=(k:Int)+1) (by omega) (by omega)];refine⟨(k+1,b::bx,upd g' b (some (.cells c))),by simp only;omega,tU,rfl,hkl,hx2,fun i hi=>?_,?_⟩
 ·show upd g' b (some (.cells c)) i≠none∧g i=none;rcases mem_cons.1 hi with rfl|hi
  ·refine⟨by rw[upd_same];simp,?_⟩;cases hh:g i with
   |none=>rfl
   |some o=>rw[hx i o hh]at hgb;cases hgb
  ·obtain⟨a1,a2⟩:=hbx i hi;refine⟨?_,a2⟩;rw[Ys (fun e=>a1 (by rw[e,hgb]))];exact a1
 ·simp only;rw[X2 e hkl,←append_assoc];exact H3
theorem p100{l:List Kr}{e:Kr→B}(hv:Sl RFour 4 g v l)(hlen:l.length≤9223372036854775807)
  (hp:∀a∈l,∀g' c,Ext g g'→RFour g' c a→Kd prog ann gf (first++[.agg c]++cap) w (e a) g'):Kd prog ann 122 [.ptr w 0,v,.fn gf first cap] w (Y4 e l) g:=by
 intro bs h H hl;have hl2:bs.length+((put l.length).length+(l.flatMap e).length)≤1099511627776:=by simpa[Y4]using hl
 refine Yz rfl func122 Zw rfl ?_;refine tV ?_;apply Yai rfl rfl H.ext hv;apply Yb rfl rfl rfl rfl (p42 (n:=l.length) (by unfold I64;omega) bs h H (by simp only[length_append];omega));rintro _ h1 ⟨rfl,H1⟩;refine tV ?_;apply Yai rfl rfl H1.ext hv;refine tV ?_;refine Kg (fun s:Nat×List Nat×Ya=>[(2,.fn gf first cap),(12,v),(13,.int .i64 l.length),(14,.int .i64 (s.1:Int))]) (fun s=>s.2.1)
  (fun s h=>s.1≤l.length∧Ext g s.2.2∧(∀b∈s.2.1,s.2.2 b≠none∧g b=none)∧Wr s.2.2 w (bs++put l.length++(l.take s.1).flatMap e) h) (fun s=>l.length-s.1) (0,[],g)
  tU rfl ⟨Nat.zero_le _,.refl,by simp,by simpa using H1⟩ ?_
 rintro⟨k,bx,g'⟩ h2 ⟨hk,hx,hbx,H2⟩;simp only at hk hx hbx H2 ⊢;refine tW ?_
 (refine tG ?_;refine oB fun b hb=>?_;cases b)
 case false=>
  have hkl:k=l.length:=by simp at hb;omega
  subst hkl;have H3:Wr g' w (bs++Y4 e l) h2:=by
   rw[Zk (Zl _)]at H2;rw[show bs++Y4 e l=bs++put l.length++l.flatMap e by simp[Y4]];exact H2
  refine tW ?_
  (first|apply X7|apply Xx)
  ·exact(rfl:Yb8 _ []=some [])
  ·exact rfl
  ·exact⟨rfl,H3.kill hx hbx⟩
  ·exact fun _=> .inr ⟨w,H.changed (H3.base hx) (by unfold Y4;intro h;exact Jw _ (append_eq_nil_iff.1 h).1)⟩
 have hkl:k<l.length:=by simpa using hb
 refine tV ?_;apply Yjw rfl rfl rfl (hx.trans H2.ext) hv hkl;intro p c hpc hc hcl;apply Ycm rfl rfl hpc hcl (fun h=>by omega);apply K8 rfl;intro b hbn;apply Ybr (v:= .agg c) rfl rfl rfl rfl hcl (RFour.one hc) upd_same (Yn (show c.length=_ by rw[hcl];rfl));rw[Xm];refine tV ?_;apply X3 rfl rfl upd_same (fun h=>by omega) (Yw hcl);have hle:((l.take k).flatMap e).length+(e l[k]).length≤(l.flatMap e).length:=by
  have h1:=X2 e hkl;have h2:l.flatMap e=(l.take (k+1)).flatMap e++(l.drop (k+1)).flatMap e:=by rw[←flatMap_append,take_append_drop]
  rw[h2,h1];simp only[length_append];omega
 have hgb:g' b=none:=by
  cases hh:g' b with
  |none=>rfl
  |some o=>rw[H2.ext b o hh]at hbn;cases hbn
 have hx2:Ext g (upd g' b (some (.cells c))):=hx.trans (.upd hgb);apply Yb rfl rfl rfl rfl (hp l[k] (getElem_mem hkl) _ c hx2 (RFour.mono _ _ _ _ hx2 hc) _ _ (H2.box hbn) (by simp only[length_append];omega));rintro _ h3 ⟨rfl,H3⟩;refine tW ?_;rw[w64 (n:=(k:Int)+1) (by omega) (by omega)];refine⟨(k+1,b::bx,upd g' b (some (.cells c))),by simp only;omega,tU,rfl,hkl,hx2,fun i hi=>?_,?_⟩
 ·show upd g' b (some (.cells c)) i≠none∧g i=none;rcases mem_cons.1 hi with rfl|hi
  ·refine⟨by rw[upd_same];simp,?_⟩;cases hh:g i with
   |none=>rfl
   |some o=>rw[hx i o hh]at hgb;cases hgb
  ·obtain⟨a1,a2⟩:=hbx i hi;refine⟨?_,a2⟩;rw[Ys (fun e=>a1 (by rw[e,hgb]))];exact a1
 ·simp only;rw[X2 e hkl,←append_assoc];exact H3
theorem Yqo(p:Kr):Ybu p=[p.1,p.2.1,p.2.2.1,p.2.2.2].flatMap put:=by simp[Ybu]
theorem Yik(hk:k<l.length):(l.map I).getD ((k:Int).toNat*1) .undef=I l[k]:=by
 simp[hk]
theorem Yl0(e:α→B){l:List α}(hk:k<l.length):((l.take k).flatMap e).length+(e l[k]).length≤(l.flatMap e).length:=by
 have h1:=X2 e hk;have h2:l.flatMap e=(l.take (k+1)).flatMap e++(l.drop (k+1)).flatMap e:=by rw[←flatMap_append,take_append_drop]
 rw[h2,h1];simp only[length_append];omega
theorem p99{p:Kr}(hc:RFour g c p)(hF:F64 p):Kd prog ann 121 [.ptr w 0,.agg c] w (Ybu p) g:=by
 intro bs h H hl;obtain rfl:c=[I p.1,I p.2.1,I p.2.2.1,I p.2.2.2]:=hc;have hF4:∀n∈[p.1,p.2.1,p.2.2.1,p.2.2.2],I64 n:=by
  obtain⟨a,b,c,d⟩:=hF;intro n hn;simp only[mem_cons,not_mem_nil,or_false]at hn;rcases hn with rfl|rfl|rfl|rfl<;>assumption
 rw[Yqo]at hl ⊢;rw[length_append]at hl;refine Yz rfl func121 Zw rfl ?_;refine tV ?_;apply Yq rfl rfl (show List.all _ AV.one=true from rfl);refine tV ?_;refine tw ?_;refine tV ?_;refine Xv (fun k:Nat=>[(0,.ptr w 0),(14,.agg ([p.1,p.2.1,p.2.2.1,p.2.2.2].map I)),(15,.int .i64 (k:Int))]) (fun k h=>k≤4∧Wr g w (bs++([p.1,p.2.1,p.2.2.1,p.2.2.2].take k).flatMap put) h) (fun k=>4-k) 0
  tU ⟨Nat.zero_le _,by simpa using H⟩ ?_
 rintro k h2 ⟨hk,H2⟩;refine tV ?_
 (refine tG ?_;refine oB fun b hb=>?_;cases b)
 case true=>
  have hk4:k<[p.1,p.2.1,p.2.2.1,p.2.2.2].length:=by simp at hb;show k<4;omega
  refine tV ?_;apply Y1 (w:=I ([p.1,p.2.1,p.2.2.1,p.2.2.2][k])) rfl rfl ⟨by omega,(show(k:Int)<4 by have:k<4:=hk4;omega),by simpa using hk4⟩ (Yik hk4);refine tV ?_
  skip
  apply Yb rfl rfl rfl rfl (p42 (n:=[p.1,p.2.1,p.2.2.1,p.2.2.2][k]) (hF4 _ (getElem_mem hk4)) _ h2 H2 (by have:=Yl0 put hk4;simp only[length_append]at this ⊢;omega));rintro _ h3 ⟨rfl,H3⟩;refine tW ?_;rw[w64 (n:=(k:Int)+1) (by omega) (by omega)];refine⟨k+1,(show 4-(k+1)<4-k by have:k<4:=hk4;omega),tU,rfl,hk4,?_⟩;rw[X2 put hk4,←append_assoc];exact H3
 have hk4:k=4:=by simp at hb;omega
 subst hk4;have H3:Wr g w (bs++[p.1,p.2.1,p.2.2.1,p.2.2.2].flatMap put) h2:=H2;refine tW ?_
 (first|apply X7|apply Xx)
 ·exact(rfl:Yb8 _ []=some [])
 ·exact rfl
 ·rw[Yl];exact⟨rfl,H3⟩
 ·exact fun _=> .inr ⟨w,H.changed H3 (by intro h;simp only[flatMap_cons]at h;exact Jw _ (append_eq_nil_iff.1 h).1)⟩
theorem p101{p:Kr}(hc:RFour g c p)(hF:F64 p):Kd prog ann 123 [.ptr w 0,.agg c] w (Ybu p) g:=by
 intro bs h H hl;obtain rfl:c=[I p.1,I p.2.1,I p.2.2.1,I p.2.2.2]:=hc;have hF4:∀n∈[p.1,p.2.1,p.2.2.1,p.2.2.2],I64 n:=by
  obtain⟨a,b,c,d⟩:=hF;intro n hn;simp only[mem_cons,not_mem_nil,or_false]at hn;rcases hn with rfl|rfl|rfl|rfl<;>assumption
 rw[Yqo]at hl ⊢;rw[length_append]at hl;refine Yz rfl func123 Zw rfl ?_;refine tV ?_;apply Yq rfl rfl (show List.all _ AV.one=true from rfl);refine tV ?_;refine tw ?_;refine tV ?_;refine Xv (fun k:Nat=>[(0,.ptr w 0),(14,.agg ([p.1,p.2.1,p.2.2.1,p.2.2.2].map I)),(15,.int .i64 (k:Int))]) (fun k h=>k≤4∧Wr g w (bs++([p.1,p.2.1,p.2.2.1,p.2.2.2].take k).flatMap put) h) (fun k=>4-k) 0
  tU ⟨Nat.zero_le _,by simpa using H⟩ ?_
 rintro k h2 ⟨hk,H2⟩;refine tV ?_
 (refine tG ?_;refine oB fun b hb=>?_;cases b)
 case true=>
  have hk4:k<[p.1,p.2.1,p.2.2.1,p.2.2.2].length:=by simp at hb;show k<4;omega
  refine tV ?_;apply Y1 (w:=I ([p.1,p.2.1,p.2.2.1,p.2.2.2][k])) rfl rfl ⟨by omega,(show(k:Int)<4 by have:k<4:=hk4;omega),by simpa using hk4⟩ (Yik hk4);refine tV ?_
  skip
  apply Yb rfl rfl rfl rfl (p42 (n:=[p.1,p.2.1,p.2.2.1,p.2.2.2][k]) (hF4 _ (getElem_mem hk4)) _ h2 H2 (by have:=Yl0 put hk4;simp only[length_append]at this ⊢;omega));rintro _ h3 ⟨rfl,H3⟩;refine tW ?_;rw[w64 (n:=(k:Int)+1) (by omega) (by omega)];refine⟨k+1,(show 4-(k+1)<4-k by have:k<4:=hk4;omega),tU,rfl,hk4,?_⟩;rw[X2 put hk4,←append_assoc];exact H3
 have hk4:k=4:=by simp at hb;omega
 subst hk4;have H3:Wr g w (bs++[p.1,p.2.1,p.2.2.1,p.2.2.2].flatMap put) h2:=H2;refine tW ?_
 (first|apply X7|apply Xx)
 ·exact(rfl:Yb8 _ []=some [])
 ·exact rfl
 ·rw[Yl];exact⟨rfl,H3⟩
 ·exact fun _=> .inr ⟨w,H.changed H3 (by intro h;simp only[flatMap_cons]at h;exact Jw _ (append_eq_nil_iff.1 h).1)⟩
theorem p97{b:Nat}(hc:RPair g c p)(h1:I64 p.1)(h2:I64 p.2)(hb:g b=some (.cells [.ptr w 0])):Kd prog ann 119 [.agg c,.ptr b 0] w (Yfx p) g:=by
 intro bs h H hl;obtain rfl:c=[I p.1,I p.2]:=hc;unfold Yfx at hl ⊢;simp only[length_append]at hl;refine Yz rfl func119 Zw rfl ?_;refine tV ?_;apply Yq rfl rfl (show List.all _ AV.one=true from rfl);refine tV ?_;apply Y2 rfl rfl (H.ext b _ hb) (fun h=>by omega) rfl;apply Yq rfl rfl ⟨Int.le_refl 0,by decide⟩;refine tV ?_;apply Yb rfl rfl rfl rfl (p42 h1 bs h H (by simp only[length_append];omega));rintro _ h3 ⟨rfl,H3⟩;refine tV ?_;apply Y2 rfl rfl (H3.ext b _ hb) (fun h=>by omega) rfl;apply Yq rfl rfl ⟨by decide,by decide⟩;refine tV ?_;apply Yb rfl rfl rfl rfl (p42 h2 _ h3 H3 (by simp only[length_append];omega));rintro _ h4 ⟨rfl,H4⟩;rw[append_assoc]at H4;refine tW ?_
 (first|apply X7|apply Xx)
 ·exact(rfl:Yb8 _ []=some [])
 ·exact rfl
 ·rw[Yl];exact⟨rfl,H4⟩
 ·exact fun _=> .inr ⟨w,H.changed H4 (by intro h;exact Jw _ (append_eq_nil_iff.1 h).1)⟩
theorem p41{m:Mth}(hc:RMth g c m)(hw:m.WF):Kd prog ann 56 [.ptr w 0,.agg c] w (Yqm m) g:=by
 intro bs h H hl;have hone:=hc.one;obtain⟨vc,vt,rfl,v1,v2⟩:=hc;have e0:Yqm m=[m.args,m.locals,m.stack].flatMap put++(Jy m.gives++(Y4 Ybu m.code++Y4 Ybu m.traps)):=by simp[Yqm]
 rw[e0]at hl ⊢;simp only[length_append]at hl;have hF4:∀n∈[m.args,m.locals,m.stack],I64 n:=by
  intro n hn;simp only[mem_cons,not_mem_nil,or_false]at hn;rcases hn with rfl|rfl|rfl
  ·exact hw.args
  ·exact hw.locals
  ·exact hw.stack
 refine Yz rfl func56 Zw rfl ?_;refine tV ?_;apply Yq rfl rfl hone;refine tV ?_;refine tw ?_;refine tV ?_;refine Xv (fun k:Nat=>[(0,.ptr w 0),(3,.tptr [I m.args,I m.locals,I m.stack,.bool m.gives,vc,vt] 0),(12,.agg ([m.args,m.locals,m.stack].map I)),(13,.int .i64 (k:Int))]) (fun k h=>k≤3∧Wr g w (bs++([m.args,m.locals,m.stack].take k).flatMap put) h) (fun k=>3-k) 0
  tU ⟨Nat.zero_le _,by simpa using H⟩ ?_
 rintro k h2 ⟨hk,H2⟩;refine tV ?_
 (refine tG ?_;refine oB fun b hb=>?_;cases b)
 case true=>
  have hk4:k<[m.args,m.locals,m.stack].length:=by simp at hb;show k<3;omega
  refine tV ?_;apply Y1 (w:=I ([m.args,m.locals,m.stack][k])) rfl rfl ⟨by omega,(show(k:Int)<3 by have:k<3:=hk4;omega),by simpa using hk4⟩ (Yik hk4);refine tV ?_
  skip
  apply Yb rfl rfl rfl rfl (p42 (n:=[m.args,m.locals,m.stack][k]) (hF4 _ (getElem_mem hk4)) _ h2 H2 (by have:=Yl0 put hk4;simp only[length_append]at this ⊢;omega));rintro _ h3 ⟨rfl,H3⟩;refine tW ?_;rw[w64 (n:=(k:Int)+1) (by omega) (by omega)];refine⟨k+1,(show 3-(k+1)<3-k by have:k<3:=hk4;omega),tU,rfl,hk4,?_⟩;rw[X2 put hk4,←append_assoc];exact H3
 have hk4:k=3:=by simp at hb;omega
 subst hk4;have H3:Wr g w (bs++[m.args,m.locals,m.stack].flatMap put) h2:=H2;refine tV ?_;apply Yb rfl rfl rfl rfl (p47 (b:=m.gives) _ h2 H3 (by simp only[length_append];omega));rintro _ h4 ⟨rfl,H4⟩;refine tV ?_;apply Yb rfl rfl rfl rfl (p98 (e:=Ybu) v1 hw.code.1 (fun a ha g' c _ hc=>p99 hc (hw.code.2 a ha)) _ h4 H4 (by simp only[length_append];omega));rintro _ h5 ⟨rfl,H5⟩;refine tV ?_;apply Yb rfl rfl rfl rfl (p100 (e:=Ybu) v2 hw.traps.1 (fun a ha g' c _ hc=>p101 hc (hw.traps.2 a ha)) _ h5 H5 (by simp only[length_append];omega));rintro _ h6 ⟨rfl,H6⟩;simp only[append_assoc]at H6;refine tW ?_
 (first|apply X7|apply Xx)
 ·exact(rfl:Yb8 _ []=some [])
 ·exact rfl
 ·rw[Yl];exact⟨rfl,H6⟩
 ·exact fun _=> .inr ⟨w,H.changed H6 (by intro h;simp only[flatMap_cons,append_assoc]at h;exact Jw _ (append_eq_nil_iff.1 h).1)⟩
end Go.Proofs
