import Derived.Test.YtibdecjfdpmfoaaGreatImVal8
section
open Go Go.Abs Go.Proofs.SlimCode Go.Img
set_option maxRecDepth 100000
namespace Go.Proofs
open List hiding nil
open Go.Proofs.Tryz
variable {cs:List AV} {w:List Int} {j:Nat} {K h:Ya}
def Has1 (K:Ya) (j:Nat) (cs:List AV) (h:Ya):Prop:=h j=some (.cells cs)∧Ext K (upd h j none)
theorem Has1.ext{g:Ya}(H:Has1 K j cs h)(hx:Ext g K):Ext g h:=by
 intro id o e;have e1:=H.2 _ _ (hx _ _ e);by_cases hid:id=j
 ·subst hid;rw[upd_same]at e1;cases e1
 ·rwa[Ys hid]at e1
theorem Has1.up{h':Ya}(H:Has1 K j cs h)(hx:Ext h h'):Has1 K j cs h':=by
 refine⟨hx _ _ H.1,fun id o e=>?_⟩;have e1:=H.2 _ _ e;by_cases hid:id=j
 ·subst hid;rw[upd_same]at e1;cases e1
 ·rw[Ys hid]at e1 ⊢;exact hx _ _ e1
theorem Has1.set{cs':List AV}(H:Has1 K j cs h):Has1 K j cs' (upd h j (some (.cells cs'))):=
 ⟨upd_same,by rw[Xm];exact H.2⟩
theorem Has1.at{b:Nat}{o:AObj}(H:Has1 K j cs h)(hb:b≠j)(e:K b=some o):h b=some o:=by
 have:=H.2 _ _ e;rwa[Ys hb]at this
theorem Yhr{n:Nat}:X6 [.bool false] (n*1)=(Y5 n []).map AV.bool:=by
 rw[Ymo];apply ext_getElem<;>simp[X6,Nat.mod_one]
theorem Yhz(h:Ya):∀l:List Bool,Chunks (RB h) 1 (l.map AV.bool) l
 |[]=> .nil
 |b::l=>by
  rw[map_cons];exact .cons (c:=[.bool b]) rfl rfl (Yhz h l)
theorem Ymt{l:List Nat}{a:Nat}(h0:Yfk w 0=(Yfk w a).map (l++ ·))(h1:a<w.length)(h2:Ob w a):Yfk w 0=(Yfk w (a+2+(w.getD (a+1) 0).toNat)).map ((l++[a])++ ·):=by
 rw[h0,Yg8 h1 h2,Option.map_map]
 congr 1
 funext x;simp
theorem p132{v:AV}(hv:Sl (RN .i32) 1 h v w)(hl:Len w)(h32:∀x∈w,I32 x):HCallC prog ann 68 [v,I 1048576] h fun r h2=>Ext h h2∧match K6 w with
  |none=>r= .tup [.nil .ptr,.bool false]
  |some l=>∃b,r= .tup [.ptr b 0,.bool true]∧HObj h h2 b w l:=by
 unfold Len at hl;refine Yz rfl func68 Zw rfl ?_;refine tV ?_;apply Yb rfl rfl rfl rfl p146;rintro _ _ ⟨b,hb,rfl,rfl⟩;refine tV ?_;apply Y0 rfl rfl (hv.mono RN.mono (.upd hb));refine tV ?_;apply Y2 rfl rfl upd_same (fun h=>by omega) rfl;refine tV ?_;refine oI (1048576<w.length) (fun H1=>?_) (fun H1=>?_)
 ·refine tW ?_;have hpn:K6 w=none:=by
   unfold K6;rw[if_neg (by omega)]
  (first|apply X7|apply Xx)
  ·exact rfl
  ·exact rfl
  ·rw[Yl,hpn];exact⟨.upd hb,rfl⟩
  ·intro _;left;rw[hpn];exact⟨.refl,rfl⟩
 refine tX ?_;have hkb:Yv [b] (upd h b (some (.cells [I 1048576,.nil .sl,.nil .sl])))=h:=by
  funext id;unfold Yv upd;by_cases e:id=b
  ·subst e;simp[hb]
  ·simp[e]
 apply Ybe [b] [.A,.A,.A,.A,.A,.C,.C,.A,.A,.E,.A,.A,.D] (by intro id hid;obtain rfl:=Zm.1 hid;rw[upd_same];simp) rfl;apply x_v rfl rfl trivial;apply x_v rfl rfl trivial;apply x_v rfl rfl trivial;refine x_A (R:=fun E' bx' k=>∃w1,E'=(20,w1)::_∧bx'=[]∧Ext h k∧Sl (RN .i32) 1 k w1 w∧∀i∈Qm w1,h i=none) (by
  rw[hkb];exact Yb rfl rfl rfl rfl (p145 hv (by omega)) fun w1 k q=>X8 ⟨rfl,w1,rfl,rfl,q⟩) ?_
 rintro _ _ k1 ⟨w1,rfl,rfl,hx1,s1,i1⟩ hk1;replace hk1:=hk1 b (by simp);have ej:Jv [b] (upd h b (some (.cells [I 1048576,.nil .sl,.nil .sl]))) k1=upd k1 b (some (.cells [I 1048576,.nil .sl,.nil .sl])):=by
  funext id;unfold Jv upd;by_cases e:id=b
  ·subst e;simp
  ·simp[e]
 rw[ej];have hxb:∀o,Ext h (upd k1 b (some o)):=fun o=>hx1.trans (.upd hk1);apply x_v rfl rfl trivial;apply Ypd rfl rfl (hv.mono RN.mono (hxb _));apply x_mksC rfl rfl rfl (by omega) (by omega);intro j hj;have hbj:b≠j:=fun e=>by rw[e,upd_same]at hj;cases hj
 have hjk:k1 j=none:=by rwa[Ys hbj.symm]at hj
 apply x_v rfl rfl trivial;apply x_v rfl rfl trivial;apply x_st1E rfl rfl rfl s1.one (by rw[Ys hbj];exact upd_same) (by simp) (show(1:Nat)<3 by decide);apply x_v rfl rfl trivial;apply x_v rfl rfl trivial;rw[show((w.length:Int)).toNat=w.length by omega];obtain⟨K,hK⟩:∃K,K=upd k1 b (some (.cells [I 1048576,w1,.sl j 0 w.length 1])):=⟨_,rfl⟩;have hKb:K b=some (.cells [I 1048576,w1,.sl j 0 w.length 1]):=by rw[hK,upd_same]
 have hKj:K j=none:=by rw[hK,Ys hbj.symm];exact hjk
 have hhK:Ext h K:=by rw[hK];exact hxb _
 have sK:Sl (RN .i32) 1 K w1 w:=by rw[hK];exact s1.mono RN.mono (.upd hk1)
 refine x_D (R:=fun E' bx' k=>E'=Qn none _∧bx'=[]∧k=upd K j (some (.cells ((Y5 w.length []).map AV.bool)))) (K7 rfl rfl rfl rfl rfl upd_same (show(2:Nat)<3 by decide) (X8 ⟨rfl,rfl,rfl,?_⟩)) ?_
 ·funext id;rw[hK,←Yhr];unfold upd;by_cases e:id=b
  ·subst e;simp[hbj]
  ·simp[e]
 rintro _ _ _ ⟨rfl,rfl,rfl⟩;refine⟨fun id hid=>by obtain rfl:=Zm.1 hid;rw[Ys hbj,hKb];simp,?_⟩;apply Yba;have H0:Has1 K j ((Y5 w.length []).map AV.bool) (upd K j (some (.cells ((Y5 w.length []).map AV.bool)))):=⟨upd_same,by
  rw[Xm];intro id o e;by_cases hid:id=j
  ·subst hid;rw[hKj]at e;cases e
  ·rw[Ys hid];exact e⟩
 generalize upd K j (some (.cells ((Y5 w.length []).map AV.bool)))=h2 at H0 ⊢;clear hj ej hxb hK hkb hx1 s1 hk1 hjk;refine tV ?_;refine Xv (fun s:Nat×List Nat=>[(0,v),(6,.ptr b 0),(7,.int .i64 (s.1:Int))]) (fun s h'=>Has1 K j ((Y5 w.length s.2).map AV.bool) h'∧Yfk w 0=(Yfk w s.1).map (s.2++ ·)) (fun s=>w.length-s.1) (0,[])
  tU ⟨H0,by simp⟩ ?_
 clear H0;rintro⟨a,l⟩ h' ⟨H0,hs⟩;simp only at H0 hs ⊢;have hx:Ext h h':=H0.ext hhK;refine tV ?_;apply Y0 rfl rfl (hv.mono RN.mono hx);refine tV ?_;refine oI (a<w.length) (fun H2=>?_) (fun H2=>?_);rotate_left
 ·refine tW ?_;have hps:K6 w=some l:=by
   unfold K6;rw[if_pos (by omega),hs,Ku H2];simp
  (first|apply X7|apply Xx)
  ·exact rfl
  ·exact rfl
  ·rw[Yl,hps];have hbn:h b=none:=by
    cases e:h b with
    |none=>rfl
    |some o=>rw[e]at hb;cases hb
   refine⟨hx,b,rfl,w1,.sl j 0 w.length 1,H0.at hbj hKb,hbn,?_,⟨_,?_,Yhz _ _⟩,i1,fun i hi=>?_⟩
   ·obtain⟨cs,c1,c2⟩:=sK;refine⟨cs,?_,c2⟩;generalize w.length=n at *;cases c1 with
    |nil=>exact .nil
    |tsl _ _ hl=>exact .tsl _ _ hl
    |sl id off _ os _ hi hc=>exact .sl id off _ os _ (H0.at (fun e=>by rw[e,hKj]at hi;cases hi) hi) hc
   ·rw[Qv];exact .sl j 0 _ _ _ H0.1 (Yw (by rw[length_map,Qv,Nat.mul_one]))
   ·obtain rfl:=Zm.1 hi;cases e:h i with
    |none=>rfl
    |some o=>rw[hhK _ _ e]at hKj;cases hKj
  ·exact fun h=>by cases h
 refine tX ?_;have hgd:∀i,(hi:i<w.length)→w.getD i 0=w[i]:=fun i hi=>by rw[Zd,Zg hi];rfl
 have h3:∀i,I32 (w.getD i 0):=fun i=>by
  by_cases hi:i<w.length
  ·rw[hgd i hi];exact h32 _ (getElem_mem hi)
  ·rw[Zd,getElem?_eq_none (by omega)];unfold I32;exact⟨by decide,by decide⟩
 apply Ybe (Qm v) [.A,.A,.A,.A,.A,.A,.A,.A,.A,.B,.A,.A,.A,.A,.A,.B,.C,.A,.A,.A,.A,.A,.A,.A,.A,.B,.A,.A,.C,.A,.A,.A,.A,.A] (by
  intro i hi;obtain⟨cs,c1,_⟩:=hv.mono RN.mono hx;exact c1.live i hi) rfl
 apply x_v rfl rfl trivial;apply x_as (w:=I (((a+1:Nat):Int))) rfl rfl trivial (by rw[w64 (by omega) (by omega)];rfl);apply x_v rfl rfl trivial;apply x_lenA rfl rfl (hv.mono RN.mono hx);apply Ymj rfl rfl trivial;intro b3 hb3;by_cases H3:a+1=w.length
 ·obtain rfl:b3=true:=by
   rw[hb3];exact Zt (by omega)
  apply x_v rfl rfl trivial;apply Ki rfl rfl;apply Ki rfl rfl;apply Ki rfl rfl;apply Ki rfl rfl;apply Ki rfl rfl;apply Ki rfl rfl;apply Ki rfl rfl;apply Ki rfl rfl;apply Ki rfl rfl;apply Ki rfl rfl;apply Ki rfl rfl;apply Ki rfl rfl;apply Ki rfl rfl;apply x_v rfl rfl trivial;apply x_v rfl rfl trivial;apply Ki rfl rfl;apply Ki rfl rfl;apply Ki rfl rfl;apply Ki rfl rfl;apply Ki rfl rfl;apply Ki rfl rfl;apply Ki rfl rfl;apply Ki rfl rfl;apply Ki rfl rfl;apply Ki rfl rfl;apply Ki rfl rfl;apply Ki rfl rfl;apply x_v rfl rfl trivial;apply Yba;have HB:¬Ob w a:=fun h=>by have:=h.1;omega
  refine tW ?_;have hpn:K6 w=none:=by
   unfold K6;rw[if_pos (by omega),hs,Yc5 H2 HB];rfl
  (first|apply X7|apply Xx)
  ·exact rfl
  ·exact rfl
  ·rw[Yl,hpn];exact⟨hx,rfl⟩
  ·intro _;left;rw[hpn];exact⟨.refl,rfl⟩
 obtain rfl:b3=false:=by
  rw[hb3];exact Zx (by omega)
 apply x_v rfl rfl trivial;apply Ya3 rfl;apply x_v rfl rfl trivial;apply Ya3 rfl;apply x_v rfl rfl trivial;apply Ya3 rfl;apply Ymi rfl rfl rfl (hv.mono RN.mono hx) H2 (fun i hi=>hi);intro p c hp hpi hc hcl;apply Ya3 rfl;apply Yff rfl rfl hp hpi (.one hc);clear hp hpi hc hcl;apply Ya3 rfl;apply x_as (w:=I (w.getD (a) 0)) rfl rfl trivial (by have h4:=h3 (a);unfold I32 at h4;rw[hgd _ (by omega)]at h4 ⊢;rw[w64 (by omega) (by omega)]);apply Ya3 rfl;apply x_v rfl rfl trivial;apply Ya3 rfl;apply x_v rfl rfl trivial;apply Ya3 rfl;apply x_as (w:=I (((a+1:Nat):Int))) rfl rfl trivial (by rw[w64 (by omega) (by omega)];rfl);apply Ya3 rfl;apply Ymi rfl rfl rfl (hv.mono RN.mono hx) (by omega) (fun i hi=>hi);intro p c hp hpi hc hcl;apply Ya3 rfl;apply Yff rfl rfl hp hpi (.one hc);clear hp hpi hc hcl;apply Ya3 rfl;apply x_asC (w:=I (w.getD (a+1) 0)) rfl rfl rfl trivial (by have h4:=h3 (a+1);unfold I32 at h4;rw[hgd _ (by omega)]at h4 ⊢;rw[w64 (by omega) (by omega)]);apply Ya3 rfl;apply Yfq rfl rfl rfl (by exact p170 (k:=w.getD a 0) (n:=w.getD (a+1) 0));intro h4 hy;replace H0:=H0.up hy;replace hx:=hx.trans hy;clear hy;by_cases H4:Yme (w.getD a 0) (w.getD (a+1) 0);rotate_left
 ·rw[Yf H4];apply Ya3 rfl;apply x_v rfl rfl trivial;apply x_v rfl rfl trivial;apply x_v rfl rfl trivial;apply Ki rfl rfl;apply Ki rfl rfl;apply Ki rfl rfl;apply Ki rfl rfl;apply Ki rfl rfl;apply Ki rfl rfl;apply Ki rfl rfl;apply Ki rfl rfl;apply Ki rfl rfl;apply Ki rfl rfl;apply Ki rfl rfl;apply Ki rfl rfl;apply x_v rfl rfl trivial;apply Yba;have HB:¬Ob w a:=fun h=>H4 h.2.1;refine tW ?_;have hpn:K6 w=none:=by
   unfold K6;rw[if_pos (by omega),hs,Yc5 H2 HB];rfl
  (first|apply X7|apply Xx)
  ·exact rfl
  ·exact rfl
  ·rw[Yl,hpn];exact⟨hx,rfl⟩
  ·intro _;left;rw[hpn];exact⟨.refl,rfl⟩
 rw[Ym H4];apply Ya3 rfl;apply x_v rfl rfl trivial;apply x_v rfl rfl trivial;apply x_v rfl rfl trivial;apply Ya3 rfl;apply x_v rfl rfl trivial;apply Ya3 rfl;apply x_v rfl rfl trivial;apply Ya3 rfl;apply x_as (w:=I (((a+1:Nat):Int))) rfl rfl trivial (by rw[w64 (by omega) (by omega)];rfl);apply Ya3 rfl;apply Ymi rfl rfl rfl (hv.mono RN.mono hx) (by omega) (fun i hi=>hi);intro p c hp hpi hc hcl;apply Ya3 rfl;apply Yff rfl rfl hp hpi (.one hc);clear hp hpi hc hcl;apply Ya3 rfl;apply x_as (w:=I (w.getD (a+1) 0)) rfl rfl trivial (by have h4:=h3 (a+1);unfold I32 at h4;rw[hgd _ (by omega)]at h4 ⊢;rw[w64 (by omega) (by omega)]);apply Ya3 rfl;apply x_v rfl rfl trivial;apply Ya3 rfl;apply Ypd rfl rfl (hv.mono RN.mono hx);apply Ya3 rfl;apply x_v rfl rfl trivial;apply Ya3 rfl;apply x_as (w:=I ((w.length:Int)-a)) rfl rfl trivial (by rw[w64 (by omega) (by omega)]);apply Ya3 rfl;apply x_as (w:=I ((w.length:Int)-a-2)) rfl rfl trivial (by rw[w64 (by omega) (by omega)]);apply Ya3 rfl;apply Ymj rfl rfl trivial;intro b5 hb5;by_cases H5:w.getD (a+1) 0≤(w.length:Int)-a-2;rotate_left
 ·obtain rfl:b5=true:=by
   rw[hb5];exact Zt (by omega)
  apply x_v rfl rfl trivial;apply Yba;have HB:¬Ob w a:=fun h=>H5 h.2.2;refine tW ?_;have hpn:K6 w=none:=by
   unfold K6;rw[if_pos (by omega),hs,Yc5 H2 HB];rfl
  (first|apply X7|apply Xx)
  ·exact rfl
  ·exact rfl
  ·rw[Yl,hpn];exact⟨hx,rfl⟩
  ·intro _;left;rw[hpn];exact⟨.refl,rfl⟩
 obtain rfl:b5=false:=by
  rw[hb5];exact Zx (by omega)
 apply x_v rfl rfl trivial;apply Yba;have HB:Ob w a:=⟨by omega,H4,H5⟩;have hn0:0≤w.getD (a+1) 0:=H4.2.2.1;refine tV ?_;apply Y2 rfl rfl (H0.at hbj hKb) (fun h=>by omega) rfl;refine tV ?_;apply Yq (v:= .ptr j (0+((a:Int)).toNat*1)) rfl rfl ⟨rfl,by omega,by omega⟩;apply K7 rfl rfl rfl rfl rfl H0.1 (show 0+((a:Int)).toNat*1<_ by rw[length_map,Qv];omega);have H6:=H0.set (cs':=(Y5 w.length (l++[a])).map AV.bool);rw[show((Y5 w.length l).map AV.bool).set (0+((a:Int)).toNat*1) (.bool true)=(Y5 w.length (l++[a])).map AV.bool by
  rw[Yht,map_set]
  congr 1
  omega]
 have hx6:Ext h (upd h4 j (some (.cells ((Y5 w.length (l++[a])).map AV.bool)))):=H6.ext hhK;generalize upd h4 j (some (.cells ((Y5 w.length (l++[a])).map AV.bool)))=h6 at H6 hx6 ⊢;refine tV ?_;apply Y1 (w:=I ((a+1:Nat):Int)) rfl rfl trivial (by rw[w64 (by omega) (by omega)];rfl);apply Qg rfl rfl rfl (hv.mono RN.mono hx6) (show a+1<_ by omega);intro p c hp hc _;apply Ji rfl rfl hp (.one hc) (fun _=> .refl);apply Y1 (w:=I (w.getD (a+1) 0)) rfl rfl trivial (by have h4:=h3 (a+1);unfold I32 at h4;rw[hgd _ (by omega)]at h4 ⊢;rw[w64 (by omega) (by omega)]);apply Y1 (w:=I (2+w.getD (a+1) 0)) rfl rfl trivial (by rw[w64 (by omega) (by omega)]);apply Y1 (w:=I ((a+2+(w.getD (a+1) 0).toNat:Nat):Int)) rfl rfl trivial (by rw[w64 (by omega) (by omega)];congr 1;omega);refine tW ?_;refine⟨(a+2+(w.getD (a+1) 0).toNat,l++[a]),by simp only;omega,tU,rfl,H6,Ymt hs H2 HB⟩
end Go.Proofs
end
section
open Go Go.Abs Go.Proofs.SlimCode Go.Img
namespace Go.Img
open List
def RefP (l:List Nat) (x:Int):Prop:=x=0∨(1≤x∧(x-1).toNat∈l)
end Go.Img
set_option maxRecDepth 100000
namespace Go.Proofs
open List hiding nil
open Go.Proofs.Tryz
variable {w:List Int} {S l:List Nat} {a b:Nat} {g h:Ya}
theorem sl_kill{α:Type}{R:Ya→List AV→α→Prop}{s:Nat}{v:AV}{l:List α}(hR:∀h h' c a,R h c a→R h' c a)(H:Sl R s h v l)(hS:∀i∈Qm v,i∉S):Sl R s (Yv S h) v l:=by
 obtain⟨cs,c1,c2⟩:=H;refine⟨cs,?_,c2.imp fun c a=>hR _ _ c a⟩;generalize l.length=n at *;cases c1 with
 |nil=>exact .nil
 |tsl _ _ hl=>exact .tsl _ _ hl
 |sl id off _ os _ hi hc=>exact .sl id off _ os _ (by rw[Ky (hS id (by simp[Qm]))];exact hi) hc
theorem HObj.up{h':Ya}(H:HObj g h b w l)(hx:Ext h h'):HObj g h' b w l:=by
 obtain⟨v1,v2,h1,h2,h3,h4,h5,h6⟩:=H;exact⟨v1,v2,hx _ _ h1,h2,h3.mono RN.mono hx,h4.mono RB.mono hx,h5,h6⟩
theorem HObj.kill(H:HObj g h b w l)(hS:∀id∈S,g id≠none):HObj g (Yv S h) b w l:=by
 obtain⟨v1,v2,h1,h2,h3,h4,h5,h6⟩:=H;exact⟨v1,v2,by rw[Ky (fun hi=>hS b hi h2)];exact h1,h2,sl_kill (fun _ _ _ _ h=>h) h3 (fun i hi hs=>hS i hs (h5 i hi)),sl_kill (fun _ _ _ _ h=>h) h4 (fun i hi hs=>hS i hs (h6 i hi)),h5,h6⟩
theorem p134{a:Int}(H:HObj g h b w l)(hl:∀x∈l,Ob w x)(_hw:Len w):Looks prog ann 193 [.ptr b 0,I a] h (.bool (BP (0≤a∧a.toNat∈l))):=by
 obtain⟨v1,v2,hb,hg,s1,s2,i1,i2⟩:=H;have hx:Ext h h:= .refl;refine Yo rfl func193 Zw rfl ?_;refine tV ?_;refine oI (0≤a) (fun H1=>?_) (fun H1=>?_);rotate_left
 ·refine tW ?_;exact noB rfl (fun h=>H1 h.1) hx (by simp)
 refine tV ?_;apply Y2 rfl rfl hb (fun h=>by omega) rfl;refine tV ?_;apply Y0 rfl rfl s1;refine tV ?_;refine oI (a<w.length) (fun H2=>?_) (fun H2=>?_);rotate_left
 ·refine tW ?_;exact noB rfl (fun h=>by have:=(hl _ h.2).1;omega) hx (by simp)
 refine tV ?_;apply Y2 rfl rfl hb (fun h=>by omega) rfl;refine tV ?_;apply Qg (z:=a.toNat) rfl rfl (by rw[Int.toNat_of_nonneg H1];rfl) s2 (by rw[Qv];omega);intro p c hp hc _;refine tV ?_;apply Ji rfl rfl hp (.one hc) (fun h=>absurd h (by omega));rw[Yit];by_cases H3:a.toNat∈l;rotate_left
 ·rw[Zx H3];refine tW ?_;exact noB rfl (fun h=>H3 h.2) hx (by simp)
 rw[Zt H3];refine tW ?_;exact Ycf rfl ⟨H1,H3⟩ hx (by simp)
theorem p135(H:HObj g h b w l):Looks prog ann 77 [.ptr b 0] h (I w.length):=by
 obtain⟨v1,v2,hb,hg,s1,s2,i1,i2⟩:=H;refine Yo rfl func77 Zw rfl ?_;refine tW ?_;apply Y2 rfl rfl hb (fun h=>by omega) rfl;refine tV ?_;apply Y0 rfl rfl s1;refine tW ?_;exact Y3 (vs:=[I w.length]) rfl rfl rfl .refl (by simp)
theorem p136(H:HObj g h b w l)(hl:∀x∈l,Ob w x)(hw:Len w)(h32:∀x∈w,I32 x)(ha:a∈l):Looks prog ann 152 [.ptr b 0,I a] h (I (w.getD (a+1) 0)):=by
 have HH:=H;obtain⟨v1,v2,hb,hg,s1,s2,i1,i2⟩:=H;have hwl:=hw;unfold Len at hwl;have ha1:=(hl a ha).1;have hx:Ext h h:= .refl;refine Yo rfl func152 Zw rfl ?_;refine tV ?_;apply Yb rfl rfl rfl rfl (p134 HH hl hw).go;rintro _ k1 ⟨rfl,hy⟩;replace hx:=hx.trans hy;clear hy;rw[Ym (P:=0≤(a:Int)∧(a:Int).toNat∈l) ⟨by omega,by simpa using ha⟩];refine tW ?_;apply Y2 rfl rfl (hx _ _ hb) (fun h=>by omega) rfl;refine tV ?_;apply Y1 (w:=I ((a+1:Nat):Int)) rfl rfl trivial (by rw[w64 (by omega) (by omega)];rfl);apply Qg rfl rfl rfl (s1.mono RN.mono hx) (show a+1<w.length by omega);intro p c hp hc _;apply Ji rfl rfl hp (.one hc) (fun _=> .refl);have hgd:w.getD (a+1) 0=w[a+1]:=by rw[Zd,Zg (by omega)];rfl
 have h4:=h32 _ (getElem_mem (show a+1<w.length by omega));unfold I32 at h4;rw[hgd];apply Y1 (w:=I w[a+1]) rfl rfl trivial (by rw[w64 (by omega) (by omega)]);refine tW ?_;exact Y3 (vs:=[I w[a+1]]) rfl rfl rfl hx (by simp)
theorem p137(H:HObj g h b w l)(hl:∀x∈l,Ob w x)(hw:Len w)(h32:∀x∈w,I32 x)(ha:a∈l):Looks prog ann 154 [.ptr b 0,I a] h (I (w.getD (a) 0)):=by
 have HH:=H;obtain⟨v1,v2,hb,hg,s1,s2,i1,i2⟩:=H;have hwl:=hw;unfold Len at hwl;have ha1:=(hl a ha).1;have hx:Ext h h:= .refl;refine Yo rfl func154 Zw rfl ?_;refine tV ?_;apply Yb rfl rfl rfl rfl (p134 HH hl hw).go;rintro _ k1 ⟨rfl,hy⟩;replace hx:=hx.trans hy;clear hy;rw[Ym (P:=0≤(a:Int)∧(a:Int).toNat∈l) ⟨by omega,by simpa using ha⟩];refine tW ?_;apply Y2 rfl rfl (hx _ _ hb) (fun h=>by omega) rfl;refine tV ?_;apply Qg rfl rfl rfl (s1.mono RN.mono hx) (show a<w.length by omega);intro p c hp hc _;apply Ji rfl rfl hp (.one hc) (fun _=> .refl);have hgd:w.getD (a) 0=w[a]:=by rw[Zd,Zg (by omega)];rfl
 have h4:=h32 _ (getElem_mem (show a<w.length by omega));unfold I32 at h4;rw[hgd];apply Y1 (w:=I w[a]) rfl rfl trivial (by rw[w64 (by omega) (by omega)]);refine tW ?_;exact Y3 (vs:=[I w[a]]) rfl rfl rfl hx (by simp)
theorem p133{c:Nat}{x:Int}(H:HObj g h b w l)(hc:h c=some (.cells [.ptr b 0]))(hl:∀x∈l,Ob w x)(hw:Len w)(h32:I32 x):Looks prog ann 192 [.int .i32 x,.ptr c 0] h (.bool (BP (RefP l x))):=by
 unfold I32 at h32;have hx:Ext h h:= .refl;refine Yo rfl func192 Zw rfl ?_;refine tV ?_;refine oI (x=0) (fun H1=>?_) (fun H1=>?_)
 ·refine tW ?_;exact Ycf rfl (.inl H1) hx (by simp)
 refine tV ?_;apply Y2 rfl rfl hc (fun h=>by omega) rfl;refine tV ?_;apply Y1 (w:=I x) rfl rfl trivial (by rw[w64 (by omega) (by omega)]);refine tV ?_;apply Y1 (w:=I (x-1)) rfl rfl trivial (by rw[w64 (by omega) (by omega)]);refine tV ?_;apply Yb rfl rfl rfl rfl (p134 H hl hw).go;rintro _ k1 ⟨rfl,hy⟩;replace hx:=hx.trans hy;clear hy;by_cases H2:0≤x-1∧(x-1).toNat∈l;rotate_left
 ·rw[Yf H2];refine tW ?_;exact noB rfl (fun h=>h.elim H1 fun h=>H2 ⟨by omega,h.2⟩) hx (by simp)
 rw[Ym H2];refine tW ?_;exact Ycf rfl (.inr ⟨by omega,H2.2⟩) hx (by simp)
theorem p138{b1 b3 b5:Nat}{c:List AV}{m:Image}{i:Nat}(H:HObj g h b m.words l)(hc:RImg h c m)(hw:m.WF)(h1:h b1=some (.cells c))(h3:h b3=some (.cells [.ptr b 0]))(h5:h b5=some (.cells [.fn 192 [] [.ptr b3 0]]))(hl:∀x∈l,Ob m.words x)(hi:i<m.words.length):Looks prog ann 195 [I i,.ptr b5 0,.ptr b1 0] h (.bool (BP (RefP l (m.words.getD i 0)))):=by
 obtain⟨vc,vm,vg,vw,vr,vs,vf,rfl,v1,v2,v3,v4,v5,v6,v7⟩:=hc;have hgd:m.words.getD i 0=m.words[i]:=by rw[Zd,Zg hi];rfl
 rw[hgd];refine Yo rfl func195 Zw rfl ?_;refine tX ?_;refine tv ?_;refine tX ?_;apply Ybe (b5::b1::Qm vw) [.B,.A,.A,.B,.A,.A,.B,.D,.D] (by
  intro k hk;rcases mem_cons.1 hk with rfl|hk
  ·rw[h5];simp
  rcases mem_cons.1 hk with rfl|hk
  ·rw[h1];simp
  obtain⟨cs,c1,_⟩:=v4;exact c1.live k hk) rfl
 apply x_ld rfl rfl h5 (by simp) rfl;apply x_v rfl rfl trivial;apply x_v rfl rfl trivial;apply x_ld rfl rfl h1 (by simp) rfl;apply x_v rfl rfl trivial;apply Ymi rfl rfl rfl v4 hi (fun k hk=>by simp[hk]);intro p c hp hpi hc _;apply Yff rfl rfl hp hpi (.one hc);refine x_D (R:=fun E' bx' k=>E'=(12,.bool (BP (RefP l m.words[i])))::_∧bx'=[]∧Ext h k) (Yb rfl rfl rfl rfl (p133 H h3 hl hw.words.1 (hw.words.2 _ (getElem_mem hi))).go fun v k q=>X8 (by obtain⟨rfl,q⟩:=q;exact⟨rfl,rfl,rfl,q⟩)) ?_;rintro _ _ k1 ⟨rfl,rfl,hx⟩;refine⟨fun k hk=>?_,?_⟩
 ·rcases mem_cons.1 hk with rfl|hk
  ·rw[hx _ _ h5];simp
  rcases mem_cons.1 hk with rfl|hk
  ·rw[hx _ _ h1];simp
  obtain⟨cs,c1,_⟩:=v4;exact(c1.mono hx).live k hk
 refine x_D (R:=fun E' bx' k=>E'=(4,.bool (BP (RefP l m.words[i])))::_∧bx'=[]∧k=k1) (Yq rfl rfl trivial (X8 ⟨rfl,rfl,rfl,rfl⟩)) ?_;rintro _ _ _ ⟨rfl,rfl,rfl⟩;refine⟨fun k hk=>?_,?_⟩
 ·rcases mem_cons.1 hk with rfl|hk
  ·rw[hx _ _ h5];simp
  rcases mem_cons.1 hk with rfl|hk
  ·rw[hx _ _ h1];simp
  obtain⟨cs,c1,_⟩:=v4;exact(c1.mono hx).live k hk
 apply Yba;refine tW ?_;exact eqB rfl rfl hx (by simp)
end Go.Proofs
end
