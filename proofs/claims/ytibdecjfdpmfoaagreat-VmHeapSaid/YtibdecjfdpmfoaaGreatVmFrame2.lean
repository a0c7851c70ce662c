import Derived.Test.YtibdecjfdpmfoaaGreatVmHeap
open Go Go.Abs Go.Proofs.SlimCode Go.Img Go.Vm
set_option maxRecDepth 100000
namespace Go.Proofs
open List hiding cons nil
open Go.Proofs.Tryz
variable {v:AV} {i:Int} {ps:List (Nat×Nat)} {cs:List AV} {ls xs:List Int} {l:List Val} {n s:Nat} {L:OL} {α:Type} {enc:α→List AV}
variable {h g:Ya} {b:Nat} {u:Hp} {vw vs:AV} {a k n:Int} {Lw Ls:OL}
theorem p147k:Jj prog ann 147 [I k,I n] h (.bool (decide (Yme k n))):=by
 have hM:Yme k n↔0≤k∧k≤10000∧0≤n∧n≤1000:=Iff.rfl;refine Yz rfl func147 Zw rfl ?_;refine tM ?_;refine oI (0≤k) (fun H1=>?_) (fun H1=>?_)<;>refine tM ?_
 rotate_left
 ·exact kx rfl rfl (by rw[Zx fun h=>by have:=hM.1 h;omega];rfl)
 refine oI (k≤10000) (fun H2=>?_) (fun H2=>?_)<;>refine tM ?_
 rotate_left
 ·exact kx rfl rfl (by rw[Zx fun h=>by have:=hM.1 h;omega];rfl)
 refine oI (0≤n) (fun H3=>?_) (fun H3=>?_)<;>refine tM ?_
 rotate_left
 ·exact kx rfl rfl (by rw[Zx fun h=>by have:=hM.1 h;omega];rfl)
 refine oI (n≤1000) (fun H4=>?_) (fun H4=>?_)<;>refine tM ?_
 ·exact kx rfl rfl (by rw[Zt (hM.2 ⟨H1,H2,H3,H4⟩)];rfl)
 ·exact kx rfl rfl (by rw[Zx fun h=>by have:=hM.1 h;omega];rfl)
theorem enc_set1{l:List α}{z:Nat}{x:AV}{a:α}{js:List AV}(he:Enc enc 1)(hz:z<l.length)(hx:enc a=[x]):(l.flatMap enc++js).set z x=(l.set z a).flatMap enc++js:=by
 have h1:=(he l[z]).1;have:=enc_set (x:=x) (a:=a) (js:=js) he hz (show 0<1 by omega) (by
  rw[hx]
  match enc l[z],h1 with
  |[y],_=>rfl)
 rwa[Nat.mul_one,Nat.add_zero]at this
def HX (b:Nat) (n:Int) (vw vs:AV) (Lw Ls:OL):CL:=[[(b,.cells [I n,vw,vs])],Lw,Ls]
theorem v155{x:Int}(hw:SlE eW 1 vw u.w Lw)(hs:SlE eB 1 vs u.st Ls)(H:HOk u):HM prog ann 155 [.ptr b 0,I a,I i,.int .i32 x] g (HX b u.n vw vs Lw Ls) fun v ys _=>v= .bool (decide (0≤i∧i<u.len a))∧∃Lw',ys=HX b u.n vw vs Lw' Ls∧SlE eW 1 vw (u.put a i x).w Lw':=by
 intro G hg hD;have hn:=H.n;have hc:=H.cap;obtain⟨l1,l2,l3⟩:=H.len a;have V:HV (hset G (HX b u.n vw vs Lw Ls).flatten) b u vw vs:=⟨Yk hD (.head _),hw.sl encW (Xi (k:=1) hD rfl),hs.sl encB (Xi (k:=2) hD rfl)⟩;refine Yt rfl rfl func155 Zw rfl ?_;refine tM ?_;refine oI (i<0) (fun H1=>?_) (fun H1=>?_)
 ·refine tM ?_;refine hS0 (.tmp rfl .nil) rfl hD .refl ⟨?_,Lw,rfl,?_⟩
  ·rw[Zx (by omega)];rfl
  ·rw[Hp.put,if_neg (by omega)];exact hw
 refine tM ?_;apply Xh (p152k V H);refine tM ?_;refine oI (u.len a≤i) (fun H2=>?_) (fun H2=>?_)
 ·refine tM ?_;refine hS0 (.tmp rfl .nil) rfl hD .refl ⟨?_,Lw,rfl,?_⟩
  ·rw[Zx (by omega)];rfl
  ·rw[Hp.put,if_neg (by omega)];exact hw
 obtain⟨m,rfl,_,h2⟩:=l3 (by omega);obtain⟨k,rfl⟩:=Int.eq_ofNat_of_zero_le (Int.not_lt.1 H1);refine tM ?_;apply Y1 (w:=I ((m+2:Nat):Int)) rfl rfl trivial (by rw[w64 (by omega) (by omega)];rfl);refine tM ?_;apply Y1 (w:=I ((m+2+k:Nat):Int)) rfl rfl trivial (by rw[w64 (by omega) (by omega)];rfl);have h5:m+2+k<u.w.length:=by omega
 refine tM ?_;rcases hw with ⟨_,e,_⟩|⟨j,js,rfl,rfl⟩
 ·rw[e]at h5;cases h5
 apply Y1 (w:= .ptr j (m+2+k)) rfl rfl ⟨rfl,by omega,by omega⟩ (by simp only[AV.ptr.injEq,true_and];omega);apply Qs 1 hD rfl rfl rfl rfl rfl rfl (by rw[length_append,enc_len encW];omega);intro hD;refine tM ?_;refine hS0 (.tmp rfl .nil) rfl hD .refl ⟨?_,_,rfl,?_⟩
 ·rw[Zt (by omega)];rfl
 ·rw[Hp.put,if_pos (by omega),show((m:Int)+2+(k:Int)).toNat=m+2+k by omega];exact .inr ⟨j,js,by rw[length_set],by rw[enc_set1 (a:=x) encW h5 rfl]⟩
theorem v211(hw:SlE eW 1 vw u.w Lw)(hs:SlE eB 1 vs u.st Ls)(H:HOk u):HM prog ann 211 [.ptr b 0,I k,I n] g (HX b u.n vw vs Lw Ls) fun v ys _=>match u.make k n with
  |none=>v= .tup [I (-1),.bool false]∧ys=HX b u.n vw vs Lw Ls
  |some p=>v= .tup [I p.2,.bool true]∧∃vw' vs' Lw' Ls',ys=HX b p.1.n vw' vs' Lw' Ls'∧SlE eW 1 vw' p.1.w Lw'∧SlE eB 1 vs' p.1.st Ls':=by
 intro G hg hD;have hn:=H.n;have hc:=H.cap;have hst:=H.st;have ho:hset G (HX b u.n vw vs Lw Ls).flatten b=some (.cells [I u.n,vw,vs]):=Yk hD (.head _);have hM:Yme k n↔0≤k∧k≤10000∧0≤n∧n≤1000:=Iff.rfl;have no:¬(Yme k n∧n+2≤u.n-u.w.length)→u.make k n=none:=fun h=>if_neg h;refine Yt rfl rfl func211 Zw rfl ?_;refine tM ?_;refine Ke [(b,0,1,[I u.n]),(b,1,1,[vw])] [.C,.C,.C,.C,.C,.W,.C,.C,.C,.C,.C,.C,.C,.C,.L,.C,.C,.C,.L,.C,.C,.C,.C] (stbC hD (.head _) rfl (stbC hD (.head _) rfl .nil)) ?_;refine tD ?_;apply Ydz p147k;by_cases h1:Yme k n;rotate_left
 ·rw[Zx h1,no fun h=>h1 h.1];refine tD ?_;refine tM ?_;exact hS0 (.tmp rfl (.tmp rfl .nil)) rfl hD .refl ⟨rfl,rfl⟩
 rw[Zt h1];have h2:=hM.1 h1;refine tD ?_;apply Yia (w:=I (n+2)) rfl trivial (by rw[w64 (by omega) (by omega)]);refine tD ?_;apply Yia (w:=I (u.n-u.w.length)) rfl trivial (by rw[w64 (by omega) (by omega)]);refine tD ?_;refine dI (u.n-u.w.length<n+2) (fun h3=>?_) (fun h3=>?_)
 ·rw[no (by omega)];refine tD ?_;refine tM ?_;exact hS0 (.tmp rfl (.tmp rfl .nil)) rfl hD .refl ⟨rfl,rfl⟩
 refine tD ?_;refine tM ?_;rw[show u.make k n=_ from if_pos ⟨h1,by omega⟩];apply Y1 (w:= .int .i32 k) rfl rfl trivial (by rw[w32 (by omega) (by omega)]);refine tM ?_;apply Y1 (w:= .int .i32 n) rfl rfl trivial (by rw[w32 (by omega) (by omega)]);refine tM ?_;apply Ydx (m:=[k,n]) 1 encW hw hD rfl rfl rfl rfl rfl rfl (by show(u.w.length+2)*5≤_;omega);intro vw1 Lw1 hw1 hD;refine tM ?_;have l1:(u.w++[k,n]).length=u.w.length+2:=by simp
 apply o_appzE 1 (0:Int) encW rfl (by omega) hw1 hD rfl rfl rfl rfl rfl (by omega) (by omega) (by rw[l1];omega);intro vw2 Lw2 hw2 hD;refine tM ?_;apply Qs 0 hD rfl rfl rfl rfl rfl hw2.one (show 1<3 by decide);intro hD;refine tM ?_;apply Ydx (m:=[true]) 2 encB hs hD rfl rfl rfl rfl rfl rfl (by show(u.st.length+1)*2≤_;omega);intro vs1 Ls1 hs1 hD;refine tM ?_;have l2:(u.st++[true]).length=u.st.length+1:=by simp
 apply Y1 (w:=I (n+1)) rfl rfl trivial (by rw[w64 (by omega) (by omega)]);apply o_appzE 2 false encB rfl (by omega) hs1 hD rfl rfl rfl rfl rfl (by omega) (by omega) (by rw[l2];omega);intro vs2 Ls2 hs2 hD;refine tM ?_;apply Qs 0 hD rfl rfl rfl rfl rfl hs2.one (show 2<3 by decide);intro hD;refine tM ?_;exact hS0 (.tmp rfl (.tmp rfl .nil)) rfl hD .refl ⟨rfl,vw2,vs2,Lw2,Ls2,rfl,hw2,hs2⟩
variable {h g:Ya} {a:Ac} {f:Fm}
theorem v40(hF:h a.fi=some (.cells (a.F f))):Jj prog ann 40 [.ptr a.fi 0] h (I f.pc):=by
 refine Yt rfl rfl func40 Zw rfl ?_;refine tM ?_;exact Xd (.tmp rfl .nil) rfl ⟨rfl,Yl⟩
theorem v199{p:Int}:HM prog ann 199 [.ptr a.fi 0,I p] g [[(a.fi,.cells (a.F f))]] fun _ ys _=>ys=[[(a.fi,.cells (a.F {f with pc:=p}))]]:=by
 intro G hg hD;refine Yt rfl rfl func199 Zw rfl ?_;refine tM ?_;apply Qs 0 hD rfl rfl rfl rfl rfl rfl (show 1<5 by decide);intro hD;refine tM ?_;exact hSn rfl hD .refl rfl
theorem v166{v:AV}{cs:List AV}{n:Nat}(hv:VSl h 2 v cs n)(ho:cs.all AV.one=true)(hn:n≤1000):HCallC prog ann 166 [v] h fun w h'=>TSl 2 w cs n∧h'=h:=by
 have hl:=hv.len;refine Yt rfl rfl func166 Zw rfl ?_;cases hv with
 |nil=>
  refine tM ?_;exact Xd (.tmp rfl .nil) rfl ⟨.nil,Yl⟩
 |tsl _ _ hl=>
  refine tM ?_;apply Ync rfl rfl rfl;intro i hi;refine tM ?_;apply o_appT rfl rfl rfl (HasSl.sl i [] 0 hi rfl) (Yiv (.tsl _ _ hl)) hl ho (by omega) (.inl rfl) (fun h=>absurd h (by decide));intro w hw;refine tM ?_;exact Xd (.tmp rfl .nil) rfl ⟨by show TSl 2 w cs n;simpa using hw,Yl⟩
 |sl id off _ os _ hid hc=>
  refine tM ?_;apply Ync rfl rfl rfl;intro i hi;refine tM ?_;have hne:id≠i:=live_ne hid hi |>.symm
  apply o_appT rfl rfl rfl (HasSl.sl i [] 0 hi rfl) (Yiv (.sl id off n os cs (by rw[Ys hne];exact hid) hc)) hl ho (by omega) (.inl rfl) (fun h=>absurd h (by decide));intro w hw;refine tM ?_;exact Xd (.tmp rfl .nil) rfl ⟨by show TSl 2 w cs n;simpa using hw,Yl⟩
def FX (a:Ac) (f:Fm):CL:=[[(a.fi,.cells (a.F f))],a.Lk]
def TV (v:AV) (l:List Val):Prop:=TSl 2 v (l.flatMap eV) l.length
theorem Yjk(he:Enc enc s):∀(l:List α) (k:Nat),(l.flatMap enc).drop (k*s)=(l.drop k).flatMap enc
 |[],k=>by simp
 |a::l,0=>by simp
 |a::l,k+1=>by rw[flatMap_cons,drop_append,(he a).1,drop_of_length_le (by rw[(he a).1,Nat.add_mul];omega),nil_append,show(k+1)*s-s=k*s by rw[Nat.add_mul];omega,drop_succ_cons,Yjk he l k]
theorem v92{n:Nat}(hk:SlE eV 2 a.vk f.stk a.Lk)(hr:f.stk.length≤16)(hn:n≤16):HM prog ann 92 [.ptr a.fi 0,I n] g (FX a f) fun v ys _=>if f.stk.length<n then v= .tup [.nil .sl,.bool false]∧ys=FX a f else ∃w,v= .tup [w,.bool true]∧TV w (f.top n)∧∃vk',ys=FX {a with vk:=vk'} (f.pop n)∧SlE eV 2 vk' (f.pop n).stk a.Lk:=by
 intro G hg hD;refine Yt rfl rfl func92 Zw rfl ?_;refine tM ?_;refine oI ((f.stk.length:Int)<n) (fun H2=>?_) (fun H2=>?_)
 ·refine tM ?_;refine hS0 (.tmp rfl (.tmp rfl .nil)) rfl hD .refl ?_;rw[if_pos (by omega)];exact⟨rfl,rfl⟩
 refine tM ?_;apply Y1 (w:=I ((f.stk.length-n:Nat):Int)) rfl rfl trivial (by rw[w64 (by omega) (by omega)];congr 1;omega);refine tM ?_;have V:=hk.vsl Yh9 (Xi (k:=1) hD rfl);apply o_sltV (l:=((f.stk.length-n:Nat):Int)) (m:=f.stk.length) rfl rfl V rfl rfl (by omega) (by omega) (by omega);intro w hw;have e1:((f.stk.flatMap eV).take (((f.stk.length:Nat):Int).toNat*2)).drop (((f.stk.length-n:Nat):Int).toNat*2)=(f.top n).flatMap eV:=by
  rw[Zn,Zn,Zk (by rw[enc_len Yh9];omega),Yjk Yh9];rfl
 have e2:((f.stk.length:Nat):Int).toNat-((f.stk.length-n:Nat):Int).toNat=(f.top n).length:=by unfold Fm.top;rw[length_drop,Zn,Zn]
 rw[e1,e2]at hw;have l1:(f.top n).length=n:=by unfold Fm.top;rw[length_drop];omega
 apply Yb rfl rfl rfl rfl (v166 hw (Yl4 Yh9 _) (by omega));rintro t _ ⟨ht,rfl⟩;refine tM ?_;apply o_sltE Yh9 hk (Nat.sub_le _ _) rfl rfl rfl;intro vk hvk;refine tM ?_;apply Qs 0 hD rfl rfl rfl rfl rfl hvk.one (show 4<5 by decide);intro hD;refine tM ?_;refine hS0 (.tmp rfl (.tmp rfl .nil)) rfl hD .refl ?_;rw[if_neg (by omega)];exact⟨t,rfl,ht,vk,rfl,hvk⟩
theorem srcT{h:Ya}(hv:TV v l):Yaf 2 h v=some (l.flatMap eV,l.length):=srcOf_T hv
theorem v90(hk:SlE eV 2 a.vk f.stk a.Lk)(hr:f.stk.length≤16)(h16:0≤f.room∧f.room≤16)(hv:TV v l)(_hl:l.length≤16):HM prog ann 90 [.ptr a.fi 0,v] g (FX a f) fun w ys _=>w= .bool (f.fits l.length)∧∃vk' Lk',ys=FX {a with vk:=vk',Lk:=Lk'} (f.push l)∧SlE eV 2 vk' (f.push l).stk Lk':=by
 intro G hg hD;refine Yt rfl rfl func90 Zw rfl ?_;refine tM ?_;refine Ke [(a.fi,2,1,[I f.room]),(a.fi,4,1,[a.vk])] [.C,.C,.C,.C,.C,.C,.C,.C,.L,.C,.C,.C,.L,.C,.C,.C,.C] (stbC hD (.head _) rfl (stbC hD (.head _) rfl .nil)) ?_;refine tD ?_;apply Yia (w:=I (f.room-f.stk.length)) rfl trivial (by rw[w64 (by omega) (by omega)]);refine tD ?_;refine dI (f.room-f.stk.length<l.length) (fun h3=>?_) (fun h3=>?_)
 ·have e:f.fits l.length=false:=Zx (by omega);refine tD ?_;refine tM ?_;refine hS0 (.tmp rfl .nil) rfl hD .refl ⟨by rw[e];rfl,a.vk,a.Lk,?_⟩;unfold Fm.push;rw[e];exact⟨rfl,hk⟩
 have e:f.fits l.length=true:=Zt (by omega);have e2:f.push l={f with stk:=f.stk++l}:=if_pos e;rw[e,e2];refine tD ?_;refine tM ?_;apply Ydx 1 Yh9 hk hD rfl rfl rfl rfl rfl (srcT hv) (by omega);intro vk' Lk' hk' hD;refine tM ?_;apply Qs 0 hD rfl rfl rfl rfl rfl hk'.one (show 4<5 by decide);intro hD;refine tM ?_;exact hS0 (.tmp rfl .nil) rfl hD .refl ⟨rfl,vk',Lk',rfl,hk'⟩
theorem v165(hF:h a.fi=some (.cells (a.F f)))(hl:SlE eV 2 a.vl f.loc a.Ll):Jj prog ann 165 [.ptr a.fi 0,I i] h (.bool (decide (0≤i∧i<f.loc.length))):=by
 refine Yt rfl rfl func165 Zw rfl ?_;refine tM ?_;refine oI (0≤i) (fun H1=>?_) (fun H1=>?_);rotate_left
 ·refine tM ?_;exact Xd (.tmp rfl .nil) rfl ⟨by rw[Zx (by omega)];rfl,Yl⟩
 refine tM ?_;refine oI (i<f.loc.length) (fun H2=>?_) (fun H2=>?_)
 ·refine tM ?_;exact Xd (.tmp rfl .nil) rfl ⟨by rw[Zt ⟨H1,H2⟩];rfl,Yl⟩
 ·refine tM ?_;exact Xd (.tmp rfl .nil) rfl ⟨by rw[Zx (by omega)];rfl,Yl⟩
theorem v89(hF:h a.fi=some (.cells (a.F f)))(hl:SlE eV 2 a.vl f.loc a.Ll)(hh:Has h a.Ll):Jj prog ann 89 [.ptr a.fi 0,I i] h (.tup [.agg (eV (f.load i)),.bool (decide (0≤i∧i<f.loc.length))]):=by
 refine Yt rfl rfl func89 Zw rfl ?_;refine tM ?_;show Yu _ _ _ _ _ _ _ _ _ (hset h []) _;apply Kc Yfy rfl;intro b hD;refine tM ?_;have hF':=Yr hD _ _ hF;apply Xh (v165 hF' hl);by_cases H:0≤i∧i<f.loc.length;rotate_left
 ·rw[Zx H];refine tM ?_;refine o_stW 0 hD rfl rfl rfl rfl rfl rfl rfl rfl fun hD=>?_;refine tM ?_;refine Xd (.cells (m:=2) rfl (by kernel_rfl) (Xp (k:=0) hD rfl) rfl (.tmp rfl .nil)) rfl ⟨?_,Kw hD⟩;rw[Fm.load,if_neg H];rfl
 rw[Zt H];obtain⟨n,rfl⟩:=Int.eq_ofNat_of_zero_le H.1;refine tM ?_;apply Qg rfl rfl rfl (hl.sl Yh9 (hh.up (Yr hD))) (show n<_ by omega);intro p d hp hd _;obtain rfl:d=eV _:=hd;refine tM ?_;refine o_stW 0 hD rfl rfl rfl rfl rfl rfl rfl rfl fun hD=>?_;refine tM ?_;refine Xd (.cells (m:=2) rfl (by kernel_rfl) (Xp (k:=0) hD rfl) rfl (.tmp rfl .nil)) rfl ⟨?_,Kw hD⟩;rw[Fm.load,if_pos H,Zn,←atD (by omega)];rfl
variable {h g:Ya} {a:Ac} {f:Fm}
theorem v88{k lc st:Int}(h1:0≤lc∧lc≤16)(h2:0≤st∧st≤16)(hv:TV v l)(hl:(l.length:Int)≤lc):HM prog ann 88 [I k,I lc,I st,v] g [] fun w ys _=>∃i vl Ll,w= .ptr i 0∧ys=[[(i,.cells [I k,I 0,I st,vl,.nil .sl])],Ll]∧SlE eV 2 vl (l++List.replicate (lc.toNat-l.length) (false,0)) Ll:=by
 intro G hg hD;refine Yt rfl rfl func88 Zw rfl ?_;refine tM ?_;refine oI (lc<0) (fun H=>by omega) (fun _=>?_);refine tM ?_;refine oI (16<lc) (fun H=>by omega) (fun _=>?_);refine tM ?_;refine oI (st<0) (fun H=>by omega) (fun _=>?_);refine tM ?_;refine oI (16<st) (fun H=>by omega) (fun _=>?_);refine tM ?_;refine oI (lc<l.length) (fun H=>by omega) (fun _=>?_);refine tM ?_;refine o_mkC hD rfl rfl rfl h1.1 (by omega) fun j hD=>?_;have ez:X6 [.bool false,.int .i32 0] (lc.toNat*2)=(List.replicate lc.toNat ((false,0):Val)).flatMap eV:=by
  rw[show lc.toNat*2=lc.toNat*([.bool false,.int .i32 0]:List AV).length from rfl,Yg2 (by decide),flatMap_def,map_replicate];rfl
 rw[ez]at hD ⊢;refine tM ?_;refine Ylo hD rfl rfl rfl fun i hD=>?_;refine tM ?_;have en:(l.flatMap eV).take (min l.length lc.toNat*2)=l.flatMap eV:=Zk (by rw[enc_len Yh9,Nat.min_eq_left (by omega)];omega);refine o_cpC 1 hD rfl rfl (by decide) rfl rfl rfl (srcT hv) (enc_len Yh9 l) (by rw[en];exact Yl4 Yh9 l) (cs':=(l++List.replicate (lc.toNat-l.length) ((false,0):Val)).flatMap eV) (by
  rw[en];unfold Ql;rw[if_pos (by rw[enc_len Yh9,enc_len Yh9,length_replicate];omega),take_zero,nil_append,Nat.zero_add,enc_len Yh9,Yjk Yh9,drop_replicate,flatMap_append]) fun hD=>?_
 refine tM ?_;exact hS0 (.tmp rfl .nil) rfl hD .refl ⟨i,_,_,rfl,rfl,.inr ⟨j,[],by rw[length_append,length_replicate];congr 1;omega,by rw[append_nil]⟩⟩
def eQ (p:Nat×Nat):List AV:=[.ptr p.1 p.2]
theorem encQ:Enc eQ 1:=fun _=>⟨rfl,rfl⟩
def Yb9 (v:AV) (l:List Val) (n:Nat):List (Nat×Nat):=match v with
 |.sl i _ _ _=>((List.range n).filter fun z=>(l.getD z (false,0)).1).map fun z=>(i,z*2)
 |_=>[]
theorem Ykh{v:AV}{l:List Val}{L:OL}{n:Nat}(H:SlE eV 2 v l L)(hn:n<l.length):∃i js,v= .sl i 0 l.length 2∧L=[(i,.cells (l.flatMap eV++js))]∧Yb9 v l (n+1)=Yb9 v l n++(if l[n].1=true then [(i,n*2)] else []):=by
 rcases H with ⟨_,rfl,_⟩|⟨i,js,rfl,rfl⟩
 ·cases hn
 ·refine⟨i,js,rfl,rfl,?_⟩;show List.map _ _=List.map _ _++_;rw[range_succ,filter_append,map_append]
  congr 1
  have e:l[n]=l[n]?.getD (false,0):=by rw[Zg hn];rfl
  rw[e];cases h:(l[n]?.getD (false,0)).1<;>simp[h,List.filter]
theorem Yck{v:AV}{l:List Val}{n:Nat}:(Yb9 v l n).length≤n:=by
 unfold Yb9;split
 ·rw[length_map];exact Nat.le_trans (length_filter_le _ _) (by simp)
 ·exact Nat.zero_le _
def Yc9 (a:Ac) (f:Fm):Nat→List (Nat×Nat)
 |0=>[]
 |1=>Yb9 a.vl f.loc f.loc.length
 |_=>Yb9 a.vl f.loc f.loc.length++Yb9 a.vk f.stk f.stk.length
theorem v156(hF:h a.fi=some (.cells (a.F f)))(hl:SlE eV 2 a.vl f.loc a.Ll)(hk:SlE eV 2 a.vk f.stk a.Lk)(h1:Has h a.Ll)(h2:Has h a.Lk)(h3:f.loc.length≤16)(h4:f.stk.length≤16):HCallC Tryz.prog ann 156 [.ptr a.fi 0] h fun w h'=>TSl 1 w ((Yc9 a f 2).flatMap eQ) (Yc9 a f 2).length∧h'=h:=by
 refine Ye4 rfl rfl Tryz.func156 (frc (by with_unfolding_all rfl)) rfl ?_;refine tM ?_;refine Ke [(a.fi,3,1,[a.vl]),(a.fi,4,1,[a.vk])] [.C,.C,.C,.L,.C,.C,.C,.L,.C,.C] (Ybs hF rfl (Ybs hF rfl .nil)) ?_;refine tD ?_;apply d_bld rfl (Abs.fill_one rfl hl.one rfl (Abs.fill_one rfl hk.one rfl fill_nil));refine tD ?_;refine tM ?_;refine Xv (fun s:Nat×AV×OL=>[(0,.ptr a.fi 0),(3,s.2.1),(17,.agg [a.vl,a.vk]),(18,I s.1)]) (fun s h'=>s.1≤2∧SlE eQ 1 s.2.1 (Yc9 a f s.1) s.2.2∧h'=hset h ([s.2.2]:CL).flatten∧Dis h ([s.2.2]:CL).flatten) (fun s=>2-s.1) (0,.nil .sl,[]) tU ⟨by omega,.inl ⟨rfl,rfl,rfl⟩,rfl,trivial⟩ ?_;rintro⟨j,w,L⟩ _ ⟨hj,hw,rfl,hD⟩;simp only at hj hw hD ⊢;refine tM ?_;refine oI (j<2) (fun H=>?_) (fun H=>?_);rotate_left
 ·obtain rfl:j=2:=by omega
  refine tM ?_;obtain⟨t,t1,t2⟩:=fz_SlE encQ (fun _ _ _ hx=>by obtain rfl:=List.mem_singleton.1 hx;rfl) hw hD;exact Yns (vs:=[w]) (.tmp rfl .nil) rfl t1 ⟨t2,Yl⟩
 refine tM ?_;obtain⟨v,l,Lv,e1,e2,hv,hh,hl16⟩:∃v l Lv,([a.vl,a.vk]:List AV)[j]?=some v∧Yc9 a f j++Yb9 v l l.length=Yc9 a f (j+1)∧SlE eV 2 v l Lv∧Has h Lv∧l.length≤16:=by
  obtain rfl|rfl:j=0∨j=1:=by omega
  ·exact⟨a.vl,f.loc,a.Ll,rfl,rfl,hl,h1,h3⟩
  ·exact⟨a.vk,f.stk,a.Lk,rfl,rfl,hk,h2,h4⟩
 apply Y1 (w:=v) rfl rfl ⟨by omega,by omega,by simp;omega⟩ (by rw[List.getD_eq_getElem?_getD,Nat.mul_one,Int.toNat_natCast,e1];rfl);refine tM ?_;refine Xv (fun s:Nat×AV×OL=>[(0,.ptr a.fi 0),(3,s.2.1),(17,.agg [a.vl,a.vk]),(18,I j),(5,v),(22,I l.length),(23,I s.1)]) (fun s h'=>s.1≤l.length∧SlE eQ 1 s.2.1 (Yc9 a f j++Yb9 v l s.1) s.2.2∧h'=hset h ([s.2.2]:CL).flatten∧Dis h ([s.2.2]:CL).flatten) (fun s=>l.length-s.1) (0,w,L) tU ⟨by omega,?_,rfl,hD⟩ ?_
 ·have:Yb9 v l 0=[]:=by unfold Yb9;split<;>rfl
  rw[this,List.append_nil];exact hw
 clear hw hD;rintro⟨z,w,L⟩ _ ⟨hz,hw,rfl,hD⟩;simp only at hz hw hD ⊢;refine tM ?_;refine oI (z<l.length) (fun H2=>?_) (fun H2=>?_);rotate_left
 ·obtain rfl:z=l.length:=by omega
  refine tM ?_;apply Y1 (w:=I ((j+1:Nat):Int)) rfl rfl trivial (by rw[w64 (by omega) (by omega)];rfl);refine tM ?_;exact⟨(j+1,w,L),by simp only;omega,tU,rfl,by simp only;omega,by rw[e2]at hw;exact hw,rfl,hD⟩
 obtain⟨i,js,rfl,hLv,e3⟩:=Ykh hv H2;refine tM ?_;have hi:hset h ([L]:CL).flatten i=some (.cells (l.flatMap eV++js)):=Yr hD _ _ (hh _ (by rw[hLv];exact .head _));apply Y1 (w:= .ptr i (z*2)) rfl rfl ⟨rfl,by omega,by omega⟩ (by simp);refine tM ?_;refine Y2 rfl rfl hi (fun h=>absurd h (by decide)) (J8 Yh9 H2 (show 0<2 by decide)) ?_;refine tM ?_;have l3:(Yc9 a f j++Yb9 (.sl i 0 l.length 2) l z).length≤48:=by
  have h5:(Yc9 a f j).length≤32:=by
   obtain rfl|rfl:j=0∨j=1:=by omega
   ·exact Nat.zero_le _
   ·exact Nat.le_trans Yck (by omega)
  have h6:=Yck (v:= .sl i 0 l.length 2) (l:=l) (n:=z);rw[List.length_append];omega
 cases hb:l[z].1 with
 |false=>
  rw[hb,if_neg (by simp),List.append_nil]at e3;refine tM ?_;apply Y1 (w:=I ((z+1:Nat):Int)) rfl rfl trivial (by rw[w64 (by omega) (by omega)];rfl);refine tM ?_;exact⟨(z+1,w,L),by simp only;omega,tU,rfl,by simp only;omega,by rw[e3];exact hw,rfl,hD⟩
 |true=>
  rw[hb,if_pos rfl]at e3;refine tM ?_;apply Y1 (w:= .ptr i (z*2)) rfl rfl ⟨rfl,by omega,by omega⟩ (by simp);refine tM ?_;refine Ydx (m:=[(i,z*2)]) 0 encQ hw hD rfl rfl rfl rfl rfl rfl (by show(_+1)*9≤_;omega) fun w' L' hw' hD=>?_;refine tM ?_;apply Y1 (w:=I ((z+1:Nat):Int)) rfl rfl trivial (by rw[w64 (by omega) (by omega)];rfl);refine tM ?_;exact⟨(z+1,w',L'),by simp only;omega,tU,rfl,by simp only;omega,by rw[e3,←List.append_assoc];exact hw',rfl,hD⟩
inductive PR (h:Ya):List (Nat×Nat)→List Int→Prop where
 |nil:PR h [] []
 |cons {p:Nat×Nat} {x:Int} {ps:List (Nat×Nat)} {xs:List Int} {cs:List AV} (h1:h p.1=some (.cells cs)) (h2:cs[p.2+1]?=some (.int .i32 x)) (H:PR h ps xs):PR h (p::ps) (x::xs)
theorem PR.app{qs:List (Nat×Nat)}{ys:List Int}(H:PR h ps xs)(H2:PR h qs ys):PR h (ps++qs) (xs++ys):=by
 induction H with
 |nil=>exact H2
 |cons h1 h2 _ ih=>exact .cons h1 h2 ih
theorem PR.len(H:PR h ps xs):ps.length=xs.length:=by
 induction H with
 |nil=>rfl
 |cons _ _ _ ih=>rw[length_cons,length_cons,ih]
theorem PR.get(H:PR h ps xs):∀{j:Nat} (hj:j<ps.length) (hx:j<xs.length),∃cs,h ps[j].1=some (.cells cs)∧cs[ps[j].2+1]?=some (.int .i32 xs[j]):=by
 induction H with
 |nil=>intro j hj;cases hj
 |cons h1 h2 _ ih=>
  intro j hj hx;cases j with
  |zero=>exact⟨_,h1,h2⟩
  |succ j=>exact ih (by simpa using hj) (by simpa using hx)
def vals (l:List Val):List Int:=(l.filter (·.1)).map (·.2)
theorem Ymx(l:List Val):Jh l=(vals l).map (· - 1):=by unfold Jh vals;rw[map_map];rfl
theorem Yon{v:AV}{l:List Val}{L:OL}(H:SlE eV 2 v l L)(hh:Has h L):∀{n:Nat},n≤l.length→PR h (Yb9 v l n) (vals (l.take n))
 |0,_=>by
  have:Yb9 v l 0=[]:=by unfold Yb9;split<;>rfl
  rw[this];exact .nil
 |n+1,hn=>by
  obtain⟨i,js,rfl,rfl,e⟩:=Ykh H (show n<_ by omega);rw[e,take_succ_eq_append_getElem (by omega)];unfold vals;rw[filter_append,map_append];refine(Yon H hh (by omega)).app ?_;have hc:=J8 (js:=js) Yh9 (show n<l.length by omega) (show 1<2 by decide);cases hb:l[n].1 with
  |false=>rw[if_neg (by simp)];simp only[List.filter,hb];exact .nil
  |true=>rw[if_pos rfl];simp only[List.filter,hb];exact .cons (hh _ (.head _)) hc .nil
theorem ptrs2_PR(hl:SlE eV 2 a.vl f.loc a.Ll)(hk:SlE eV 2 a.vk f.stk a.Lk)(h1:Has h a.Ll)(h2:Has h a.Lk):PR h (Yc9 a f 2) (vals f.loc++vals f.stk):=by
 have e1:=Yon hl h1 (Zl _);have e2:=Yon hk h2 (Zl _);rw[take_length]at e1 e2;exact e1.app e2
theorem Yd5{s n:Nat}{v:AV}{cs:List AV}(H:TSl s v cs n)(h:0<n):v= .tsl cs n:=by
 cases H with
 |nil=>omega
 |tsl=>rfl
theorem v79(hF:h a.fi=some (.cells (a.F f)))(hl:SlE eV 2 a.vl f.loc a.Ll)(hk:SlE eV 2 a.vk f.stk a.Lk)(h1:Has h a.Ll)(h2:Has h a.Lk)(h3:f.loc.length≤16)(h4:f.stk.length≤16)(h5:∀x∈f.loc++f.stk,I32 x.2):HCallC Tryz.prog ann 79 [.ptr a.fi 0] h fun w h'=>TSl 1 w (f.refs.flatMap eI) f.refs.length∧h'=h:=by
 have hp:=ptrs2_PR hl hk h1 h2;have hpl:=hp.len;generalize hxs:vals f.loc++vals f.stk=xs at hp hpl;have hr:f.refs=xs.map (· - 1):=by rw[←hxs,List.map_append,←Ymx,←Ymx];rfl
 have hx32:∀x∈xs,I32 x:=by
  rw[←hxs];intro x hx;unfold vals at hx;rw[←List.map_append,←List.filter_append]at hx;obtain⟨y,hy,rfl⟩:=List.mem_map.1 hx;exact h5 y (List.mem_filter.1 hy).1
 have hx48:xs.length≤32:=by
  have e1:=Yck (v:=a.vl) (l:=f.loc) (n:=f.loc.length);have e2:=Yck (v:=a.vk) (l:=f.stk) (n:=f.stk.length);have:(Yc9 a f 2).length=_:=List.length_append;omega
 refine Ye4 rfl rfl Tryz.func79 (frc (by with_unfolding_all rfl)) rfl ?_;refine tM ?_;apply Yb rfl rfl rfl rfl (v156 hF hl hk h1 h2 h3 h4);rintro t _ ⟨ht,e⟩;rw[e,hr];clear e;generalize Yc9 a f 2=ps at hp hpl ht;refine tM ?_;refine Xv (fun s:Nat×AV×OL=>[(3,s.2.1),(7,t),(8,I ps.length),(9,I s.1)]) (fun s h'=>s.1≤ps.length∧SlE eI 1 s.2.1 ((xs.map (· - 1)).take s.1) s.2.2∧h'=hset h ([s.2.2]:CL).flatten∧Dis h ([s.2.2]:CL).flatten) (fun s=>ps.length-s.1) (0,.nil .sl,[]) tU ⟨by omega,.inl ⟨rfl,rfl,rfl⟩,rfl,trivial⟩ ?_;rintro⟨j,w,L⟩ _ ⟨hj,hw,rfl,hD⟩;simp only at hj hw hD ⊢;refine tM ?_;refine oI (j<ps.length) (fun H=>?_) (fun H=>?_);rotate_left
 ·obtain rfl:j=ps.length:=by omega
  rw[List.take_of_length_le (by rw[List.length_map];omega)]at hw;refine tM ?_;obtain⟨t,t1,t2⟩:=fz_SlE Yrw (fun _ _ _ hx=>by obtain rfl:=List.mem_singleton.1 hx;rfl) hw hD;exact Yns (vs:=[w]) (.tmp rfl .nil) rfl t1 ⟨t2,Yl⟩
 obtain⟨cs,c1,c2⟩:=hp.get H (by omega);have hx:I32 xs[j]:=hx32 _ (List.getElem_mem _);unfold I32 at hx;obtain rfl:=Yd5 ht (by omega);refine tM ?_;apply Y1 (w:= .tptr (ps.flatMap eQ) j) rfl rfl ⟨by omega,by omega⟩ (by simp);refine tM ?_;refine Ynb rfl rfl (v:= .ptr ps[j].1 ps[j].2) (by have:=J8 (js:=[]) encQ H (show 0<1 by decide);rw[List.append_nil,Nat.mul_one,Nat.add_zero]at this;exact this) ?_;have hi:hset h ([L]:CL).flatten ps[j].1=some (.cells cs):=Yr hD _ _ c1;refine tM ?_;refine Y2 rfl rfl hi (fun h=>absurd h (by decide)) c2 ?_;refine tM ?_;apply Y1 (w:=I xs[j]) rfl rfl trivial (by rw[w64 (by omega) (by omega)]);refine tM ?_;apply Y1 (w:=I (xs[j]-1)) rfl rfl trivial (by rw[w64 (by omega) (by omega)]);refine tM ?_;refine Ydx (m:=[xs[j]-1]) 0 Yrw hw hD rfl rfl rfl rfl rfl rfl (by rw[List.length_take];show(_+1)*9≤_;omega) fun w' L' hw' hD=>?_;refine tM ?_;apply Y1 (w:=I ((j+1:Nat):Int)) rfl rfl trivial (by rw[w64 (by omega) (by omega)];rfl);refine tM ?_;exact⟨(j+1,w',L'),by simp only;omega,tU,rfl,by simp only;omega,by rw[List.take_succ_eq_append_getElem (by rw[List.length_map];omega),List.getElem_map];exact hw',rfl,hD⟩
def Ylk:List Val→Nat→List Nat
 |[],_=>[]
 |v::vs,k=>if v.1=true then k::Ylk vs (k+1) else Ylk vs (k+1)
theorem Ym1:∀(l:List Val) (v:Val) (k:Nat),Ylk (l++[v]) k=Ylk l k++(if v.1=true then [k+l.length] else [])
 |[],v,k=>by simp[Ylk]
 |u::l,v,k=>by
  rw[cons_append,Ylk,Ylk,Ym1 l v (k+1),length_cons,show k+1+l.length=k+(l.length+1) by omega];split<;>simp
theorem Yi0:∀(l:List Val) (k:Nat),(Ylk l k).length=(Jh l).length
 |[],_=>rfl
 |(true,x)::l,k=>by show(k::Ylk l (k+1)).length=_;rw[length_cons,Yi0 l];rfl
 |(false,x)::l,k=>Yi0 l (k+1)
theorem Ylj{i o s:Nat}{l:List Val}:∀{n:Nat},n≤l.length→Yb9 (.sl i o l.length s) l n=(Ylk (l.take n) 0).map fun z=>(i,z*2)
 |0,_=>rfl
 |n+1,hn=>by
  have ih:=Ylj (i:=i) (o:=o) (s:=s) (l:=l) (n:=n) (by omega);rw[take_succ_eq_append_getElem (by omega),Ym1,map_append,←ih];show List.map _ _=List.map _ _++_;rw[range_succ,filter_append,map_append]
  congr 1
  have e:l[n]=l[n]?.getD (false,0):=by rw[Zg (by omega)];rfl
  rw[e,length_take,Nat.min_eq_left (by omega)];cases h:(l[n]?.getD (false,0)).1<;>simp[h,List.filter]
theorem Yc4:∀(l:List Val) (a:List Int),(Yg7 l a).length=l.length
 |[],_=>rfl
 |(true,_)::vs,a::l=>by rw[Yg7,length_cons,length_cons,Yc4 vs l]
 |(true,_)::vs,[]=>rfl
 |(false,_)::vs,[]=>rfl
 |(false,x)::vs,a::l=>by rw[Yg7,length_cons,length_cons,Yc4 vs _];simp
theorem Yf4:∀(l:List Val),Yg7 l []=l
 |[]=>rfl
 |(true,_)::_vs=>rfl
 |(false,_)::_vs=>rfl
theorem setV_f(x:Int)(vs:List Val)(l:List Int):Yg7 ((false,x)::vs) l=(false,x)::Yg7 vs l:=by
 cases l with
 |nil=>rw[Yf4,Yf4]
 |cons a l=>rw[Yg7];simp
theorem Yoi:∀(l:List Val) (k j:Nat) (ls:List Int) (hj:j<(Ylk l k).length) (hl:j<ls.length),∃z,∃hz:z<l.length,(Ylk l k)[j]=k+z∧(∃y,(Yg7 l (ls.take j))[z]'(by rw[Yc4];exact hz)=(true,y))∧Yg7 l (ls.take (j+1))=(Yg7 l (ls.take j)).set z (true,w32 (ls[j]+1))
 |[],k,j,ls,hj,hl=>by cases hj
 |(false,x)::l,k,j,ls,hj,hl=>by
  obtain⟨z,hz,e1,⟨y,e2⟩,e3⟩:=Yoi l (k+1) j ls hj hl;refine⟨z+1,by simpa using hz,?_,⟨y,?_⟩,?_⟩
  ·rw[show(Ylk ((false,x)::l) k)[j]=(Ylk l (k+1))[j] from rfl,e1];omega
  ·simp only[setV_f,getElem_cons_succ];exact e2
  ·rw[setV_f,setV_f,e3,set_cons_succ]
 |(true,x)::l,k,0,a::ls,hj,hl=>by
  refine⟨0,by simp,rfl,⟨x,rfl⟩,?_⟩;show(true,_)::Yg7 l []=_;rw[Yf4];rfl
 |(true,x)::l,k,j+1,a::ls,hj,hl=>by
  obtain⟨z,hz,e1,⟨y,e2⟩,e3⟩:=Yoi l (k+1) j ls (by simpa[Ylk]using hj) (by simpa using hl);refine⟨z+1,by simpa using hz,?_,⟨y,?_⟩,?_⟩
  ·rw[show(Ylk ((true,x)::l) k)[j+1]=(Ylk l (k+1))[j]'(by simpa[Ylk]using hj) from rfl,e1];omega
  ·exact e2
  ·show(true,_)::Yg7 l (ls.take (j+1))=((true,_)::Yg7 l (ls.take j)).set (z+1) _;rw[e3,set_cons_succ];rfl
theorem sl_step{j:Nat}(H:SlE eV 2 v (Yg7 l (ls.take j)) L)(hj:j<(Yb9 v l l.length).length)(hl:j<ls.length):∃i z js,L=[(i,.cells ((Yg7 l (ls.take j)).flatMap eV++js))]∧z*2+1<((Yg7 l (ls.take j)).flatMap eV++js).length∧(Yb9 v l l.length)[j]=(i,z*2)∧((Yg7 l (ls.take j)).flatMap eV++js).set (z*2+1) (.int .i32 (w32 (ls[j]+1)))=(Yg7 l (ls.take (j+1))).flatMap eV++js∧SlE eV 2 v (Yg7 l (ls.take (j+1))) [(i,.cells ((Yg7 l (ls.take (j+1))).flatMap eV++js))]:=by
 rcases H with ⟨rfl,_,_⟩|⟨i,js,rfl,rfl⟩
 ·cases hj
 ·rw[Yc4]at hj ⊢;have e0:=Ylj (i:=i) (o:=0) (s:=2) (l:=l) (Zl _);rw[take_length]at e0;have hj2:j<(Ylk l 0).length:=by rw[e0,length_map]at hj;exact hj
  obtain⟨z,hz,e1,⟨y,e2⟩,e3⟩:=Yoi l 0 j ls hj2 hl;refine⟨i,z,js,rfl,?_,?_,?_,.inr ⟨i,js,by rw[Yc4],rfl⟩⟩
  ·rw[length_append,enc_len Yh9,Yc4];omega
  ·simp only[e0,getElem_map,e1,Nat.zero_add]
  ·rw[e3];exact enc_set Yh9 (by rw[Yc4];exact hz) (by decide) (by rw[e2];rfl)
theorem wrap_w32(x:Int):IntKind.wrap .i32 x=Img.w32 x:=by simp[IntKind.wrap,IntKind.bits,IntKind.signed,Img.w32];omega
def SX (a:Ac) (f:Fm):CL:=[[(a.fi,.cells (a.F f))],a.Ll,a.Lk]
theorem Yki(H:SlE eV 2 v l L):(Yb9 v l l.length).length=(Jh l).length:=by
 rcases H with ⟨rfl,rfl,_⟩|⟨i,js,rfl,rfl⟩
 ·rfl
 ·rw[Ylj (Zl _),length_map,take_length,Yi0]
theorem v91{w:AV}{ls:List Int}(hl:SlE eV 2 a.vl f.loc a.Ll)(hk:SlE eV 2 a.vk f.stk a.Lk)(h3:f.loc.length≤16)(h4:f.stk.length≤16)(hw:TSl 1 w (ls.flatMap eI) ls.length)(hn:ls.length=f.refs.length)(hs:∀x∈ls,-1≤x∧x<2^40):HM prog ann 91 [.ptr a.fi 0,w] g (SX a f) fun _ ys _=>∃Ll' Lk',ys=SX {a with Ll:=Ll',Lk:=Lk'} f∧SlE eV 2 a.vl (f.setRefs ls).loc Ll'∧SlE eV 2 a.vk (f.setRefs ls).stk Lk':=by
 intro G hg hD;have b1:=Yki hl;have b2:=Yki hk;have b3:ls.length≤32:=by
  have e1:=Yck (v:=a.vl) (l:=f.loc) (n:=f.loc.length);have e2:=Yck (v:=a.vk) (l:=f.stk) (n:=f.stk.length);have:f.refs.length=_:=length_append;omega
 have b4:(Yc9 a f 2).length=ls.length:=by
  show List.length (_++_)=_;rw[length_append,b1,b2,hn];exact length_append.symm
 refine Yt rfl rfl func91 Zw rfl ?_;refine tM ?_;apply Yb rfl rfl rfl rfl (v156 (Yk hD (Yi (k:=0) rfl (.head _))) hl hk (Xi (k:=1) hD rfl) (Xi (k:=2) hD rfl) h3 h4);rintro t _ ⟨ht,rfl⟩;rw[b4]at ht;refine tM ?_;apply Y1 (w:= .bool false) rfl rfl trivial (by simp);refine tM ?_;refine Xv (fun s:Nat×OL×OL=>[(4,t),(14,w),(15,I ls.length),(16,I s.1)]) (fun s h'=>s.1≤ls.length∧h'=hset G (SX {a with Ll:=s.2.1,Lk:=s.2.2} f).flatten∧Dis G (SX {a with Ll:=s.2.1,Lk:=s.2.2} f).flatten∧SlE eV 2 a.vl (Yg7 f.loc ((ls.take (Jh f.loc).length).take s.1)) s.2.1∧SlE eV 2 a.vk (Yg7 f.stk ((ls.drop (Jh f.loc).length).take (s.1-(Jh f.loc).length))) s.2.2) (fun s=>ls.length-s.1) (0,a.Ll,a.Lk) tU ⟨by omega,rfl,hD,?_,?_⟩ ?_
 ·rw[take_zero,Yf4];exact hl
 ·rw[Nat.zero_sub,take_zero,Yf4];exact hk
 rintro⟨j,Ll,Lk⟩ _ ⟨hj,rfl,hD,hl',hk'⟩;simp only at hj hD hl' hk' ⊢;refine tM ?_;refine oI (j<ls.length) (fun H=>?_) (fun H=>?_);rotate_left
 ·obtain rfl:j=ls.length:=by omega
  refine tM ?_;refine hSn rfl hD .refl ⟨Ll,Lk,rfl,?_,?_⟩
  ·rw[Zk (by rw[length_take];omega)]at hl';exact hl'
  ·rw[Zk (by rw[length_drop];omega)]at hk';exact hk'
 have hx:=hs ls[j] (getElem_mem H);have hjz:(j:Int).toNat=j:=Zn j;obtain rfl:=Yd5 hw (by omega);obtain rfl:=Yd5 ht (by omega);refine tM ?_;apply Y1 (w:= .tptr (ls.flatMap eI) j) rfl rfl ⟨by omega,by omega⟩ (by simp);refine tM ?_;refine Ynb rfl rfl (v:=I ls[j]) (by have:=J8 (js:=[]) Yrw H (show 0<1 by decide);rw[append_nil,Nat.mul_one,Nat.add_zero]at this;exact this) ?_;refine tM ?_;apply Y1 (w:= .tptr ((Yc9 a f 2).flatMap eQ) j) rfl rfl ⟨by omega,by omega⟩ (by simp);refine tM ?_;refine Ynb rfl rfl (v:= .ptr (Yc9 a f 2)[j].1 (Yc9 a f 2)[j].2) (by have:=J8 (l:=Yc9 a f 2) (js:=[]) encQ (z:=j) (by omega) (show 0<1 by decide);rw[append_nil,Nat.mul_one,Nat.add_zero]at this;exact this) ?_;refine tM ?_;apply Y1 (w:=I (ls[j]+1)) rfl rfl trivial (by rw[w64 (by omega) (by omega)]);refine tM ?_;apply Y1 (w:= .int .i32 (Img.w32 (ls[j]+1))) rfl rfl trivial (by rw[wrap_w32]);refine tM ?_;have eq:(Yc9 a f 2)[j]'(by omega)=(Yb9 a.vl f.loc f.loc.length++Yb9 a.vk f.stk f.stk.length)[j]'(by rw[length_append,b1,b2];have:f.refs.length=_:=length_append;omega):=rfl;by_cases hlt:j<(Jh f.loc).length
 ·obtain⟨i,z,js,rfl,s1,s2,s3,s4⟩:=sl_step hl' (by omega) (by rw[length_take];omega);have s5:(Yc9 a f 2)[j]'(by omega)=(i,z*2):=by rw[eq,getElem_append_left (by omega)];exact s2
  rw[s5];refine Qs 1 hD rfl rfl rfl rfl rfl rfl s1 fun hD=>?_;rw[getElem_take]at s3;refine tM ?_;apply Y1 (w:=I ((j+1:Nat):Int)) rfl rfl trivial (by rw[w64 (by omega) (by omega)];rfl);refine tM ?_;refine⟨(j+1,_,Lk),by simp only;omega,tU,rfl,by simp only;omega,?_,?_,s4,?_⟩
  ·simp only;rw[s3];rfl
  ·simp only;rw[s3]at hD;exact hD
  ·simp only;rw[show j+1-(Jh f.loc).length=j-(Jh f.loc).length by omega];exact hk'
 ·have hrl:f.refs.length=_:=length_append;obtain⟨i,z,js,rfl,s1,s2,s3,s4⟩:=sl_step hk' (by omega) (by rw[length_drop];omega);have s5:(Yc9 a f 2)[j]'(by omega)=(i,z*2):=by rw[eq,getElem_append_right (by omega)];simp only[b1];exact s2
  rw[s5];refine Qs 2 hD rfl rfl rfl rfl rfl rfl s1 fun hD=>?_;rw[getElem_drop]at s3;simp only[show(Jh f.loc).length+(j-(Jh f.loc).length)=j by omega,show j-(Jh f.loc).length+1=j+1-(Jh f.loc).length by omega]at s3 s4;refine tM ?_;apply Y1 (w:=I ((j+1:Nat):Int)) rfl rfl trivial (by rw[w64 (by omega) (by omega)];rfl);refine tM ?_;refine⟨(j+1,Ll,_),by simp only;omega,tU,rfl,by simp only;omega,?_,?_,?_,s4⟩
  ·simp only;rw[s3];rfl
  ·simp only;rw[s3]at hD;exact hD
  ·simp only;rw[Zk (by rw[length_take];omega)]at hl' ⊢;exact hl'
end Go.Proofs
