import Derived.Test.YtibdecjfdpmfoaaGreatVmBegin
section
open Go Go.Abs Go.Proofs.SlimCode Go.Img Go.Vm
namespace Go.Vm
open List
variable {Y:CL} {p:Nat×AObj} {L M:OL} {G g h:Ya}
def Ymg (cs:List AV) (hp vst vat vin:AV) (fin:Int):List AV:=cs++[hp,vst,vat,vin,.nil .sl,tbl,I 0,.nil .sl,I fin,.int .i32 0,.str []]
theorem swapB{q:Nat×AObj}{B:OL}(hD:Dis G ([p]::[q]::L::M::B::Y).flatten):hset G ([p]::[q]::L::M::B::Y).flatten=hset G ([q]::L::M::(p::B)::Y).flatten∧Dis G ([q]::L::M::(p::B)::Y).flatten:=by
 refine X5 ?_ hD;have e1:([p]::[q]::L::M::B::Y).flatten=p::((q::(L++M))++(B++Y.flatten)):=by simp
 have e2:([q]::L::M::(p::B)::Y).flatten=(q::(L++M))++p::(B++Y.flatten):=by simp
 rw[e1,e2];exact perm_middle.symm
theorem endP{q:Nat×AObj}{B:OL}(hD:Dis G ([p]::L::M::B::[q]::Y).flatten):hset G ([p]::L::M::B::[q]::Y).flatten=hset G ([B,[q]]++([p]::L::M::Y)).flatten∧Dis G ([B,[q]]++([p]::L::M::Y)).flatten:=by
 refine X5 ?_ hD;have e1:([p]::L::M::B::[q]::Y).flatten=(p::(L++M))++((B++[q])++Y.flatten):=by simp
 have e2:([B,[q]]++([p]::L::M::Y)).flatten=(B++[q])++((p::(L++M))++Y.flatten):=by simp
 rw[e1,e2];exact perm_append_comm_assoc _ _ _
theorem hpP{h:Nat×AObj}{W S:OL}{X:CL}(hD:Dis G (X++([p]::L::M::[h]::W::[S])).flatten):hset G (X++([p]::L::M::[h]::W::[S])).flatten=hset G (X++([p]::[h]::W::S::L::[M])).flatten∧Dis G (X++([p]::[h]::W::S::L::[M])).flatten:=by
 refine X5 ?_ hD;have e1:(X++([p]::L::M::[h]::W::[S])).flatten=X.flatten++p::((L++M)++(h::(W++S))):=by simp
 have e2:(X++([p]::[h]::W::S::L::[M])).flatten=X.flatten++p::((h::(W++S))++(L++M)):=by simp
 rw[e1,e2];exact(List.Perm.cons _ perm_append_comm).append_left _
theorem o_heap{P:Program}{A:Abs.Ann}{f nt q:Nat}{E:Env}{bx:List Nat}{h2 h0:Ya}{Q:Abs.AX→Env→List Nat→Ya→Prop}{r:List SO}(e:h=h2)(H:Yu P A f nt h0 q r E bx h2 Q):Yu P A f nt h0 q r E bx h Q:=e▸H
theorem FrV.mono(hx:Ext g h){a:Ac}{f:Fm}(H:FrV g a f):FrV h a f:=⟨H.code.mono RFour.mono hx,H.traps.mono RFour.mono hx,H.loc,H.stk⟩
theorem Frs.mono(hx:Ext g h):∀{az:List Ac} {fs:List Fm},Frs g az fs→Frs h az fs
 |_,_,.nil=> .nil
 |_,_,.cons H K=> .cons (H.mono hx) (K.mono hx)
theorem MV.mono(hx:Ext g h){c:Mc}{az:List Ac}{im:Image}{x:Vm}(M:MV g c az im x):MV h c az im x:=⟨RImg.mono _ _ _ _ hx M.img,M.inp.mono RN.mono hx,M.hw,M.hs,M.st,M.at',M.out,M.ac,M.fr.mono hx⟩
end Go.Vm
set_option maxRecDepth 100000
namespace Go.Proofs
open List
open Go.Proofs.Tryz
theorem v28{g:Ya}{cs:List AV}{m im:Image}{b n:Int}{vi:AV}{inp:List Int}{l:List Nat}(hI:ImOk im)(hp:K6 im.words=some l)(hc:RImg g cs m)(h66:∀h,RImg h cs m→HCallC prog ann 66 [.agg (cs++[I b]),I 0] h (MoveQ (true,im,0) h))(hi:Sl (RN .i32) 1 g vi inp)(hil:inp.length≤1048576)(hi32:∀n∈inp,I32 n) :
  HM prog ann 28 [.agg (cs++[I b]),vi,I n] g [] fun r ys G=>if(Hp.new n).n<im.words.length then
   ∃mi,r= .ptr mi 0∧∃cs2 vst vat vin Lst Lat,cs2.length=9∧ys=[[(mi,.cells (Ymg cs2 (.nil .ptr) vst vat vin 4))],Lst,Lat]∧SlE eV 2 vst (Yg5 im im.stat.length) Lst
   else ∃c az,r= .ptr c.mi 0∧ys=MX c az im (Vm.new im inp (Hp.of n im.words l))∧MV G c az im (Vm.new im inp (Hp.of n im.words l)):=by
 intro G hg hD;have hlen:cs.length=9:=by obtain⟨vc,vm,vg,vw,vr,vs,vf,rfl,_⟩:=hc;rfl
 obtain⟨x1,x2,x3,x4,x5,x6,x7,x8,x9,rfl⟩:∃x1 x2 x3 x4 x5 x6 x7 x8 x9,cs=[x1,x2,x3,x4,x5,x6,x7,x8,x9]:=by
  obtain⟨vc,vm,vg,vw,vr,vs,vf,rfl,_⟩:=hc;exact⟨_,_,_,_,_,_,_,_,_,rfl⟩
 have ho:=hc.one;refine Yt rfl rfl func28 Zw rfl ?_;refine tM ?_;have ho':([x1,x2,x3,x4,x5,x6,x7,x8,x9]++[I b]).all AV.one=true:=by rw[all_append,ho];rfl
 refine Ylo (xs:=[]) hD rfl rfl ho' fun b3 hD=>?_;refine tM ?_;have hD:Dis G ([[(b3,.cells [x1,x2,x3,x4,x5,x6,x7,x8,x9,I b])]]:CL).flatten:=hD;refine Yfl (l:=[x1,x2,x3,x4,x5,x6,x7,x8,x9,I b]) hD rfl rfl rfl (.head _) rfl ?_;refine Q5 (hb:=G) (L:=[(b3,.cells [x1,x2,x3,x4,x5,x6,x7,x8,x9,I b])]) hD rfl rfl rfl rfl (h66 G (RImg.mono _ _ _ _ hg hc)) ?_;rintro _ G1 ⟨hx1,c2,rfl,hR⟩ hD;obtain⟨ic,iM,ig,iw,ir,is',jf,rfl,_⟩:=id hR;have ho2:=hR.one;have hD:Dis G1 ([[(b3,.cells [x1,x2,x3,x4,x5,x6,x7,x8,x9,I b])]]:CL).flatten:=hD;have ho3:([ic,iM,I im.entry,I im.need,ig,iw,ir,is',jf]++[I 0]).all AV.one=true:=by rw[all_append,ho2];rfl
 refine tM ?_;refine Kb (c:=[ic,iM,I im.entry,I im.need,ig,iw,ir,is',jf,I 0]) (xs:=[[(b3,.cells [x1,x2,x3,x4,x5,x6,x7,x8,x9,I b])]]) 0 hD rfl rfl rfl rfl rfl rfl rfl ho3 fun hD=>?_;have hD:Dis G1 ([[(b3,.cells [ic,iM,I im.entry,I im.need,ig,iw,ir,is',jf,I 0])]]:CL).flatten:=hD;have hb3:=Yk hD (.head _);have hg1:=hg.trans hx1;refine tM ?_;refine Ke [(b3,0,9,[ic,iM,I im.entry,I im.need,ig,iw,ir,is',jf])] [.C,.L,.C,.W,.W,.C,.W,.C] (Ybs hb3 rfl .nil) ?_;refine tD ?_;refine d_callT (g:=g) (xs:=[[(b3,AObj.cells [ic,iM,I im.entry,I im.need,ig,iw,ir,is',jf,I 0])]]) 0 hD hg1 rfl rfl rfl (v43 (fun G' hx' hD'=>hi.mono RN.mono (hx'.trans (Yr hD'))) hil) ?_;rintro w1 _ G2 ⟨L1,rfl,hw1⟩ hx2 hD;have hb3:=Yk hD (Yi (k:=1) rfl (.head _));refine⟨fun _=>Ybs hb3 rfl .nil,Yd2 hb3 Ynm,?_⟩;apply Ydz (first:=[]) (cap:=[]) (vs:=[]) pTab.call;refine d_bld (cs:=Ymg [ic,iM,I im.entry,I im.need,ig,iw,ir,is',jf] (.nil .ptr) (.nil .sl) (.nil .sl) w1 0) rfl (by rcases hw1 with ⟨rfl,_⟩|⟨i,js,rfl,_⟩<;>rfl) ?_;have ho4:(Ymg [ic,iM,I im.entry,I im.need,ig,iw,ir,is',jf] (.nil .ptr) (.nil .sl) (.nil .sl) w1 0).all AV.one=true:=by
  unfold Ymg;rw[all_append,ho2];show(true&&(true&&(true&&(w1.one&&_))))=true;rw[hw1.one];rfl
 refine d_hboxC hD rfl rfl ho4 fun mi hD=>?_;have hD:Dis G2 ([(mi,AObj.cells (Ymg [ic,iM,I im.entry,I im.need,ig,iw,ir,is',jf] (.nil .ptr) (.nil .sl) (.nil .sl) w1 0))]::L1::[[(b3,AObj.cells [ic,iM,I im.entry,I im.need,ig,iw,ir,is',jf,I 0])]]).flatten:=hD;have hb3:=Yk hD (Yi (k:=2) rfl (.head _));refine⟨fun _=>Ybs hb3 rfl .nil,Yd2 hb3 Ynm,?_⟩;refine tD ?_;obtain⟨G3,e3,hD3,hx3,hH3⟩:=Yim [false,true,false] hD;have e3:hset G2 ([(mi,AObj.cells (Ymg [ic,iM,I im.entry,I im.need,ig,iw,ir,is',jf] (.nil .ptr) (.nil .sl) (.nil .sl) w1 0))]::L1::[[(b3,AObj.cells [ic,iM,I im.entry,I im.need,ig,iw,ir,is',jf,I 0])]]).flatten=hset G3 ([[(mi,AObj.cells (Ymg [ic,iM,I im.entry,I im.need,ig,iw,ir,is',jf] (.nil .ptr) (.nil .sl) (.nil .sl) w1 0))],[],[],[(b3,AObj.cells [ic,iM,I im.entry,I im.need,ig,iw,ir,is',jf,I 0])]]:CL).flatten:=e3;have hD:Dis G3 ([[(mi,AObj.cells (Ymg [ic,iM,I im.entry,I im.need,ig,iw,ir,is',jf] (.nil .ptr) (.nil .sl) (.nil .sl) w1 0))],[],[],[(b3,AObj.cells [ic,iM,I im.entry,I im.need,ig,iw,ir,is',jf,I 0])]]:CL).flatten:=hD3;show Yb5 _ _ _ _ _ _ [b3] (hset G2 ([(mi,AObj.cells (Ymg [ic,iM,I im.entry,I im.need,ig,iw,ir,is',jf] (.nil .ptr) (.nil .sl) (.nil .sl) w1 0))]::L1::[[(b3,AObj.cells [ic,iM,I im.entry,I im.need,ig,iw,ir,is',jf,I 0])]]).flatten) _;rw[e3];have hin:Sl (RN .i32) 1 G3 w1 inp:=SlE.rn hw1 fun p hp=>hH3 p (by show p∈L1++[];rw[append_nil];exact hp);have hR3:RImg G3 [ic,iM,I im.entry,I im.need,ig,iw,ir,is',jf] im:=RImg.mono _ _ _ _ (hx2.trans hx3) hR;clear hH3 e3 hD3 hb3 ho4;obtain⟨hcl,hwd,hst,hsr⟩:Sl RCls 10 G3 ic im.classes∧Sl (RN .i32) 1 G3 iw im.words∧Sl (RN .i32) 1 G3 is' im.stat∧Sl RB 1 G3 jf im.statref:=by
  obtain⟨_,_,_,_,_,_,_,e,v1,_,_,v4,_,v6,v7⟩:=hR3;simp only[List.cons.injEq]at e;obtain⟨rfl,rfl,_,_,rfl,rfl,rfl,rfl,rfl,_⟩:=e;exact⟨v1,v4,v6,v7⟩
 have hsz:=hI.v.first.sizes
 unfold Yew at hsz;refine tM ?_;apply Y0 rfl rfl (hst.mono RN.mono (Yr hD));refine tM ?_;refine Xv (fun s:Nat×AV×OL=>[(2,I n),(7,.ptr mi 0),(30,is'),(31,I im.stat.length),(32,I s.1)]) (fun s h'=>s.1≤im.stat.length∧SlE eV 2 s.2.1 (Yg5 im s.1) s.2.2∧h'=hset G3 ([[(mi,AObj.cells (Ymg [ic,iM,I im.entry,I im.need,ig,iw,ir,is',jf] (.nil .ptr) s.2.1 (.nil .sl) w1 0))],s.2.2,[],[(b3,AObj.cells [ic,iM,I im.entry,I im.need,ig,iw,ir,is',jf,I 0])]]:CL).flatten∧Dis G3 ([[(mi,AObj.cells (Ymg [ic,iM,I im.entry,I im.need,ig,iw,ir,is',jf] (.nil .ptr) s.2.1 (.nil .sl) w1 0))],s.2.2,[],[(b3,AObj.cells [ic,iM,I im.entry,I im.need,ig,iw,ir,is',jf,I 0])]]:CL).flatten) (fun s=>im.stat.length-s.1) (0,.nil .sl,[]) tU ⟨Nat.zero_le _,.inl ⟨rfl,rfl,rfl⟩,rfl,hD⟩ ?_;clear hD;rintro⟨k,vst,Lst⟩ _ ⟨hk,hL,rfl,hD⟩;simp only at hk hL hD ⊢;refine tM ?_;refine oI ((k:Int)<im.stat.length) (fun H1=>?_) (fun H1=>?_)
 ·have hk1:k<im.stat.length:=by omega
  have hk2:k<im.statref.length:=by omega
  obtain⟨d,hd,_,hp⟩:=hst.at hk1;rw[atD (d:=0)]at hd;obtain rfl:d=[.int .i32 (im.stat.getD k 0)]:=hd;obtain⟨d,hd,_,hp2⟩:=hsr.at hk2;rw[atD (d:=false)]at hd;obtain rfl:d=[.bool (im.statref.getD k false)]:=hd;have ess:=Yq2 (im:=im) (by omega) hk1;have esl:=stats_len (im:=im) (k:=k) (by omega) (by omega);refine tM ?_;refine o_iaQ hst hk1 rfl rfl rfl ?_;refine Ji rfl rfl (hp.mono (Yr hD)) (.one rfl) (fun h=>absurd h (by decide)) ?_;refine tM ?_;have hm:=Yk hD (.head _);refine Ke ((mi,10,1,[vst])::(mi,8,1,[jf])::SP (iaV jf k 1) [.bool (im.statref.getD k false)]) [.C,.C,.C,.C,.L,.C,.C,.C,.C,.L,.C,.C,.L,.C,.C,.C,.W,.C,.C,.W] (Ybs hm rfl (Ybs hm rfl (stbP (hp2.mono (Yr hD))))) ?_;refine tD ?_;refine Yl7 hsr hk2 rfl rfl rfl ?_;refine Yl6 hp2 (fun y hy=> .tail _ (.tail _ hy)) (.one rfl) (by decide) rfl rfl ?_;refine tD ?_;refine d_appE (m:=[(im.statref.getD k false,im.stat.getD k 0)]) 1 Yh9 hL hD rfl rfl rfl rfl rfl (by rw[esl];show(k+1)*(8+1)≤2^44;omega) fun vst2 Lst2 hL2 hD=>?_;rw[←ess]at hL2;have hm:=Yk hD (.head _);refine⟨fun h=>absurd h (by decide),Yd2 hm (Yd2 hm (livP (hp2.mono (Yr hD)))),?_⟩;refine tD ?_;refine Yjm 0 hD rfl rfl rfl rfl hL2.one (show 10<20 by decide) fun hD=>?_;have hm:=Yk hD (.head _);refine⟨fun h=>absurd h (by decide),Yd2 hm (Yd2 hm (livP (hp2.mono (Yr hD)))),?_⟩;refine tD ?_;refine tM ?_;apply Y1 (w:=I ((k+1:Nat):Int)) rfl rfl trivial (by rw[w64 (by omega) (by omega)];rfl);refine tM ?_;exact⟨(k+1,vst2,Lst2),by show im.stat.length-(k+1)<im.stat.length-k;omega,tU,rfl,hk1,hL2,rfl,hD⟩
 obtain rfl:k=im.stat.length:=by omega
 refine tM ?_;apply Y0 rfl rfl (hcl.mono RCls.mono (Yr hD));refine tM ?_;refine Kg (fun s:Nat×AV×OL×OL=>[(2,I n),(7,.ptr mi 0),(61,ic),(62,I im.classes.length),(63,I s.1)]) (fun s=>s.2.2.2.map Prod.fst++[b3]) (fun s h'=>s.1≤im.classes.length∧SlE eI 1 s.2.1 (ats im s.1) s.2.2.1∧h'=hset G3 ([(mi,AObj.cells (Ymg [ic,iM,I im.entry,I im.need,ig,iw,ir,is',jf] (.nil .ptr) vst s.2.1 w1 0))]::Lst::s.2.2.1::s.2.2.2::[[(b3,AObj.cells [ic,iM,I im.entry,I im.need,ig,iw,ir,is',jf,I 0])]]).flatten∧Dis G3 ([(mi,AObj.cells (Ymg [ic,iM,I im.entry,I im.need,ig,iw,ir,is',jf] (.nil .ptr) vst s.2.1 w1 0))]::Lst::s.2.2.1::s.2.2.2::[[(b3,AObj.cells [ic,iM,I im.entry,I im.need,ig,iw,ir,is',jf,I 0])]]).flatten) (fun s=>im.classes.length-s.1) (0,.nil .sl,[],[]) tU rfl ⟨Nat.zero_le _,.inl ⟨rfl,rfl,rfl⟩,rfl,hD⟩ ?_;clear hD;rintro⟨k,vat,Lat,B⟩ _ ⟨hk,hA,rfl,hD⟩;simp only at hk hA hD ⊢;refine tM ?_;refine oI ((k:Int)<im.classes.length) (fun H1=>?_) (fun H1=>?_)
 ·have hk1:k<im.classes.length:=by omega
  obtain⟨d,hd,hdl,hp⟩:=hcl.at hk1;have eas:=ats_succ hk1;have eal:=ats_len (im:=im) (k:=k) hk;generalize im.classes[k]=y at hd eas;obtain⟨vr,vs,vt,vf,rfl,r1,r2,r3,r4⟩:=hd;refine tM ?_;refine o_iaQ hcl hk1 rfl rfl rfl ?_;refine Ji rfl rfl (hp.mono (Yr hD)) (.many rfl rfl) (fun h=>absurd h (by decide)) ?_;refine tM ?_;refine Jd hD rfl fun b11 hD=>?_;refine Kb 0 hD rfl rfl rfl rfl rfl rfl rfl (by show(true&&(true&&(true&&(vr.one&&(vs.one&&(vt.one&&(vf.one&&_)))))))=true;rw[r1.one,r2.one,r3.one,r4.one];rfl) fun hD=>?_;refine tM ?_;refine oI (y.init<0) (fun H2=>?_) (fun H2=>?_)
  ·rw[if_pos H2]at eas;refine tM ?_;refine Ydx (m:=[1]) 3 Yrw hA hD rfl rfl rfl rfl rfl rfl (by rw[eal];show(k+1)*(8+1)≤2^44;omega) fun vat2 Lat2 hA2 hD=>?_;rw[←eas]at hA2;refine tM ?_;refine Qs 1 hD rfl rfl rfl rfl rfl hA2.one (show 11<20 by decide) fun hD=>?_;refine tM ?_;apply Y1 (w:=I ((k+1:Nat):Int)) rfl rfl trivial (by rw[w64 (by omega) (by omega)];rfl);refine tM ?_;obtain⟨e5,hD5⟩:=swapB (Y:=[[(b3,AObj.cells [ic,iM,I im.entry,I im.need,ig,iw,ir,is',jf,I 0])]]) hD;exact⟨(k+1,vat2,Lat2,(b11,AObj.cells [.str y.name,I y.super,I y.init,vr,vs,vt,vf,I y.array,I y.elem,.bool y.thrown])::B),by show im.classes.length-(k+1)<im.classes.length-k;omega,tU,rfl,hk1,hA2,e5,hD5⟩
  ·rw[if_neg H2]at eas;refine tM ?_;refine Ydx (m:=[0]) 3 Yrw hA hD rfl rfl rfl rfl rfl rfl (by rw[eal];show(k+1)*(8+1)≤2^44;omega) fun vat2 Lat2 hA2 hD=>?_;rw[←eas]at hA2;refine tM ?_;refine Qs 1 hD rfl rfl rfl rfl rfl hA2.one (show 11<20 by decide) fun hD=>?_;refine tM ?_;apply Y1 (w:=I ((k+1:Nat):Int)) rfl rfl trivial (by rw[w64 (by omega) (by omega)];rfl);refine tM ?_;obtain⟨e5,hD5⟩:=swapB (Y:=[[(b3,AObj.cells [ic,iM,I im.entry,I im.need,ig,iw,ir,is',jf,I 0])]]) hD;exact⟨(k+1,vat2,Lat2,(b11,AObj.cells [.str y.name,I y.super,I y.init,vr,vs,vt,vf,I y.array,I y.elem,.bool y.thrown])::B),by show im.classes.length-(k+1)<im.classes.length-k;omega,tU,rfl,hk1,hA2,e5,hD5⟩
 obtain rfl:k=im.classes.length:=by omega
 refine tM ?_;refine Xf (g:=G3) (xs:=[(mi,AObj.cells (Ymg [ic,iM,I im.entry,I im.need,ig,iw,ir,is',jf] (.nil .ptr) vst vat w1 0))]::Lst::Lat::B::[[(b3,AObj.cells [ic,iM,I im.entry,I im.need,ig,iw,ir,is',jf,I 0])]]) 5 hD .refl rfl rfl rfl rfl (v68 (n:=n) hwd hI.w.words.2 hp) ?_;rintro r ys G4 hR4 hx4 hD;by_cases hn:(Hp.new n).n<im.words.length
 ·rw[if_pos hn]at hR4;obtain⟨rfl,rfl⟩:=hR4;have hD:Dis G4 ([(mi,AObj.cells (Ymg [ic,iM,I im.entry,I im.need,ig,iw,ir,is',jf] (.nil .ptr) vst vat w1 0))]::Lst::Lat::B::[[(b3,AObj.cells [ic,iM,I im.entry,I im.need,ig,iw,ir,is',jf,I 0])]]).flatten:=hD;refine tM ?_;refine Qs 0 hD rfl rfl rfl rfl rfl rfl (show 9<20 by decide) fun hD=>?_;refine tM ?_;refine Qs 0 hD rfl rfl rfl rfl rfl rfl (show 17<20 by decide) fun hD=>?_;refine tM ?_;obtain⟨e5,hD5⟩:=endP (Y:=[]) hD;refine e5▸Yjg (bs:=[B,[(b3,AObj.cells [ic,iM,I im.entry,I im.need,ig,iw,ir,is',jf,I 0])]]) (ys:=[[(mi,AObj.cells (Ymg [ic,iM,I im.entry,I im.need,ig,iw,ir,is',jf] (.nil .ptr) vst vat w1 4))],Lst,Lat]) (.tmp rfl .nil) rfl hD5 (by intro i;simp) (hx1.trans (hx2.trans (hx3.trans hx4))) ?_;show(if(Hp.new n).n<im.words.length then _ else _);rw[if_pos hn];exact⟨mi,rfl,_,_,_,_,_,_,rfl,rfl,hL⟩
 ·rw[if_neg hn]at hR4;obtain⟨hb,Lw,Ls,vw,vs,rfl,rfl,hw,hs⟩:=hR4;have hD:Dis G4 ([(mi,AObj.cells (Ymg [ic,iM,I im.entry,I im.need,ig,iw,ir,is',jf] (.nil .ptr) vst vat w1 0))]::Lst::Lat::B::[(b3,AObj.cells [ic,iM,I im.entry,I im.need,ig,iw,ir,is',jf,I 0])]::HX hb (Hp.new n).n vw vs Lw Ls).flatten:=hD;refine tM ?_;refine Qs 0 hD rfl rfl rfl rfl rfl rfl (show 9<20 by decide) fun hD=>?_;refine tM ?_;obtain⟨e5,hD⟩:=endP (Y:=HX hb (Hp.new n).n vw vs Lw Ls) hD;obtain⟨e6,hD⟩:=hpP (X:=[B,[(b3,AObj.cells [ic,iM,I im.entry,I im.need,ig,iw,ir,is',jf,I 0])]]) hD;have V0:=raw_ok hI hp hn hi32;let c:Mc:=⟨mi,hb,ic,iM,ig,iw,ir,is',jf,vst,vat,w1,.nil .sl,.nil .sl,vw,vs,Lw,Ls,Lst,Lat,[],[]⟩;have M0:MV G4 c [] im (Vm.raw im inp (Hp.of n im.words l)):=⟨RImg.mono _ _ _ _ hx4 hR3,hin.mono RN.mono hx4,hw,hs,hL,hA,.inl ⟨rfl,rfl,rfl⟩,.inl ⟨rfl,rfl,rfl⟩,.nil⟩;have hD:Dis G4 (B::[(b3,AObj.cells [ic,iM,I im.entry,I im.need,ig,iw,ir,is',jf,I 0])]::MX c [] im (Vm.raw im inp (Hp.of n im.words l))).flatten:=hD;have e7:hset G4 _=hset G4 (B::[(b3,AObj.cells [ic,iM,I im.entry,I im.need,ig,iw,ir,is',jf,I 0])]::MX c [] im (Vm.raw im inp (Hp.of n im.words l))).flatten:=e5.trans e6;refine o_heap e7 ?_;have hlay:=new_lay (u:=Hp.of n im.words l) (inp:=inp) hI;refine Xf (g:=G4) (xs:=B::[(b3,AObj.cells [ic,iM,I im.entry,I im.need,ig,iw,ir,is',jf,I 0])]::MX c [] im (Vm.raw im inp (Hp.of n im.words l))) 2 hD .refl rfl rfl rfl rfl (v69 (k:=im.entry) (init:= -1) (v:= .nil .sl) (l:=[]) hI M0 V0 .nil (by decide)) ?_;rintro _ _ G5 ⟨rfl,c2,az2,rfl,M5,S5,_,ht⟩ hx5 hD;rw[hlay]at hD M5 ht ⊢;obtain⟨a,rfl⟩:=ht rfl;have S5:c2.mi=mi:=S5;subst S5;have hD:Dis G5 (B::[(b3,AObj.cells [ic,iM,I im.entry,I im.need,ig,iw,ir,is',jf,I 0])]::MX c2 [a] im {Vm.raw im inp (Hp.of n im.words l) with acts:=[Fm.of im.entry (mAt im im.entry).locals (mAt im im.entry).stack [] (mAt im im.entry) (-1)]}).flatten:=hD;refine tM ?_;have hm:=Yk hD (Yi (k:=2) rfl (.head _));refine Ke [(c2.mi,3,1,[I im.need])] [.C,.W,.C,.C,.C,.C,.L,.C,.C,.W] (Ybs hm rfl .nil) ?_;refine tD ?_;have M5:MV G4 c2 [a] im {Vm.raw im inp (Hp.of n im.words l) with acts:=[Fm.of im.entry (mAt im im.entry).locals (mAt im im.entry).stack [] (mAt im im.entry) (-1)]}:=M5;apply Ydz (keep_pre (pre:=[B,[(b3,AObj.cells [ic,iM,I im.entry,I im.need,ig,iw,ir,is',jf,I 0])]]) hD fun G' hD'=>v38 M5 (by decide) hD');refine tD ?_;refine Yjm 10 hD rfl rfl rfl rfl rfl (show 8<9 by decide) fun hD=>?_;have hD:Dis G5 (B::[(b3,AObj.cells [ic,iM,I im.entry,I im.need,ig,iw,ir,is',jf,I 0])]::MX c2 [a] im (Vm.new im inp (Hp.of n im.words l))).flatten:=hD;have hm:=Yk hD (Yi (k:=2) rfl (.head _));refine⟨fun h=>absurd h (by decide),Yd2 hm Ynm,?_⟩;have hF:=M5.fr0;have M6:MV G5 c2 [a] im (Vm.new im inp (Hp.of n im.words l)):=MV.mono hx5 (MV.topF (x:=Vm.raw im inp (Hp.of n im.words l)) (f:=Fm.of im.entry (mAt im im.entry).locals (mAt im im.entry).stack [] (mAt im im.entry) (-1)) M5 (a':=a) rfl ⟨hF.code,hF.traps,hF.loc,hF.stk⟩);refine tD ?_;refine tM ?_;refine Yjg (bs:=[B,[(b3,AObj.cells [ic,iM,I im.entry,I im.need,ig,iw,ir,is',jf,I 0])]]) (ys:=MX c2 [a] im (Vm.new im inp (Hp.of n im.words l))) (.tmp rfl .nil) rfl hD (by intro i;simp) (hx1.trans (hx2.trans (hx3.trans (hx4.trans hx5)))) ?_;show(if(Hp.new n).n<im.words.length then _ else _);rw[if_neg hn];exact⟨c2,[a],rfl,rfl,M6⟩
end Go.Proofs
end
section
open Go Go.Abs Go.Proofs.SlimCode Go.Img Go.Vm
set_option maxRecDepth 100000
namespace Go.Proofs
open List
open Go.Proofs.Tryz
variable {g:Ya} {c:Mc} {az:List Ac} {im:Image} {x:Vm}
theorem v34{oi mm:Nat}{ovw ovs rv:AV}{mcs:List AV}{Low Los:OL}{h:Hp}{roots:List Int}{rf:Int→Int→Bool}{gf:Nat}{first cap:List AV}(hw:SlE eW 1 ovw h.w Low)(hs:SlE eB 1 ovs h.st Los)(H:HOk h)(hr:TSl 1 rv (roots.flatMap eI) roots.length)(hrl:roots.length≤2^30)
  (HR:∀h',Ext g h'→h' mm=some (.cells mcs)→∀k i:Int,-1≤k→0≤i→i<1000→Jj prog ann gf (first++[I k,I i]++cap) h' (.bool (rf k i))) :
  HM prog ann 34 [.ptr oi 0,.fn gf first cap,rv] g (CX oi mm ovw ovs mcs Low Los h) fun v ys _=>v=I (copy h rf roots).1.w.length∧ys=CX oi mm ovw ovs mcs Low Los h:=by
 intro G hg hD;refine Yt rfl rfl func34 Zw rfl ?_;refine tM ?_;refine Xf (g:=g) (xs:=CX oi mm ovw ovs mcs Low Los h) 0 hD hg rfl rfl rfl rfl (v76 hw hs H hr hrl HR) ?_;rintro _ _ G1 ⟨ti,tvw,tvs,Ltw,Lts,w,rfl,hw0,rfl,hw1,hw2⟩ hx1 hD;have hD:Dis G1 (CX oi mm ovw ovs mcs Low Los h++[[(ti,.cells [I (copy h rf roots).1.n,tvw,tvs])],Ltw,Lts]).flatten:=hD;have hV:HV (hset G1 (CX oi mm ovw ovs mcs Low Los h++[[(ti,.cells [I (copy h rf roots).1.n,tvw,tvs])],Ltw,Lts]).flatten) ti (copy h rf roots).1 tvw tvs:=⟨Yk hD (Yi (k:=4) rfl (.head _)),hw1.sl encW (Xi (k:=5) hD rfl),hw2.sl encB (Xi (k:=6) hD rfl)⟩;refine tM ?_;apply Xh (p77k hV);obtain⟨G2,e2,hD2,hx2,_⟩:=Yim [false,false,false,false,true,true,true] hD;refine o_heap e2 ?_;have hD2:Dis G2 (CX oi mm ovw ovs mcs Low Los h).flatten:=hD2;refine tM ?_;exact hS0 (ys:=CX oi mm ovw ovs mcs Low Los h) (.tmp rfl .nil) rfl hD2 (hx1.trans hx2) ⟨rfl,rfl⟩
theorem v15(M:MV g c az im x)(R:ROk x)(H:HOk x.hp):HM prog ann 15 [.ptr c.mi 0] g (MX c az im x) fun w ys _=>w=I (x.live im)∧ys=MX c az im x:=by
 intro G hg hD;have h0:hset G (MX c az im x).flatten c.mi=some (.cells (c.M im x)):=Yk hD (.head _);have hn:=R.n;have hst:=R.stat;refine Yt rfl rfl func15 Zw rfl ?_;refine tM ?_;refine Ke [(c.mi,9,1,[.ptr c.hi 0])] [.C,.C,.C,.L,.C,.L,.C,.W,.W,.C] (Ybs h0 rfl .nil) ?_;refine tD ?_;refine d_vL rfl rfl rfl rfl rfl trivial ?_;refine tD ?_;refine d_hcallK rfl rfl rfl (v36 M R hD) fun rv hrv=>?_;have hrl:x.roots.length≤2^30:=by
  have h1:=Ymy (fs:=x.acts.reverse) fun f hf=>by
   have:=R.fr f (mem_reverse.1 hf);exact⟨this.1,this.2.1⟩
  have h2:=Yea x.stat;unfold Vm.roots;rw[length_append];rw[length_reverse]at h1;omega
 refine Yhm (g:=g) [true,true,true,true] hD hg rfl rfl rfl (v34 (mm:=c.mi) (mcs:=c.M im x) (rf:=Yjd im) M.hw M.hs H hrv hrl fun h' hx hm k i _ h2 h3=>v35 hm (M.cls.mono RCls.mono hx) ⟨h2,h3⟩) ?_;rintro _ _ G1 ⟨rfl,rfl⟩ hx1 hD;have hD:Dis G1 (MX c az im x).flatten:=hD;have h0':hset G1 (MX c az im x).flatten c.mi=some (.cells (c.M im x)):=Yk hD (.head _);refine⟨fun h=>absurd h (by decide),Yd2 h0' Ynm,?_⟩;refine tD ?_;refine tM ?_;exact hS0 (ys:=MX c az im x) (.tmp rfl .nil) rfl hD hx1 ⟨rfl,rfl⟩
end Go.Proofs
end
section
open Go Go.Abs Go.Proofs.SlimCode Go.Img
namespace Go.Img
open List
variable {m:Image} {b by' c fr:Int} {a:Nat}
open Go.Proofs
def mvF (fr by':Int) (s:List Int×Bool) (rs:List Nat):List Int×Bool:=rs.foldl (Ycn fr by') s
theorem Yi7:∀(rs:List Nat) (s:List Int×Bool),(mvF fr by' s rs).1.length=s.1.length
 |[],_=>rfl
 |r::rs,s=>(Yi7 rs _).trans (by simp[Ycn])
theorem mvC_zero:mvC b 0=0:=if_pos rfl
theorem Ypi{s:List Int×Bool}{r i:Nat}:(Ycn fr by' s r).1.getD i 0=if i=r then mvC by' (s.1.getD r 0) else s.1.getD i 0:=by
 show(s.1.set r _).getD i 0=_;rw[Zd,getElem?_set];by_cases e:r=i
 ·subst e;rw[if_pos rfl,if_pos rfl];split
  ·rfl
  ·rename_i h;rw[Zd,getElem?_eq_none (by omega)];exact mvC_zero.symm
 ·rw[if_neg e,if_neg (fun h=>e h.symm),Zd]
theorem Yhd{i:Nat}:∀{rs:List Nat} {s:List Int×Bool},rs.Nodup→(mvF fr by' s rs).1.getD i 0=if i∈rs then mvC by' (s.1.getD i 0) else s.1.getD i 0
 |[],s,_=>by simp[mvF]
 |r::rs,s,h=>by
  have hn:=nodup_cons.1 h;show(mvF fr by' (Ycn fr by' s r) rs).1.getD i 0=_;rw[Yhd hn.2,Ypi];by_cases e:i=r
  ·subst e;rw[if_neg hn.1,if_pos rfl,if_pos (.head _)]
  ·simp only[mem_cons,e,false_or,↓reduceIte]
theorem mvF_ok:∀{rs:List Nat} {s:List Int×Bool},rs.Nodup→(∀r∈rs,mvG fr (s.1.getD r 0)=true)→(mvF fr by' s rs).2=s.2
 |[],_,_,_=>rfl
 |r::rs,s,h,hg=>by
  have hn:=nodup_cons.1 h;show(mvF fr by' (Ycn fr by' s r) rs).2=_;rw[mvF_ok hn.2 fun x hx=>?_]
  ·show(s.2&&mvG fr (s.1.getD r 0))=s.2;rw[hg r (.head _),Bool.and_true]
  ·rw[Ypi,if_neg fun e=>hn.1 (by rw[←e];exact hx)];exact hg x (.tail _ hx)
theorem Yjb{a b:List Int}(hl:a.length=b.length)(h:∀i,a.getD i 0=b.getD i 0):a=b:=by
 apply ext_getElem hl;intro i h1 h2;have:=h i;rwa[Zd,Zd,Zg h1,Zg h2]at this
theorem mvC_mvC{x:Int}(hx:0≤x∧x≤1048576)(hb:0≤b∧b≤1048576)(_hc:0≤c∧c≤1048576):mvC (c-b) (mvC b x)=mvC c x:=by
 unfold mvC w32;by_cases e:x=0
 ·simp[e]
 ·rw[if_neg e,if_neg e,if_neg (by omega)];omega
theorem mvG_mvC{x:Int}(hx:0≤x∧x≤1048576)(hb:0≤b∧b≤1048576):mvG b (mvC b x)=true:=by
 unfold mvG mvC w32;by_cases e:x=0
 ·simp[e]
 ·rw[if_neg e];simp;omega
theorem Yng{w:List Int}{g g' k:Bool}{rs:List Nat}(hn:rs.Nodup)(hx:∀r∈rs,0≤w.getD r 0∧w.getD r 0≤1048576)(hb:0≤b∧b≤1048576)(hc:0≤c∧c≤1048576) :
  (mvF b (c-b) ((mvF 0 b (w,g) rs).1,g') rs).1=(mvF 0 c (w,k) rs).1∧(mvF b (c-b) ((mvF 0 b (w,g) rs).1,g') rs).2=g':=by
 constructor
 ·apply Yjb
  ·rw[Yi7,Yi7,Yi7]
  ·intro i;rw[Yhd hn,Yhd hn,Yhd hn];by_cases h:i∈rs
   ·simp only[if_pos h];exact mvC_mvC (hx i h) hb hc
   ·simp only[if_neg h]
 ·rw[mvF_ok hn fun r hr=>?_];rw[Yhd hn,if_pos hr];exact mvG_mvC (hx r hr) hb
def relN (m:Image):List Nat:=m.rel.map Int.toNat
def Yjv (m:Image):List Nat:=(List.range m.stat.length).filter fun i=>m.statref.getD i false
theorem mvW_F:mvW fr by' m m.rel.length=mvF fr by' (m.words,true) (relN m):=by
 unfold mvW mvF relN;rw[take_length,foldl_map]
theorem mvS_F{g:Bool}:mvS fr by' m g m.stat.length=mvF fr by' (m.stat,g) (Yjv m):=by
 unfold mvS mvF Yjv;rw[foldl_filter];rfl
theorem Ymz{r:Int}(h:r∈Yga m a):(a+2:Nat)≤r∧r<((a+2+obN m a:Nat):Int):=by
 obtain⟨i,hi,rfl⟩:=mem_map.1 h;have:=mem_range.1 (mem_filter.1 hi).1;omega
theorem Yrd:(Yga m a).Pairwise (· < ·):=by
 unfold Yga Ycj;rw[pairwise_map];refine List.Pairwise.imp ?_ (List.Pairwise.filter _ pairwise_lt_range);intro x y h;omega
theorem rel_inc:∀(n:Nat) (a:Nat) (l:List Nat),m.words.length-a≤n→Yfk m.words a=some l→(Ybi m l).Pairwise (· < ·)∧∀r∈Ybi m l,(a:Int)≤r:=by
 intro n
 induction n with
 |zero=>
  intro a l hn h;rw[Ku (by omega)]at h;cases h;exact⟨.nil,fun r hr=>by cases hr⟩
 |succ n ih=>
  intro a l hn h;by_cases ha:a<m.words.length
  ·obtain⟨_,l2,rfl,h2⟩:=Ymu ha h;obtain⟨i1,i2⟩:=ih _ _ (by omega) h2;have e:Ybi m (a::l2)=Yga m a++Ybi m l2:=flatMap_cons;rw[e];refine⟨pairwise_append.2 ⟨Yrd,i1,fun x hx y hy=>?_⟩,fun r hr=>?_⟩
   ·have h1:=(Ymz hx).2;have h2:=i2 y hy;unfold obN wAt at h1;omega
   ·rcases mem_append.1 hr with hr|hr
    ·have:=(Ymz hr).1;omega
    ·have:=i2 r hr;omega
  ·rw[Ku ha]at h;cases h;exact⟨.nil,fun r hr=>by cases hr⟩
structure MovesOk (m:Image):Prop where
 rn:(relN m).Nodup
 rx:∀r∈relN m,0≤m.words.getD r 0∧m.words.getD r 0≤1048576
 sx:∀r∈Yjv m,0≤m.stat.getD r 0∧m.stat.getD r 0≤1048576
theorem Yip(h:ValidP m):MovesOk m:=by
 obtain⟨l,h1,h2⟩:=h.heap;have hlen:m.words.length≤1048576:=(Yd4 h).2.1;have hs:Yfk m.words 0=some l:=by
  unfold K6 at h1;rwa[if_pos hlen]at h1
 have hob:=Yle _ _ _ (Zl _) hs;have href:∀x,RefP l x→0≤x∧x≤1048576:=fun x hx=>by
  rcases hx with rfl|⟨h3,h4⟩
  ·omega
  ·have:=(hob _ h4).1;omega
 have hinc:=rel_inc _ _ _ (Zl _) hs;refine⟨?_,fun r hr=>?_,fun r hr=>?_⟩
 ·unfold relN;rw[←h2.rel,List.Nodup,pairwise_map];refine hinc.1.imp_of_mem fun{a b} ha hb hab=>?_;have h5:=hinc.2 a ha;have h6:=hinc.2 b hb;omega
 ·obtain⟨x,hx,rfl⟩:=mem_map.1 hr;rw[←h2.rel]at hx;exact href _ (h2.refs x hx)
 ·obtain⟨h3,h4⟩:=mem_filter.1 hr;exact href _ (h2.stat r (mem_range.1 h3) h4)
theorem mvd_twice(h:MovesOk m)(hb:0≤b∧b≤1048576)(hc:0≤c∧c≤1048576):mvOk b (c-b) (mvd 0 b m)=true∧mvd b (c-b) (mvd 0 b m)=mvd 0 c m:=by
 have hsn:(Yjv m).Nodup:=List.Pairwise.filter _ nodup_range;have er:relN (mvd 0 b m)=relN m:=rfl;have es:Yjv (mvd 0 b m)=Yjv m:=by
  unfold Yjv;rw[show(mvd 0 b m).stat.length=m.stat.length from Ylr _];rfl
 have ew:(mvd 0 b m).words=(mvF 0 b (m.words,true) (relN m)).1:=by show(mvW 0 b m m.rel.length).1=_;rw[mvW_F]
 have et:∀x,(mvd 0 x m).stat=(mvF 0 x (m.stat,(mvW 0 x m m.rel.length).2) (Yjv m)).1:=fun x=>by show(mvS 0 x m _ m.stat.length).1=_;rw[mvS_F]
 have w2:=Yng (g:=true) (g':=true) (k:=true) h.rn h.rx hb hc;have hW:mvW b (c-b) (mvd 0 b m) (mvd 0 b m).rel.length=mvF b (c-b) ((mvF 0 b (m.words,true) (relN m)).1,true) (relN m):=by rw[mvW_F,er,ew]
 have s2:=Yng (g:=(mvW 0 b m m.rel.length).2) (g':=true) (k:=(mvW 0 c m m.rel.length).2) hsn h.sx hb hc;have hS:mvS b (c-b) (mvd 0 b m) (mvW b (c-b) (mvd 0 b m) (mvd 0 b m).rel.length).2 (mvd 0 b m).stat.length=mvF b (c-b) ((mvF 0 b (m.stat,(mvW 0 b m m.rel.length).2) (Yjv m)).1,true) (Yjv m):=by rw[mvS_F,es,hW,w2.2,et]
 constructor
 ·show(mvS b (c-b) (mvd 0 b m) _ _).2=true;rw[hS,s2.2]
 ·show({mvd 0 b m with words:=_,stat:=_}:Image)=_;rw[hS,hW,w2.1,s2.1,←et];show({m with words:=(mvF 0 c (m.words,true) (relN m)).1,stat:=(mvd 0 c m).stat}:Image)=mvd 0 c m;rw[←mvW_F];rfl
end Go.Img
end
section
open Go Go.Abs Go.Proofs.SlimCode Go.Img Go.Vm
set_option maxRecDepth 100000
namespace Go.Proofs
open List
open Go.Proofs.Tryz
theorem v13{h:Ya}{va vb:AV}{t u:Tr}(ha:Sl (RN .i32) 1 h va t.out)(hb:Sl (RN .i32) 1 h vb u.out)(hl:t.out.length≤2^40)(hl2:u.out.length≤2^40):Jj prog ann 13 [.agg [va,I t.fin,.int .i32 t.code,.str t.cls],.agg [vb,I u.fin,.int .i32 u.code,.str u.cls]] h (.bool (decide (t=u))):=by
 refine Yt rfl rfl func13 Zw rfl ?_;refine tM ?_;apply Yq rfl rfl (show([va,I t.fin,.int .i32 t.code,.str t.cls].all AV.one)=true by show(va.one&&_)=true;rw[ha.one];rfl);apply Yq rfl rfl (show([vb,I u.fin,.int .i32 u.code,.str u.cls].all AV.one)=true by show(vb.one&&_)=true;rw[hb.one];rfl);refine tM ?_;by_cases h1:t.fin=u.fin;rotate_left
 ·rw[Zx (fun e=>h1 (by rw[e]))];apply Y1 (w:= .bool true) rfl rfl trivial (by simp[h1]);refine tM ?_;exact Xd (.tmp rfl .nil) rfl ⟨rfl,Yl⟩
 apply Y1 (w:= .bool false) rfl rfl trivial (by simp[h1]);refine tM ?_;by_cases h2:t.code=u.code;rotate_left
 ·rw[Zx (fun e=>h2 (by rw[e]))];apply Y1 (w:= .bool true) rfl rfl trivial (by simp[h2]);refine tM ?_;exact Xd (.tmp rfl .nil) rfl ⟨rfl,Yl⟩
 apply Y1 (w:= .bool false) rfl rfl trivial (by simp[h2]);refine tM ?_;by_cases h3:t.cls=u.cls;rotate_left
 ·rw[Zx (fun e=>h3 (by rw[e]))];apply Y1 (w:= .bool true) rfl rfl trivial (by simp[h3]);refine tM ?_;exact Xd (.tmp rfl .nil) rfl ⟨rfl,Yl⟩
 apply Y1 (w:= .bool false) rfl rfl trivial (by simp[h3]);refine tM ?_;apply Y0 rfl rfl ha;refine tM ?_;apply Y0 rfl rfl hb;refine tM ?_;by_cases h4:t.out.length=u.out.length;rotate_left
 ·rw[Zx (fun e=>h4 (by rw[e]))];apply Y1 (w:= .bool true) rfl rfl trivial (by simp;omega);refine tM ?_;exact Xd (.tmp rfl .nil) rfl ⟨rfl,Yl⟩
 apply Y1 (w:= .bool false) rfl rfl trivial (by simp;omega);refine tM ?_;refine Xv (fun s:Nat=>[(2,.tptr [va,I t.fin,.int .i32 t.code,.str t.cls] 0),(3,.tptr [vb,I u.fin,.int .i32 u.code,.str u.cls] 0),(5,I s)]) (fun s h'=>h'=h∧s≤t.out.length∧∀j,j<s→t.out.getD j 0=u.out.getD j 0) (fun s=>t.out.length-s) 0 tU ⟨rfl,Nat.zero_le _,fun _ h=>absurd h (Nat.not_lt_zero _)⟩ ?_;rintro k _ ⟨rfl,hk,hq⟩;refine tM ?_;apply Y0 rfl rfl ha;refine tM ?_;refine oI ((k:Int)<t.out.length) (fun H1=>?_) (fun H1=>?_)
 ·have hk1:k<t.out.length:=by omega
  have hk2:k<u.out.length:=by omega
  obtain⟨d,hd,_,hp⟩:=ha.at hk1;rw[atD (d:=0)]at hd;obtain rfl:d=[.int .i32 (t.out.getD k 0)]:=hd;obtain⟨d,hd,_,hp2⟩:=hb.at hk2;rw[atD (d:=0)]at hd;obtain rfl:d=[.int .i32 (u.out.getD k 0)]:=hd;refine tM ?_;refine Ke (SP (iaV va k 1) [.int .i32 (t.out.getD k 0)]++SP (iaV vb k 1) [.int .i32 (u.out.getD k 0)]) [.C,.L,.C,.C,.L,.C,.L,.C,.C,.L,.C] (fun x hx=>(mem_append.1 hx).elim (stbP hp x) (stbP hp2 x)) ?_;refine tD ?_;refine Yl7 ha hk1 rfl rfl rfl ?_;refine Yl6 hp (fun y hy=>mem_append.2 (.inl hy)) (.one rfl) (by decide) rfl rfl ?_;refine tD ?_;refine Yl7 hb hk2 rfl rfl rfl ?_;refine Yl6 hp2 (fun y hy=>mem_append.2 (.inr hy)) (.one rfl) (by decide) rfl rfl ?_;by_cases h5:t.out.getD k 0=u.out.getD k 0
  ·refine Yia (w:= .bool false) rfl trivial (by rw[h5];simp) rfl rfl rfl ?_;refine tD ?_;refine tM ?_;apply Y1 (w:=I ((k+1:Nat):Int)) rfl rfl trivial (by rw[w64 (by omega) (by omega)];rfl);refine tM ?_;exact⟨k+1,by show t.out.length-(k+1)<t.out.length-k;omega,tU,rfl,rfl,hk1,fun j hj=>by
    by_cases e:j=k
    ·rw[e];exact h5
    ·exact hq j (by omega)⟩
  ·refine Yia (w:= .bool true) rfl trivial (by rw[Zx h5];rfl) rfl rfl rfl ?_;refine tD ?_;rw[Zx (fun e=>h5 (by rw[e]))];refine tM ?_;exact Xd (.tmp rfl .nil) rfl ⟨rfl,Yl⟩
 ·have e:t.out=u.out:=Yjb h4 fun i=>by
   by_cases hi:i<t.out.length
   ·exact hq i (by omega)
   ·rw[Zd,Zd,getElem?_eq_none (by omega),getElem?_eq_none (by omega)]
  rw[Zt (by cases t;cases u;simp only at h1 h2 h3 e;subst h1 h2 h3 e;rfl)];refine tM ?_;exact Xd (.tmp rfl .nil) rfl ⟨rfl,Yl⟩
end Go.Proofs
end
