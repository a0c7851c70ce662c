import Derived.Test.YtibdecjfdpmfoaaGreatVmEqT
section
open Go Go.Abs Go.Proofs.SlimCode Go.Img Go.Vm
namespace Go.Vm
open List
variable {m:Image} {b:Int}
open Go.Proofs
theorem mvC_z{x:Int}(h:0≤x∧x≤1048576):mvC 0 x=x:=by
 unfold mvC Img.w32;split<;>omega
theorem mvF_z{w:List Int}{g:Bool}{rs:List Nat}(hn:rs.Nodup)(hx:∀r∈rs,0≤w.getD r 0∧w.getD r 0≤1048576):(mvF 0 0 (w,g) rs).1=w:=Yjb (Yi7 rs (w,g)) fun i=>by
 rw[Yhd hn];split
 ·rename_i h;exact mvC_z (hx i h)
 ·rfl
theorem mvd_zero(hI:ImOk m):mvd 0 0 m=m:=by
 obtain⟨rn,rx,sx⟩:=Yip hI.v;have e1:(mvW 0 0 m m.rel.length).1=m.words:=by rw[mvW_F];exact mvF_z rn rx
 have e2:∀g,(mvS 0 0 m g m.stat.length).1=m.stat:=fun g=>by rw[mvS_F];exact mvF_z (nodup_range.filter _) sx
 unfold mvd;rw[e1,e2]
theorem move_ok(hI:ImOk m)(hb:0≤b∧b≤1048576):Yco (mvd 0 b m) b 0=(true,m,0):=by
 obtain⟨h1,h2⟩:=mvd_twice (Yip hI.v) hb (c:=0) (by decide);unfold Yco;rw[if_pos (by decide),if_pos h1,h2,mvd_zero hI]
theorem load_ok(hI:ImOk m)(hd:Img.decode (Qy m)=some m)(hb:0≤b∧b≤1048576):Kv (Qy m) b=(0,mvd 0 b m,b):=by
 unfold Kv;rw[hd];simp only[if_pos hI.v,if_pos hb]
theorem Yi6{P:Program}{A:Abs.Ann}{f nt q:Nat}{E:Env}{bx:List Nat}{G h0 g:Ya}{Q:Abs.AX→Env→List Nat→Ya→Prop}{pre xs:CL}{dst:Option Nat}{x:SX}{args:List SX}{r:List SO}{gf:Nat}{first cap vs:List AV}{R:AV→CL→Ya→Prop}(hD:Dis G (pre++xs).flatten)(hg:Ext g G)(hq:q=0)(hd:Y8 nt dst=true)(hx:ev (lk E) x=some (.fn gf first cap))(ha:evS (lk E) args=some vs)(hc:HM P A gf (first++vs++cap) g xs R)
  (H:∀v ys G',R v ys G'→Ext G G'→Dis G' (pre++ys).flatten→Yu P A f nt h0 0 r (Ysa dst v E) bx (hset G' (pre++ys).flatten) Q):Yu P A f nt h0 q (⟨dst,none,.call x args⟩::r) E bx (hset G (pre++xs).flatten) Q:=by
 rw[flatten_append]at hD ⊢;rw[Kl];obtain⟨d1,d2⟩:=Yat.1 hD;refine Yb hq hd hx ha ((hc G hg d2).beside d1) ?_;rintro v h' ⟨h1,⟨G',ys,rfl,hD',hx',hR⟩,hDl,rfl⟩;have:=H v ys G' hR hx' (by rw[flatten_append];exact Yat.2 ⟨hDl,hD'⟩);rw[flatten_append,Kl]at this;exact this
theorem nine{cs:List AV}(h:cs.length=9):∃x1 x2 x3 x4 x5 x6 x7 x8 x9,cs=[x1,x2,x3,x4,x5,x6,x7,x8,x9]:=by
 match cs,h with
 |[x1,x2,x3,x4,x5,x6,x7,x8,x9],_=>exact⟨_,_,_,_,_,_,_,_,_,rfl⟩
def DX (mi:Nat) (cs:List AV) (vst vat vin:AV) (Lst Lat:OL):CL:=[[(mi,.cells (Ymg cs (.nil .ptr) vst vat vin 4))],Lst,Lat]
end Go.Vm
set_option maxRecDepth 100000
namespace Go.Proofs
open List
open Go.Proofs.Tryz
variable {g:Ya} {mi:Nat} {cs:List AV} {vst vat vin:AV} {Lst Lat:OL}
theorem d37(h9:cs.length=9):HM prog ann 37 [.ptr mi 0] g (DX mi cs vst vat vin Lst Lat) fun w ys _=>w=I 4∧ys=DX mi cs vst vat vin Lst Lat:=by
 intro G hg hD;obtain⟨x1,x2,x3,x4,x5,x6,x7,x8,x9,rfl⟩:=nine h9;refine Yt rfl rfl func37 Zw rfl ?_;refine tM ?_;exact hS0 (ys:=DX mi [x1,x2,x3,x4,x5,x6,x7,x8,x9] vst vat vin Lst Lat) (.tmp rfl .nil) rfl hD .refl ⟨rfl,rfl⟩
theorem d16(h9:cs.length=9):HM prog ann 16 [.ptr mi 0] g (DX mi cs vst vat vin Lst Lat) fun w ys _=>w=I 4∧ys=DX mi cs vst vat vin Lst Lat:=by
 intro G hg hD;obtain⟨x1,x2,x3,x4,x5,x6,x7,x8,x9,rfl⟩:=nine h9;refine Yt rfl rfl func16 Zw rfl ?_;refine tM ?_;refine Xf (g:=g) (xs:=DX mi [x1,x2,x3,x4,x5,x6,x7,x8,x9] vst vat vin Lst Lat) 0 hD hg rfl rfl rfl rfl (d37 rfl) ?_;rintro _ _ G2 ⟨rfl,rfl⟩ hx2 hD;refine tM ?_;exact hS0 (ys:=DX mi [x1,x2,x3,x4,x5,x6,x7,x8,x9] vst vat vin Lst Lat) (.tmp rfl .nil) rfl hD hx2 ⟨rfl,rfl⟩
theorem d19{n:Nat}(h9:cs.length=9):HM prog ann 19 [.ptr mi 0,I n] g (DX mi cs vst vat vin Lst Lat) fun w ys _=>Ygx w ⟨[],if n=0 then 3 else 4,0,[]⟩∧ys=DX mi cs vst vat vin Lst Lat:=by
 intro G hg hD;obtain⟨x1,x2,x3,x4,x5,x6,x7,x8,x9,rfl⟩:=nine h9;refine Ye4 rfl rfl func19 Zw rfl ?_;refine tM ?_;refine Jd hD rfl fun b4 hD=>?_;have hD:Dis G ([(b4,.cells [.nil .sl,I 0,.int .i32 0,.str []])]::DX mi [x1,x2,x3,x4,x5,x6,x7,x8,x9] vst vat vin Lst Lat).flatten:=hD;refine tM ?_;refine Xv (fun _:Unit=>[(0,.ptr mi 0),(4,.ptr b4 0),(9,I n),(10,I 0)]) (fun _ h'=>h'=hset G ([(b4,.cells [.nil .sl,I 0,.int .i32 0,.str []])]::DX mi [x1,x2,x3,x4,x5,x6,x7,x8,x9] vst vat vin Lst Lat).flatten) (fun _=>0) () tU rfl ?_;rintro _ _ rfl;refine tM ?_;refine oI ((0:Int)<n) (fun hn=>?_) (fun hn=>?_);rotate_left
 ·obtain rfl:n=0:=by omega
  refine tM ?_;refine Xf (g:=g) (xs:=[(b4,AObj.cells [.nil .sl,I 0,.int .i32 0,.str []])]::DX mi [x1,x2,x3,x4,x5,x6,x7,x8,x9] vst vat vin Lst Lat) 0 hD hg rfl rfl rfl rfl (v43 (l:=[]) (fun G' _ hD'=> .nil) (by decide)) ?_;rintro w _ G3 ⟨L,rfl,hw⟩ hx3 hD;refine tM ?_;have hD:Dis G3 (L::[(b4,AObj.cells [.nil .sl,I 0,.int .i32 0,.str []])]::DX mi [x1,x2,x3,x4,x5,x6,x7,x8,x9] vst vat vin Lst Lat).flatten:=hD;refine o_bld (cs:=[w,I 3,.int .i32 0,.str []]) rfl (by rcases hw with ⟨rfl,_⟩|⟨i,js,rfl,_⟩<;>rfl) ?_;refine Kb 1 hD rfl rfl rfl rfl rfl rfl rfl (by show(w.one&&_)=true;rw[hw.one];rfl) fun hD=>?_;refine tM ?_;exact Ylg (bs:=[[(b4,AObj.cells [w,I 3,.int .i32 0,.str []])]]) (ys:=DX mi [x1,x2,x3,x4,x5,x6,x7,x8,x9] vst vat vin Lst Lat) rfl hw hD (.head _) (by intro i;simp) hx3 fun w' hw'=>⟨⟨w',rfl,hw'⟩,rfl⟩
 rw[if_neg (show ¬n=0 by omega)];refine tM ?_;refine Xf (g:=g) (xs:=[(b4,AObj.cells [.nil .sl,I 0,.int .i32 0,.str []])]::DX mi [x1,x2,x3,x4,x5,x6,x7,x8,x9] vst vat vin Lst Lat) 1 hD hg rfl rfl rfl rfl (d16 rfl) ?_;rintro _ _ G2 ⟨rfl,rfl⟩ hx2 hD;have hD:Dis G2 ([(b4,AObj.cells [.nil .sl,I 0,.int .i32 0,.str []])]::DX mi [x1,x2,x3,x4,x5,x6,x7,x8,x9] vst vat vin Lst Lat).flatten:=hD;refine tM ?_;refine Yfl (l:=[.nil .sl,I 4,.int .i32 0,.str []]) hD rfl rfl rfl (Yi (k:=1) rfl (.head _)) rfl ?_;refine tM ?_;refine Jd hD rfl fun b5 hD=>?_;refine Kb 0 hD rfl rfl rfl rfl rfl rfl rfl rfl fun hD=>?_;refine tM ?_;have hD:Dis G2 ([(b5,AObj.cells [.nil .sl,I 4,.int .i32 0,.str []])]::[(b4,AObj.cells [.nil .sl,I 0,.int .i32 0,.str []])]::DX mi [x1,x2,x3,x4,x5,x6,x7,x8,x9] vst vat vin Lst Lat).flatten:=hD;refine Xf (g:=g) (xs:=[(b5,AObj.cells [.nil .sl,I 4,.int .i32 0,.str []])]::[(b4,AObj.cells [.nil .sl,I 0,.int .i32 0,.str []])]::DX mi [x1,x2,x3,x4,x5,x6,x7,x8,x9] vst vat vin Lst Lat) 0 hD (hg.trans hx2) rfl rfl rfl rfl (v43 (l:=[]) (fun G' _ hD'=> .nil) (by decide)) ?_;rintro w _ G3 ⟨L,rfl,hw⟩ hx3 hD;refine tM ?_;refine Qs 1 hD rfl rfl rfl rfl rfl hw.one (show 0<4 by decide) fun hD=>?_;refine tM ?_;have hD:Dis G3 (L::[(b5,AObj.cells [w,I 4,.int .i32 0,.str []])]::[(b4,AObj.cells [.nil .sl,I 0,.int .i32 0,.str []])]::DX mi [x1,x2,x3,x4,x5,x6,x7,x8,x9] vst vat vin Lst Lat).flatten:=hD;refine Yfl (l:=[w,I 4,.int .i32 0,.str []]) hD rfl rfl rfl (Yi (k:=1) rfl (.head _)) rfl ?_;refine tM ?_;refine Kb 2 hD rfl rfl rfl rfl rfl rfl rfl (by show(w.one&&_)=true;rw[hw.one];rfl) fun hD=>?_;refine tM ?_;exact Ylg (bs:=[[(b5,AObj.cells [w,I 4,.int .i32 0,.str []])],[(b4,AObj.cells [w,I 4,.int .i32 0,.str []])]]) (ys:=DX mi [x1,x2,x3,x4,x5,x6,x7,x8,x9] vst vat vin Lst Lat) rfl hw hD (.tail _ (.head _)) (by intro i;simp) (hx2.trans hx3) fun w' hw'=>⟨⟨w',rfl,hw'⟩,rfl⟩
def RunR (im:Image) (inp:List Int) (n:Int) (f:Nat) (l:List Nat) (w:AV) (ys:CL) (G:Ya):Prop:=if(Hp.new n).n<im.words.length then
  ∃t mi cs vst vat vin Lst Lat,cs.length=9∧w= .tup [t,.ptr mi 0,.bool true]∧Ygx t ⟨[],if f=0 then 3 else 4,0,[]⟩∧ys=DX mi cs vst vat vin Lst Lat∧SlE eV 2 vst (Yg5 im im.stat.length) Lst
 else ∃t c az,w= .tup [t,.ptr c.mi 0,.bool true]∧Ygx t ((Vm.new im inp (Hp.of n im.words l)).run im f).2∧ys=MX c az im ((Vm.new im inp (Hp.of n im.words l)).run im f).1∧MV G c az im ((Vm.new im inp (Hp.of n im.words l)).run im f).1
theorem v11{im:Image}{inp:List Int}{n b:Int}{f:Nat}{l:List Nat}{vi:AV}(hI:ImOk im)(hc:RImg g cs im)(hbd:(Img.body im).length≤50000)(hd:Img.decode (Qy im)=some im)(hb:0≤b∧b≤1048576)(hp:K6 im.words=some l)(hi:Sl (RN .i32) 1 g vi inp)(hil:inp.length≤1048576)(hi32:∀n∈inp,I32 n)
  (hR:¬(Hp.new n).n<im.words.length→∀G c az,MV G c az im (Vm.new im inp (Hp.of n im.words l))→HM prog ann 19 [.ptr c.mi 0,I f] G (MX c az im (Vm.new im inp (Hp.of n im.words l))) fun w ys _=>Ygx w ((Vm.new im inp (Hp.of n im.words l)).run im f).2∧∃c' az',ys=MX c' az' im ((Vm.new im inp (Hp.of n im.words l)).run im f).1∧MV G c' az' im ((Vm.new im inp (Hp.of n im.words l)).run im f).1∧c'.mi=c.mi) :
  HM prog ann 11 [.agg cs,I b,vi,I n,I f] g [] (RunR im inp n f l):=by
 intro G hg hD;have hcG:RImg G cs im:=RImg.mono _ _ _ _ hg hc;have ho:=hc.one;have hlen:cs.length=9:=by obtain⟨vc,vm,vg,vw,vr,vs,vf,rfl,_⟩:=hc;rfl
 obtain⟨x1,x2,x3,x4,x5,x6,x7,x8,x9,rfl⟩:=nine hlen;refine Yt rfl rfl func11 Zw rfl ?_;refine tM ?_;apply Yq rfl rfl ho;refine Jd (xs:=[]) hD rfl fun b10 hD=>?_;have hD:Dis G ([[(b10,.cells [.nil .sl,I 0,.int .i32 0,.str []])]]:CL).flatten:=hD;refine tM ?_;refine Q5 (hb:=G) (L:=[(b10,.cells [.nil .sl,I 0,.int .i32 0,.str []])]) hD rfl rfl rfl rfl (p16v hcG hI.w hbd) ?_;rintro e1 G1 O hD;refine tM ?_;refine Q5 (hb:=G1) (L:=[(b10,.cells [.nil .sl,I 0,.int .i32 0,.str []])]) hD rfl rfl rfl rfl (p29 (a:=b) O.view (enc_len hbd)) ?_;rintro _ G2 ⟨hx2,c2,rfl,hM2⟩ hD;rw[load_ok hI hd hb]at hM2 ⊢;have ho2:=hM2.one;have hlen2:c2.length=9:=by obtain⟨vc,vm,vg,vw,vr,vs,vf,rfl,_⟩:=hM2;rfl
 obtain⟨y1,y2,y3,y4,y5,y6,y7,y8,y9,rfl⟩:=nine hlen2;have ho3:([y1,y2,y3,y4,y5,y6,y7,y8,y9]++[I b]).all AV.one=true:=by rw[all_append,ho2];rfl
 have hD:Dis G2 ([[(b10,.cells [.nil .sl,I 0,.int .i32 0,.str []])]]:CL).flatten:=hD;refine tM ?_;refine Jd (xs:=[[(b10,.cells [.nil .sl,I 0,.int .i32 0,.str []])]]) hD rfl fun b13 hD=>?_;refine Kb (c:=[y1,y2,y3,y4,y5,y6,y7,y8,y9,I b]) 0 hD rfl rfl rfl rfl rfl rfl rfl ho3 fun hD=>?_;have hD:Dis G2 ([[(b13,.cells [y1,y2,y3,y4,y5,y6,y7,y8,y9,I b])],[(b10,.cells [.nil .sl,I 0,.int .i32 0,.str []])]]:CL).flatten:=hD;refine tM ?_;refine Yfl (l:=[y1,y2,y3,y4,y5,y6,y7,y8,y9,I b]) hD rfl rfl rfl (.head _) rfl ?_;refine tM ?_;obtain⟨r1,r2,r3⟩:=Yd4 hI.v;have hgx:=hg.trans (O.ext.trans hx2);have h66:∀h,RImg h [y1,y2,y3,y4,y5,y6,y7,y8,y9] (mvd 0 b im)→HCallC prog ann 66 [.agg ([y1,y2,y3,y4,y5,y6,y7,y8,y9]++[I b]),I 0] h (MoveQ (true,im,0) h):=fun h hR=>by
  have hw:(mvd 0 b im).words.length=im.words.length:=Yoq _;have hs:(mvd 0 b im).stat.length=im.stat.length:=Ylr _;have:=p31 (a:=0) (b:=b) hR (mvd_WF hI.w) (fun r hr=>by rw[hw];exact r1 r hr) (by rw[hw];exact r2) (by rw[hs];exact r3) hb;rw[move_ok hI hb]at this;exact this
 refine Yi6 (g:=G2) (pre:=[[(b13,AObj.cells [y1,y2,y3,y4,y5,y6,y7,y8,y9,I b])],[(b10,.cells [.nil .sl,I 0,.int .i32 0,.str []])]]) (xs:=[]) hD .refl rfl rfl rfl rfl (v28 (n:=n) hI hp hM2 h66 (hi.mono RN.mono hgx) hil hi32) ?_;rintro r ys G3 hR3 hx3 hD;by_cases hn:(Hp.new n).n<im.words.length
 ·rw[if_pos hn]at hR3;obtain⟨mi,rfl,cs2,vst,vat,vin,Lst,Lat,h9,rfl,hst⟩:=hR3;have hD:Dis G3 ([(b13,AObj.cells [y1,y2,y3,y4,y5,y6,y7,y8,y9,I b])]::[(b10,AObj.cells [.nil .sl,I 0,.int .i32 0,.str []])]::DX mi cs2 vst vat vin Lst Lat).flatten:=hD;refine tM ?_;refine Xf (g:=G2) (xs:=[(b13,AObj.cells [y1,y2,y3,y4,y5,y6,y7,y8,y9,I b])]::[(b10,AObj.cells [.nil .sl,I 0,.int .i32 0,.str []])]::DX mi cs2 vst vat vin Lst Lat) 2 hD hx3 rfl rfl rfl rfl (d19 h9) ?_;rintro _ _ G4 ⟨⟨vo,rfl,ht⟩,rfl⟩ hx4 hD;have hD:Dis G4 ([(b13,AObj.cells [y1,y2,y3,y4,y5,y6,y7,y8,y9,I b])]::[(b10,AObj.cells [.nil .sl,I 0,.int .i32 0,.str []])]::DX mi cs2 vst vat vin Lst Lat).flatten:=hD;refine tM ?_;have hov:=(VSl.of_T (h:=G4) ht).one;refine Kb 1 hD rfl rfl rfl rfl rfl rfl rfl (by show(vo.one&&_)=true;rw[hov];rfl) fun hD=>?_;refine tM ?_;refine Yjg (bs:=[[(b13,AObj.cells [y1,y2,y3,y4,y5,y6,y7,y8,y9,I b])],[(b10,AObj.cells [vo,I (if f=0 then 3 else 4),.int .i32 0,.str []])]]) (ys:=DX mi cs2 vst vat vin Lst Lat) (.cells rfl rfl (Yk hD (Yi (k:=1) rfl (.head _))) rfl (.tmp rfl (.tmp rfl .nil))) rfl hD (by intro i;simp) (O.ext.trans (hx2.trans (hx3.trans hx4))) ?_;show(if(Hp.new n).n<im.words.length then _ else _);rw[if_pos hn];exact⟨_,mi,cs2,vst,vat,vin,Lst,Lat,h9,rfl,⟨vo,rfl,ht⟩,rfl,hst⟩
 ·rw[if_neg hn]at hR3;obtain⟨c,az,rfl,rfl,M3⟩:=hR3;have h19:=hR hn G3 c az M3;have hrr:∀G4 t,Ygx t ((Vm.new im inp (Hp.of n im.words l)).run im f).2→∀c' az',c'.mi=c.mi→MV G3 c' az' im ((Vm.new im inp (Hp.of n im.words l)).run im f).1→Ext G3 G4→RunR im inp n f l (.tup [t,.ptr c.mi 0,.bool true]) (MX c' az' im ((Vm.new im inp (Hp.of n im.words l)).run im f).1) G4:=fun G4 t ht c' az' hm M' hx=>by
   unfold RunR;rw[if_neg hn];exact⟨t,c',az',by rw[hm],ht,rfl,MV.mono hx M'⟩
  have hD:Dis G3 ([(b13,AObj.cells [y1,y2,y3,y4,y5,y6,y7,y8,y9,I b])]::[(b10,AObj.cells [.nil .sl,I 0,.int .i32 0,.str []])]::MX c az im (Vm.new im inp (Hp.of n im.words l))).flatten:=hD;refine tM ?_;refine Yi6 (g:=G3) (pre:=[[(b13,AObj.cells [y1,y2,y3,y4,y5,y6,y7,y8,y9,I b])],[(b10,AObj.cells [.nil .sl,I 0,.int .i32 0,.str []])]]) (xs:=MX c az im (Vm.new im inp (Hp.of n im.words l))) hD .refl rfl rfl rfl rfl h19 ?_;generalize (Vm.new im inp (Hp.of n im.words l)).run im f=q at hrr ⊢;obtain⟨x',t'⟩:=q;rintro _ _ G4 ⟨⟨vo,rfl,ht⟩,c',az',rfl,M4,S4⟩ hx4 hD;have hD:Dis G4 ([(b13,AObj.cells [y1,y2,y3,y4,y5,y6,y7,y8,y9,I b])]::[(b10,AObj.cells [.nil .sl,I 0,.int .i32 0,.str []])]::MX c' az' im x').flatten:=hD;refine tM ?_;have hov:=(VSl.of_T (h:=G4) ht).one;refine Kb 1 hD rfl rfl rfl rfl rfl rfl rfl (by show(vo.one&&_)=true;rw[hov];rfl) fun hD=>?_;refine tM ?_;exact Yjg (bs:=[[(b13,AObj.cells [y1,y2,y3,y4,y5,y6,y7,y8,y9,I b])],[(b10,AObj.cells [vo,I t'.fin,.int .i32 t'.code,.str t'.cls])]]) (ys:=MX c' az' im x') (.cells rfl rfl (Yk hD (Yi (k:=1) rfl (.head _))) rfl (.tmp rfl (.tmp rfl .nil))) rfl hD (by intro i;simp) (O.ext.trans (hx2.trans (hx3.trans hx4))) (hrr G4 _ ⟨vo,rfl,ht⟩ c' az' S4 M4 hx4)
end Go.Proofs
end
section
open Go Go.Abs Go.Proofs.SlimCode Go.Img Go.Vm
set_option maxRecDepth 100000
namespace Go.Proofs
open List hiding cons nil
open Go.Proofs.Tryz
abbrev SmM (o5:Nat):List AV:=[I 0,I 0,I 0,.bool false,.sl o5 0 1 4,.nil .sl]
abbrev SmK (o5 o7 o10:Nat):OL:=[(o10,.cells [.int .i32 5,.int .i32 3]),(o7,.cells (SmM o5))]
abbrev SmY (o5 o7 o8 o10:Nat):CL:=[[(o8,.cells W5c)],[(o10,.cells [.int .i32 5,.int .i32 3])],[(o7,.cells (SmM o5))]]
set_option maxHeartbeats 1000000 in
theorem p27t {h:Ya}:HCallC prog ann 20 [] h fun v h'=>∃G o5 o7 o8 o10 vc vg vr vf,v= .agg [vc,.sl o7 0 1 6,I 0,I (-1),vg,.sl o8 0 5 1,vr,.sl o10 0 2 1,vf]∧Ext h G∧h'=hset G (SmY o5 o7 o8 o10).flatten∧Dis G (SmY o5 o7 o8 o10).flatten∧G o5=some (.cells [I 46,I 0,I 0,I 0])∧RImg G [vc,.nil .sl,I 0,I (-1),vg,.nil .sl,vr,.nil .sl,vf] {small with words:=[],methods:=[],stat:=[]}:=by
 refine Yf7 rfl func20 Zw rfl ?_;refine tS ?_;show Yu _ _ _ _ _ _ _ _ [] (hset h []) _;apply Kc Yfy rfl;intro b0 hD;refine tW ?_;apply Ydw (cs:=[I 46,I 0,I 0,I 0]) hD rfl rfl rfl;intro o5 hn hD;have x5:Ext h (upd h o5 (some (.cells [I 46,I 0,I 0,I 0]))):= .upd hn;have e5:upd h o5 (some (.cells [I 46,I 0,I 0,I 0])) o5=some (.cells [I 46,I 0,I 0,I 0]):=upd_same;generalize upd h o5 (some (.cells [I 46,I 0,I 0,I 0]))=g5 at x5 e5 hD ⊢;refine tW ?_;apply Ykm (cs:=[I 0,I 0,I 0,.bool false,.sl o5 0 1 4,.nil .sl]) hD rfl rfl rfl;intro o7 hD;apply Ykm (cs:=W5c) hD rfl rfl rfl;intro o8 hD;apply Ydw (cs:=[I 4]) hD rfl rfl rfl;intro o9 hn hD;have x9:Ext g5 (upd g5 o9 (some (.cells [I 4]))):= .upd hn;have hr:Sl (RN .i64) 1 (upd g5 o9 (some (.cells [I 4]))) (.sl o9 0 1 1) [4]:=⟨_,.sl o9 0 1 _ _ upd_same rfl,.one rfl rfl⟩;generalize upd g5 o9 (some (.cells [I 4]))=g9 at x9 hr hD ⊢;apply Ykm (cs:=[.int .i32 5,.int .i32 3]) hD rfl rfl rfl;intro o10 hD;apply Ydw (cs:=[.bool false,.bool true]) hD rfl rfl rfl;intro o11 hn hD;have x11:Ext g9 (upd g9 o11 (some (.cells [.bool false,.bool true]))):= .upd hn;have hf:Sl RB 1 (upd g9 o11 (some (.cells [.bool false,.bool true]))) (.sl o11 0 2 1) [false,true]:=⟨_,.sl o11 0 2 _ _ upd_same rfl,.cons (c:=[_]) rfl rfl (.one rfl rfl)⟩;generalize upd g9 o11 (some (.cells [.bool false,.bool true]))=g0 at x11 hf hD ⊢;replace hr:=hr.mono RN.mono x11;have e5:=x11 _ _ (x9 _ _ e5);have hx:Ext h g0:=x5.trans (x9.trans x11);clear x5 x9 x11 hn;refine tW ?_;apply Kc hD rfl;intro b1 hD;apply Ju (v:= .agg [.nil .sl,.sl o7 0 1 6,I 0,I (-1),.nil .sl,.sl o8 0 5 1,.sl o9 0 1 1,.sl o10 0 2 1,.sl o11 0 2 1]) (cs':=[.nil .sl,.sl o7 0 1 6,I 0,I (-1),.nil .sl,.sl o8 0 5 1,.sl o9 0 1 1,.sl o10 0 2 1,.sl o11 0 2 1]) 0 hD rfl rfl rfl rfl rfl rfl rfl (Yn rfl);intro hD;obtain⟨p1,p2⟩:=X5 (L':=SmL b0 b1 o8 (.nil .sl) (.sl o7 0 1 6) (.nil .sl) (.sl o9 0 1 1) (.sl o10 0 2 1) (.sl o11 0 2 1) ([]++SmK o5 o7 o10)) (List.Perm.cons _ ((List.Perm.swap _ _ _).trans (List.Perm.cons _ ((List.Perm.cons _ (List.Perm.swap _ _ _)).trans (List.Perm.swap _ _ _))))) hD;refine o_heap p1 ?_;replace hD:=p2;clear p1 p2;generalize AV.sl o9 0 1 1=vr at hr hD ⊢;generalize AV.sl o11 0 2 1=vf at hf hD ⊢;show Yu _ _ _ _ _ _ _ _ [b1,b0] (hset g0 (SmL b0 b1 o8 (.nil .sl) (.sl o7 0 1 6) (.nil .sl) vr (.sl o10 0 2 1) vf ([]++SmK o5 o7 o10))) _;refine tA ?_;refine Kg (fun s:Nat×List (Nat×AObj)×AV×AV×List AV=>[(0,.ptr b0 0),(1,.ptr b1 0),(2,I s.1)]) (fun s=>s.2.1.map Prod.fst++[b1,b0]) (fun s h'=>s.1≤11∧∃g G,h'=hset G (SmL b0 b1 o8 s.2.2.1 (.sl o7 0 1 6) s.2.2.2.1 vr (.sl o10 0 2 1) vf (s.2.1++SmK o5 o7 o10))∧Dis G (SmL b0 b1 o8 s.2.2.1 (.sl o7 0 1 6) s.2.2.2.1 vr (.sl o10 0 2 1) vf (s.2.1++SmK o5 o7 o10))∧Ext g0 g∧SmO g G s.2.2.1 s.2.2.2.1 s.2.2.2.2 s.1) (fun s=>11-s.1) (0,[],.nil .sl,.nil .sl,[]) tU rfl ⟨by simp,g0,g0,rfl,hD,.refl,.nil .refl,.nil .refl,.nil,fun _ h=>by cases h⟩ ?_;clear hD;rintro⟨i,J,vc,vg,cs⟩ _ ⟨hi,g,G,rfl,hD,hgg,H⟩;simp only at hi hD H ⊢;refine tA ?_;refine oI (i<11) (fun H1=>?_) (fun H1=>?_);rotate_left
 ·obtain rfl:i=11:=by omega
  have hgG:=H.c.ext;have hG:=hgg.trans hgG;have hR:RImg G [vc,.nil .sl,I 0,I (-1),vg,.nil .sl,vr,.nil .sl,vf] {small with words:=[],methods:=[],stat:=[]}:=⟨_,_,_,_,_,_,_,rfl,⟨_,H.c.view,H.k.imp fun c a=>RCls.mono _ _ c a hgG⟩,.nil,⟨_,H.d.view,by
   have:∀l:List Nat,Chunks (RN .i64 G) 1 (l.map fun k:Nat=>I k) (l.map fun k:Nat=>(k:Int)):=fun l=>by
    induction l with
    |nil=>exact .nil
    |cons a l ih=>exact .cons (c:=[I a]) rfl rfl ih
   exact this (List.range 10)⟩,.nil,hr.mono RN.mono hG,.nil,hf.mono RB.mono hG⟩
  have hone:=hR.one;refine tA ?_;apply Yed 0 hD rfl rfl rfl rfl rfl;apply Ju (v:= .agg [vc,.sl o7 0 1 6,I 0,I (-1),vg,.sl o8 0 5 1,vr,.sl o10 0 2 1,vf]) (cs':=[vc,.sl o7 0 1 6,I 0,I (-1),vg,.sl o8 0 5 1,vr,.sl o10 0 2 1,vf]) 2 hD rfl rfl rfl rfl rfl rfl (show _=true from hone) (Yn rfl);intro hD;refine tA ?_;refine Ynt (vs:=[.agg [vc,.sl o7 0 1 6,I 0,I (-1),vg,.sl o8 0 5 1,vr,.sl o10 0 2 1,vf]]) (.cells (m:=9) rfl (by kernel_rfl) (Xp (k:=2) hD rfl) rfl .nil) rfl ?_ (fun ht=>by simp[Yx,AV.tree,AV.trees]at ht);have hD:Dis G ((b1,.cells [vc,.sl o7 0 1 6,I 0,I (-1),vg,.sl o8 0 5 1,vr,.sl o10 0 2 1,vf])::(o8,.cells W5c)::(b0,.cells [vc,.sl o7 0 1 6,I 0,I (-1),vg,.sl o8 0 5 1,vr,.sl o10 0 2 1,vf])::(J++SmK o5 o7 o10)):=hD;obtain⟨p1,p2⟩:=X5 (L':=([[(b1,AObj.cells [vc,.sl o7 0 1 6,I 0,I (-1),vg,.sl o8 0 5 1,vr,.sl o10 0 2 1,vf])],[(b0,.cells [vc,.sl o7 0 1 6,I 0,I (-1),vg,.sl o8 0 5 1,vr,.sl o10 0 2 1,vf])],J]++SmY o5 o7 o8 o10).flatten) (by
   refine List.Perm.cons _ ((List.Perm.swap _ _ _).trans (List.Perm.cons _ ?_));show((o8,AObj.cells W5c)::(J++SmK o5 o7 o10)).Perm (J++((o8,AObj.cells W5c)::SmK o5 o7 o10));exact perm_middle.symm) hD
  obtain⟨k1,k2⟩:=J2 p2 (bx:=J.map Prod.fst++[b1,b0]) (by intro i;simp;constructor<;>(intro h;rcases h with h|h|h<;>simp[h]));refine⟨G,o5,o7,o8,o10,vc,vg,vr,vf,rfl,hx.trans hG,?_,k2,hG _ _ e5,hR⟩;show Yv (J.map Prod.fst++[b1,b0]) (hset G ((b1,.cells [vc,.sl o7 0 1 6,I 0,I (-1),vg,.sl o8 0 5 1,vr,.sl o10 0 2 1,vf])::(o8,.cells W5c)::(b0,.cells [vc,.sl o7 0 1 6,I 0,I (-1),vg,.sl o8 0 5 1,vr,.sl o10 0 2 1,vf])::(J++SmK o5 o7 o10)))=_;rw[p1];exact k1
 refine tv ?_;refine tv ?_;refine tv ?_;refine tv ?_;refine tv ?_;refine tv ?_;refine tv ?_;refine Yg9 (σ:=Nat×Nat×Ya×Ya) (fun s=>[(0,.ptr b0 0),(1,.ptr b1 0),(2,I i),(3,.ptr s.1 0)]) (fun s=>s.1::(J.map Prod.fst++[b1,b0])) (fun s h'=>h'=hset s.2.2.2 ((s.1,.cells (Yd0 i s.2.1 0 (-1)))::SmL b0 b1 o8 vc (.sl o7 0 1 6) vg vr (.sl o10 0 2 1) vf (J++SmK o5 o7 o10))∧Dis s.2.2.2 ((s.1,.cells (Yd0 i s.2.1 0 (-1)))::SmL b0 b1 o8 vc (.sl o7 0 1 6) vg vr (.sl o10 0 2 1) vf (J++SmK o5 o7 o10))∧Ext g0 s.2.2.1∧SmO s.2.2.1 s.2.2.2 vc vg cs i∧s.2.2.1 s.2.1=some (.cells [I i])) ?_ ?_
 ·refine tV ?_
  (refine tG ?_;(with_reducible apply Yko (a:=97) (b:=i));exact rfl;exact rfl;exact rfl;exact w64 (by omega) (by omega))
  apply Y1 rfl rfl trivial (cvb (97+i));apply Ydw (cs:=ubs [67,UInt8.ofNat (97+i)]) hD rfl rfl rfl;intro o20 hn hD;have hg:Ext G (upd G o20 (some (.cells (ubs [67,UInt8.ofNat (97+i)])))):= .upd hn;have e20:upd G o20 (some (.cells (ubs [67,UInt8.ofNat (97+i)]))) o20=some (.cells (ubs [67,UInt8.ofNat (97+i)])):=upd_same;replace H:=H.up hg;generalize upd G o20 (some (.cells (ubs [67,UInt8.ofNat (97+i)])))=Ga at e20 hD H ⊢;apply Ynd (bs:=[67,UInt8.ofNat (97+i)]) rfl rfl (.sl o20 0 2 _ _ (Yr hD _ _ e20) rfl) (fun h=>by omega);refine tV ?_;apply Ydw (cs:=[I i]) hD rfl rfl rfl;intro q hn2 hD;have hnq:g q=none:=by
   cases e:g q with
   |none=>rfl
   |some x=>rw[H.c.ext _ _ e]at hn2;cases hn2
  replace H:=H.add (o:= .cells [I i]) hn2;have hq:upd g q (some (.cells [I i])) q=some (.cells [I i]):=upd_same;have hgq:Ext g0 (upd g q (some (.cells [I i]))):=hgg.trans (.upd hnq);refine tV ?_;refine oI (0<i) (fun H2=>?_) (fun H2=>?_)
  ·refine tV ?_;refine oI (i<10) (fun H3=>?_) (fun H3=>?_)
   ·refine tV ?_;have hb:(decide (0<i)&&decide (i<10))=true:=by simp;omega
    apply Y1 (w:= .agg (Yd0 i q 0 (-1))) rfl rfl trivial (by unfold Yd0;rw[hb]);apply Kc hD rfl;intro b3 hD;apply Ju (v:= .agg (Yd0 i q 0 (-1))) (cs':=Yd0 i q 0 (-1)) 0 hD rfl rfl rfl rfl rfl rfl rfl (Yn rfl);intro hD;refine tA ?_;exact⟨(b3,q,_,_),tU,rfl,rfl,hD,hgq,H,hq⟩
   ·refine tV ?_;have hb:(decide (0<i)&&decide (i<10))=false:=by simp;omega
    apply Y1 (w:= .agg (Yd0 i q 0 (-1))) rfl rfl trivial (by unfold Yd0;rw[hb]);apply Kc hD rfl;intro b3 hD;apply Ju (v:= .agg (Yd0 i q 0 (-1))) (cs':=Yd0 i q 0 (-1)) 0 hD rfl rfl rfl rfl rfl rfl rfl (Yn rfl);intro hD;refine tA ?_;exact⟨(b3,q,_,_),tU,rfl,rfl,hD,hgq,H,hq⟩
  ·refine tV ?_;have hb:(decide (0<i)&&decide (i<10))=false:=by simp;omega
   apply Y1 (w:= .agg (Yd0 i q 0 (-1))) rfl rfl trivial (by unfold Yd0;rw[hb]);apply Kc hD rfl;intro b3 hD;apply Ju (v:= .agg (Yd0 i q 0 (-1))) (cs':=Yd0 i q 0 (-1)) 0 hD rfl rfl rfl rfl rfl rfl rfl (Yn rfl);intro hD;refine tA ?_;exact⟨(b3,q,_,_),tU,rfl,rfl,hD,hgq,H,hq⟩
 clear hD H;rintro⟨b3,q,g,G⟩ _ ⟨rfl,hD,hgg,H,hq⟩;simp only at hD hgg H hq ⊢;have hcl:RCls g (Yd0 i q (if i=10 then 2 else 0) (if i=10 then 0 else -1)) (X4 i):=⟨_,_,_,_,rfl,.nil,⟨_,.sl q 0 1 _ _ hq rfl,.one rfl rfl⟩,.nil,.nil⟩;refine Yg9 (σ:=AV×Ya) (fun s=>[(0,.ptr b0 0),(1,.ptr b1 0),(2,I i),(3,.ptr b3 0)]) (fun s=>b3::(J.map Prod.fst++[b1,b0])) (fun s h'=>h'=hset s.2 ((b3,.cells (Yd0 i q (if i=10 then 2 else 0) (if i=10 then 0 else -1)))::SmL b0 b1 o8 vc (.sl o7 0 1 6) s.1 vr (.sl o10 0 2 1) vf (J++SmK o5 o7 o10))∧Dis s.2 ((b3,.cells (Yd0 i q (if i=10 then 2 else 0) (if i=10 then 0 else -1)))::SmL b0 b1 o8 vc (.sl o7 0 1 6) s.1 vr (.sl o10 0 2 1) vf (J++SmK o5 o7 o10))∧OSl g 10 vc cs i s.2∧OSl g 1 s.1 ((List.range (min (i+1) 10)).map fun k:Nat=>I k) (min (i+1) 10) s.2∧∀x∈Qm vc,x∉Qm s.1) ?_ ?_
 ·refine tA ?_;refine oI (i=10) (fun H2=>?_) (fun H2=>?_)
  ·subst H2;refine tA ?_;apply Yna 0 hD rfl rfl rfl rfl rfl rfl (show 0+7<10 by decide);intro hD;refine tA ?_;apply Yna 0 hD rfl rfl rfl rfl rfl rfl (show 0+8<10 by decide);intro hD;refine tA ?_;exact⟨(vg,G),tU,rfl,rfl,hD,H.c,H.d,H.j⟩
  ·rw[if_neg H2,if_neg H2];refine tv ?_;refine tv ?_;refine tv ?_;refine Ymv [.A,.B,.A,.A,.A,.A,.D] hD ?_;refine tZ ?_;apply Yqz 1 hD rfl rfl rfl rfl;refine tZ ?_;apply x_v (v:= .tsl [I i] 1) rfl rfl ⟨rfl,rfl⟩;apply Ype hD rfl rfl rfl H.d rfl rfl rfl (by omega);intro v G2 O hg2 hD;refine tZ ?_;apply Yj9 1 hD rfl rfl rfl rfl O.ones (show 0+4<9 by decide);intro hD;refine tZ ?_;refine tA ?_;have e:min i 10+1=min (i+1) 10:=by omega
   refine⟨(v,G2),tU,rfl,rfl,hD,OSl.beside H.c hg2 O.ext H.j,?_,OSl.fresh O H.c H.j⟩;have:OSl g 1 v ((List.range (min i 10)).map (fun k:Nat=>I k)++[I i]) (min i 10+1) G2:=O.weaken hg2;rwa[show(List.map (fun k:Nat=>I k) (List.range (min i 10))++[I i])=(List.range (min (i+1) 10)).map fun k:Nat=>I k by rw[←e,Yab,show min i 10=i by omega],e]at this
 have hk:=H.k;clear hD H hq;rintro⟨vg,G⟩ _ ⟨rfl,hD,Hc,Hd,hj⟩;simp only at hD Hc Hd hj ⊢;refine Ymv [.A,.B,.B,.A,.A,.A,.D] hD ?_;refine tZ ?_;apply Yqz 1 hD rfl rfl rfl rfl;apply x_ldnL 0 hD rfl rfl rfl rfl;apply x_v (v:= .tsl (Yd0 i q (if i=10 then 2 else 0) (if i=10 then 0 else -1)) 1) rfl rfl ⟨rfl,rfl⟩;apply Ype hD rfl rfl rfl Hc rfl rfl rfl (by omega);intro v G2 O hg2 hD;refine tZ ?_;apply Yj9 1 hD rfl rfl rfl rfl O.ones (show 0+0<9 by decide);intro hD;refine tZ ?_;refine tA ?_;apply Y1 (w:=I ((i+1:Nat):Int)) rfl rfl trivial (by rw[w64 (by omega) (by omega)];rfl);refine tA ?_;obtain⟨p1,p2⟩:=X5 (perm_middle (l₁ := [_,_,_])).symm hD;refine⟨(i+1,_::J,v,vg,cs++Yd0 i q (if i=10 then 2 else 0) (if i=10 then 0 else -1)),by simp only;omega,tU,rfl,by simp only;omega,g,G2,p1,p2,hgg,O.weaken hg2,OSl.beside Hd hg2 O.ext fun x hx hy=>hj x hy hx,?_,fun x hx hy=>OSl.fresh O Hd (fun y h1 h2=>hj y h2 h1) x hy hx⟩;rw[Yab];exact hk.append (.one rfl hcl)
end Go.Proofs
end
section
open Go Go.Abs Go.Proofs.SlimCode Go.Img Go.Vm
namespace Go.Proofs
open List
variable {n:Int} {i:Nat}
def smv (x:Mth) (w r:List Int) (s:Int):Image:={small with methods:=[x],words:=w,rel:=r,stat:=[5,s]}
section
variable {x:Mth} {w r:List Int} {s:Int}
theorem Ypn:(smv x w r s).classes.length=11:=by simp[smv,small]
theorem smv_at(hi:i<(smv x w r s).classes.length):(smv x w r s).classes[i]=X4 i:=by
 simp[smv,small]
theorem Yq6(h0:0≤n)(h1:n<11):IsT (smv x w r s) n:=⟨h0,by rw[Ypn];omega⟩
theorem smv_c(h0:0≤n)(h1:n<11):cAt (smv x w r s) n=X4 n.toNat:=by
 obtain⟨hk,e⟩:=Yk5 (Yq6 (x:=x) (w:=w) (r:=r) (s:=s) h0 h1);rw[e,smv_at]
theorem smv_gl:(smv x w r s).given.length=10:=by simp[smv,small]
theorem smv_g(hi:i<(smv x w r s).given.length):(smv x w r s).given[i]=(i:Int):=by simp[smv,small]
theorem Ypm(h:0<x.code.length):Yhq (smv x w r s) 0:=⟨⟨by decide,(by decide:(0:Int)<1)⟩,h⟩
theorem smv_given:Yoc (smv x w r s):=by
 refine⟨smv_gl,fun i hi=>?_⟩;have h1:=smv_gl (x:=x) (w:=w) (r:=r) (s:=s);have g:=getD_at (a:=(0:Int)) hi;rw[smv_g hi]at g;refine⟨by rw[g];exact Yq6 (by omega) (by omega),fun hm=>?_,fun h0=>?_⟩
 ·rw[g]at hm;obtain⟨j,hj,e⟩:=mem_iff_getElem.1 hm;rw[length_take]at hj;rw[getElem_take,smv_g (by omega)]at e;omega
 ·rw[g,smv_c (by omega) (by omega)];unfold X4;simp only[Zn];rw[Zt h0,Zt (show i<10 by omega)];rfl
theorem smv_first(h:0<x.code.length)(ha:x.args=0)(hg:x.gives=false):FirstP (smv x w r s):=by
 refine⟨⟨⟨by rw[Ypn];omega,by rw[Ypn];omega⟩,(by decide:1≤400),(by decide:2≤200),rfl⟩,smv_given,fun i hi=>?_,⟨Ypm h,ha,hg⟩,.inl rfl⟩;rw[smv_at hi];exact Yk3
theorem smv_kinds:∀i,(hi:i<(smv x w r s).classes.length)→Yr6 (smv x w r s) i (smv x w r s).classes[i]:=by
 intro i hi;have h1:=Ypn (x:=x) (w:=w) (r:=r) (s:=s);rw[smv_at hi];refine⟨.inl rfl,by simp[X4],⟨fun s hs=>?_,fun j hj=>?_,by simp[X4]⟩,⟨by simp[X4],fun s hs=>?_⟩,⟨fun j hj=>?_,fun s hs=>?_⟩,?_⟩
 ·obtain rfl:s=(i:Int):=by simpa[X4]using hs
  exact Yq6 (by omega) (by omega)
 ·simp[X4]at hj
 ·simp[X4]at hs
 ·simp[X4]at hj
 ·simp[X4]at hs
 ·unfold X4 ArrP Yjq;simp only;by_cases h:i=10
  ·simp only[if_pos h];exact⟨by omega,.inl ⟨trivial,Yq6 (by omega) (by omega)⟩,.inr rfl⟩
  ·simp only[if_neg h];exact⟨by omega,.inr ⟨by omega,trivial⟩,.inl trivial⟩
theorem Ymq(hm:MethP (smv x w r s) x)(h:0<x.code.length)(ha:x.args=0)(hg:x.gives=false)(hh:Yr7 (smv x w r s)):ValidP (smv x w r s):=
 ⟨smv_first h ha hg,smv_kinds,fun y hy=>by obtain rfl:=Zm.1 hy;exact hm,hh⟩
theorem smv_WF(hx:x.WF)(hw:Len w∧∀n∈w,I32 n)(hr:Len r∧∀n∈r,I64 n)(hs:I32 s):(smv x w r s).WF:=
 {Qh with
  methods:=⟨(by decide:1≤_),fun c h=>by obtain rfl:=Zm.1 h;exact hx⟩
  words:=hw
  rel:=hr
  stat:=⟨(by decide:2≤_),fun n h=>by
   rcases mem_cons.1 h with rfl|h
   ·exact⟨by decide,by decide⟩
   ·obtain rfl:=Zm.1 h;exact hs⟩}
end
theorem Ypl{x:Mth}:Yr7 (smv x [0,0,10,1,1] [4] 3):=by
 have c0:obC (smv x [0,0,10,1,1] [4] 3) 0=X4 0:=smv_c (n:=0) (by omega) (by omega);have c2:obC (smv x [0,0,10,1,1] [4] 3) 2=X4 10:=smv_c (n:=10) (by omega) (by omega);have hrel:Ybi (smv x [0,0,10,1,1] [4] 3) [0,2]=[4]:=by
  simp only[Ybi,flatMap_cons,flatMap_nil,Yga,Ycj,c0,c2];rfl
 refine⟨[0,2],Yag 1,fun a ha=>?_,fun i hi hr=>?_,hrel,fun r hr=>?_⟩
 ·rcases mem_cons.1 ha with rfl|ha
  ·exact⟨Yq6 (n:=0) (by omega) (by omega),fun _=>by rw[c0];rfl⟩
  ·obtain rfl:=Zm.1 ha;refine⟨Yq6 (n:=10) (by omega) (by omega),fun h=>?_⟩;rw[c2]at h;exact absurd h (by decide)
 ·have hi2:i<2:=hi;have:i=0∨i=1:=by omega
  rcases this with rfl|rfl
  ·cases hr
  ·exact .inr ⟨(by decide:(1:Int)≤3),(by decide:((3:Int)-1).toNat∈[0,2])⟩
 ·rw[hrel]at hr;obtain rfl:=Zm.1 hr;exact .inr ⟨(by decide:(1:Int)≤1),(by decide:((1:Int)-1).toNat∈[0,2])⟩
end Go.Proofs
end
