import Derived.Test.YtibdecjfdpmfoaaGreatVmHears
open Go Go.Abs Go.Proofs.SlimCode Go.Img Go.Vm
namespace Go.Vm
open List
def tblL:List Nat:=[0,128,128,128,128,128,128,128,126,126,126,126,126,129,126,126,126,126,126,126,
 127,127,127,127,127,127,127,127,127,127,127,127,127,127,127,127,127,130,131,131,132,132,133,135,134,136,137,137,137,
 138,138,139,140,140,140,140,141,141,142,143,144,145]
def fnOf (o:Int):Nat:=tblL.getD o.toNat 0
def tblC:List AV:=(.nil .fn)::(tblL.drop 1).map f1
theorem tblC_at{o:Int}(h:1≤o∧o≤61):tblC[o.toNat]?=some (f1 (fnOf o)):=by
 obtain⟨n,rfl⟩:=Int.eq_ofNat_of_zero_le (show 0≤o by omega);rw[fnOf,Zn];obtain⟨m,rfl⟩:∃m,n=m+1:=⟨n-1,by omega⟩;have hm:m<(tblL.drop 1).length:=by show m<61;omega
 show((tblL.drop 1).map f1)[m]?=_;rw[getElem?_map,Zg hm];have:tblL.getD (m+1) 0=(tblL.drop 1)[m]:=by
  rw[Zd,getElem_drop,Zg (by show m+1<62;omega)];simp[Nat.add_comm]
 rw[this];rfl
abbrev stp (x:Vm) (f:Fm) (fs:List Fm):Vm:={x with acts:=f::fs,steps:=x.steps+1}
end Go.Vm
set_option maxRecDepth 100000
namespace Go.Proofs
open List
open Go.Proofs.Tryz
variable {g:Ya} {c:Mc} {a:Ac} {azs:List Ac} {im:Image} {x:Vm} {f:Fm} {fs:List Fm} {i:Kr}
theorem v16P(hI:ImOk im)(M:MV g c (a::azs) im {x with acts:=f::fs})(V:VOk im {x with acts:=f::fs})(h0:x.fin=0)(hst:x.steps<2^40)
  (hN:0≤f.need→HM prog ann 39 [.ptr c.mi 0,I f.need] g (MX c (a::azs) im (stp x f fs)) fun w ys _=>w= .bool ((stp x f fs).needs im f.need).2∧(if((stp x f fs).needs im f.need).2=true then ys=MX c (a::azs) im (stp x f fs) else ∃c' az',ys=MX c' az' im ((stp x f fs).needs im f.need).1∧MV g c' az' im ((stp x f fs).needs im f.need).1∧c'.mi=c.mi))
  (hDo:∀i,0≤f.pc→f.m.code[f.pc.toNat]?=some i→HM prog ann (fnOf i.1) [.ptr c.mi 0,.ptr a.i 0,.agg (eF i)] g (MX c (a::azs) im (stp x {f with need:= -1} fs)) (IR g c im ((stp x {f with need:= -1} fs).does im i))) :
  HM prog ann 16 [.ptr c.mi 0] g (MX c (a::azs) im {x with acts:=f::fs}) fun w ys G=>w=I (({x with acts:=f::fs}:Vm).step im).fin∧IR g c im (({x with acts:=f::fs}:Vm).step im) w ys G:=by
 intro G hg hD;have F:=V.fr f (.head _);have es:({x with acts:=f::fs}:Vm).step im=(stp x f fs).step1 im:=if_neg (fun h=>h h0);rw[es];refine Yt rfl rfl func16 Zw rfl ?_;have hs0:0≤x.steps:=V.st.1;have hn64:(f::fs).length≤64:=V.n;have hazs:azs.length=fs.length:=by have h:=M.fr.len;simpa using h
 have M1:MV g c (a::azs) im (stp x f fs):=⟨M.img,M.inp,M.hw,M.hs,M.st,M.at',M.out,M.ac,M.fr⟩;have h2:∀{q:Vm×Bool},(if 0≤f.need then(stp x f fs).needs im f.need else(stp x f fs,true))=q→(stp x f fs).step1 im=match q with
  |(y,false)=>y
  |(y,true)=>match y.acts with
   |[]=>y
   |f::_=>if f.pc<0∨(f.m.code.length:Int)≤f.pc then(y.top {f with need:= -1}).ends 6 else(y.top {f with need:= -1}).does im (f.m.code.getD f.pc.toNat (0,0,0,0)):=fun e=>by rw[←e];rfl
 apply K5;refine tR ?_;apply K5;apply K5;refine tR ?_;apply Y1 (w:= .bool false) rfl rfl trivial (by simp[h0]);refine tR ?_;apply K5;refine tR ?_;apply Y1 (w:=I (x.steps+1)) rfl rfl trivial (by show I (IntKind.wrap .i64 (x.steps+1))=_;rw[w64 (by omega) (by omega)]);refine tR ?_;refine Qs 0 hD rfl rfl rfl rfl rfl rfl (show 15<20 by decide) fun hD=>?_;have hD:Dis G (MX c (a::azs) im (stp x f fs)).flatten:=hD;refine tR ?_;apply K5;refine tR ?_;apply Xh (v38 M1 (by simp only[length_cons]at hn64;omega) hD);refine tR ?_;refine Jc (σ:=Ya) (fun _=>[(0,.ptr c.mi 0),(3,.ptr a.i 0)]) (fun G1 h'=>h'=hset G1 (MX c (a::azs) im (stp x f fs)).flatten∧Dis G1 (MX c (a::azs) im (stp x f fs)).flatten∧Ext G G1∧(0≤f.need→((stp x f fs).needs im f.need).2=true)) ?_ ?_
 ·refine tM ?_;refine oI (0≤f.need) (fun H1=>?_) (fun H1=>?_)
  ·refine tM ?_;refine Xf (g:=g) (xs:=MX c (a::azs) im (stp x f fs)) 0 hD hg rfl rfl rfl rfl (hN H1) ?_;rintro _ ys G1 ⟨rfl,hR⟩ hx1 hD;have h3:=h2 (if_pos H1);cases hq:(stp x f fs).needs im f.need with
   |mk y b=>
   rw[hq]at h3 hR;cases b with
   |true=>
    obtain rfl:ys=_:=hR;refine tM ?_;exact⟨G1,tU,rfl,rfl,hD,hx1,fun _=>rfl⟩
   |false=>
    obtain⟨c2,az2,rfl,M2,S2⟩:=hR;have h3:(stp x f fs).step1 im=y:=h3;have M2:MV g c2 az2 im y:=M2;have S2:c2.mi=c.mi:=S2;rw[h3,←S2];have hD:Dis G1 (MX c2 az2 im y).flatten:=hD;refine tM ?_;exact hS0 (ys:=MX c2 az2 im y) (.tmp rfl .nil) rfl hD hx1 ⟨rfl,c2,az2,rfl,M2,S2⟩
  ·refine tM ?_;exact⟨G,tU,rfl,rfl,hD,.refl,fun h=>absurd h H1⟩
 clear hD;rintro G1 _ ⟨rfl,hD,hx1,hneed⟩;have h3:(stp x f fs).step1 im=if f.pc<0∨(f.m.code.length:Int)≤f.pc then(stp x {f with need:= -1} fs).ends 6 else(stp x {f with need:= -1} fs).does im (f.m.code.getD f.pc.toNat (0,0,0,0)):=by
  refine h2 (q:=(stp x f fs,true)) ?_;split
  ·rename_i h;have h4:=hneed h;have h5:=Yrg h4;cases hq:(stp x f fs).needs im f.need with
   |mk y b=>rw[hq]at h4 h5;simp only at h4 h5;rw[h4,h5]
  ·rfl
 rw[h3];clear h2 h3 hN;have hA:=Yk hD (Yi (k:=8) rfl (.head _));refine tM ?_;refine Qs 8 hD rfl rfl rfl rfl rfl rfl (show 8<9 by decide) fun hD=>?_;have hD:Dis G1 (MX c (a::azs) im (stp x {f with need:= -1} fs)).flatten:=hD;refine tM ?_;have hgx:=hg.trans hx1;have hA:=Yk hD (Yi (k:=8) rfl (.head _));have hF:=Yk hD (Yi (k:=9) rfl (.head _));have hFv:FrV g a f:=M.fr0;have hcode:=hFv.code;have M2:MV g c (a::azs) im (stp x {f with need:= -1} fs):=MV.topF (x:={x with steps:=x.steps+1}) (f:=f) M1 (a':=a) rfl ⟨hFv.code,hFv.traps,hFv.loc,hFv.stk⟩;refine Ke [(a.i,0,1,[.ptr a.fi 0]),(a.i,5,1,[a.cc])] [.C,.C,.C,.L,.W,.C,.C,.C,.C,.C,.L,.W,.C,.C,.C,.C,.L,.C,.C,.C] (Ybs hA rfl (Ybs hA rfl .nil)) ?_;refine tD ?_;apply Ydz (v40 (f:=f) hF);refine tD ?_;refine dI (f.pc<0) (fun H1=>?_) (fun H1=>?_)
 ·rw[if_pos (.inl H1)];refine tD ?_;refine tM ?_;refine Xf (g:=g) (xs:=MX c (a::azs) im (stp x {f with need:= -1} fs)) 0 hD hgx rfl rfl rfl rfl (v41 (x:=stp x {f with need:= -1} fs)) ?_;rintro _ _ G2 rfl hx2 hD;have hD:Dis G2 (MX c (a::azs) im ((stp x {f with need:= -1} fs).ends 6)).flatten:=hD;refine tM ?_;exact hS0 (ys:=MX c (a::azs) im ((stp x {f with need:= -1} fs).ends 6)) (.tmp rfl .nil) rfl hD (hx1.trans hx2) ⟨rfl,c,_,rfl,M2.ends,rfl⟩
 refine tD ?_;apply Ydz (v40 (f:=f) hF);refine tD ?_;refine d_lenS rfl rfl hcode ?_;refine tD ?_;refine dI ((f.m.code.length:Int)≤f.pc) (fun H2=>?_) (fun H2=>?_)
 ·rw[if_pos (.inr H2)];refine tD ?_;refine tM ?_;refine Xf (g:=g) (xs:=MX c (a::azs) im (stp x {f with need:= -1} fs)) 0 hD hgx rfl rfl rfl rfl (v41 (x:=stp x {f with need:= -1} fs)) ?_;rintro _ _ G2 rfl hx2 hD;have hD:Dis G2 (MX c (a::azs) im ((stp x {f with need:= -1} fs).ends 6)).flatten:=hD;refine tM ?_;exact hS0 (ys:=MX c (a::azs) im ((stp x {f with need:= -1} fs).ends 6)) (.tmp rfl .nil) rfl hD (hx1.trans hx2) ⟨rfl,c,_,rfl,M2.ends,rfl⟩
 rw[if_neg (fun h:_∨_=>h.elim H1 H2)];refine tD ?_;refine tM ?_;obtain⟨p,hp⟩:=Int.eq_ofNat_of_zero_le (show 0≤f.pc by omega);have hpl:p<f.m.code.length:=by omega
 have eg:f.m.code.getD f.pc.toNat (0,0,0,0)=f.m.code[p]:=by rw[hp,Zn];exact(atD hpl).symm
 have hDo2:=hDo f.m.code[p] (by omega) (by rw[hp,Zn];exact Zg hpl);rw[eg];have P:=(hI.mth F.m.1).2.code (f.m.code[p]) (by rw[←F.m.2];exact getElem_mem hpl);obtain⟨d,hd,_,hpt⟩:=hcode.at hpl;have ho:=P.op;clear P eg hDo;generalize f.m.code[p]=i at hd hDo2 ho ⊢;obtain rfl:d=[I i.1,I i.2.1,I i.2.2.1,I i.2.2.2]:=hd;have hv:=v40 (f:=f) hF;rw[show(I f.pc:AV)=I (p:Int) by rw[hp]]at hv;have hA:=Yk hD (Yi (k:=8) rfl (.head _));refine Ke ((a.i,0,1,[.ptr a.fi 0])::(a.i,5,1,[a.cc])::SP (iaV a.cc p 4) [I i.1,I i.2.1,I i.2.2.1,I i.2.2.2]) [.C,.C,.C,.C,.L,.C,.C,.C,.L,.W,.C,.L,.C,.W] (Ybs hA rfl (Ybs hA rfl (stbP (hpt.mono (hgx.trans (Yr hD)))))) ?_;refine tD ?_;apply Ydz hv;refine tD ?_;refine Yl7 hcode hpl rfl rfl rfl ?_;refine Yl6 hpt (fun y hy=> .tail _ (.tail _ hy)) (.many rfl rfl) (by decide) rfl rfl ?_;refine d_alcC hD rfl fun b4 hD=>?_;refine d_stC (cs':=eF i) 0 hD rfl rfl rfl rfl rfl rfl rfl fun hD=>?_;have hA:=Yk hD (Yi (k:=9) rfl (.head _));refine⟨fun h=>absurd h (by decide),Yd2 hA (Yd2 hA (livP (hpt.mono (hgx.trans (Yr hD))))),?_⟩;have hD:Dis G1 ([(b4,AObj.cells (eF i))]::MX c (a::azs) im (stp x {f with need:= -1} fs)).flatten:=hD;refine tD ?_;refine tM ?_;have hm:=Yk hD (Yi (k:=1) rfl (.head _));have hb4:=Yk hD (Yi (k:=0) rfl (.head _));refine Ke [(c.mi,14,1,[tbl]),(b4,0,1,[I i.1]),(b4,0,4,eF i)] [.C,.C,.C,.L,.C,.L,.C,.L,.C,.C,.L,.W] (Ybs hm rfl (Ybs hb4 rfl (Ybs hb4 rfl .nil))) ?_;refine tD ?_;refine Yia (w:= .tptr tblC i.1.toNat) rfl ⟨show 0≤i.1 by omega,show i.1<62 by omega⟩ (by rw[Nat.mul_one];rfl) rfl rfl rfl ?_;refine Yo5 rfl rfl (l:=[f1 (fnOf i.1)]) (Ymr (tblC_at ho)) (.one rfl) ?_;refine tD ?_;refine d_ld rfl rfl (.tail _ (.tail _ (.head _))) (.many rfl rfl) rfl (by decide) ?_;refine d_callT (g:=g) (gf:=fnOf i.1) (first:=[]) (cap:=[]) (vs:=[.ptr c.mi 0,.ptr a.i 0,.agg (eF i)]) (xs:=[(b4,AObj.cells (eF i))]::MX c (a::azs) im (stp x {f with need:= -1} fs)) 1 hD hgx rfl rfl rfl hDo2 ?_;rintro _ _ G2 ⟨c2,az2,rfl,M3,S2⟩ hx2 hD;have hD:Dis G2 ([(b4,AObj.cells (eF i))]::MX c2 az2 im ((stp x {f with need:= -1} fs).does im i)).flatten:=hD;have hb4:=Yk hD (Yi (k:=0) rfl (.head _));have hm:hset G2 ([(b4,AObj.cells (eF i))]::MX c2 az2 im ((stp x {f with need:= -1} fs).does im i)).flatten c.mi=some (.cells (c2.M im ((stp x {f with need:= -1} fs).does im i))):=by rw[←S2];exact Yk hD (Yi (k:=1) rfl (.head _))
 refine⟨fun h=>absurd h (by decide),Yd2 hm (Yd2 hb4 (Yd2 hb4 Ynm)),?_⟩;refine tD ?_;rw[←S2];refine tM ?_;exact Yjg (bs:=[[(b4,AObj.cells (eF i))]]) (ys:=MX c2 az2 im ((stp x {f with need:= -1} fs).does im i)) (.tmp rfl .nil) rfl hD (by intro i;simp) (hx1.trans hx2) ⟨rfl,c2,az2,rfl,M3,S2⟩
end Go.Proofs
namespace Go.Vm
open List
variable {v:AV} {l:List Int} {L:OL} {h:Ya}
def Ygx (w:AV) (t:Tr):Prop:=∃vo,w= .agg [vo,I t.fin,.int .i32 t.code,.str t.cls]∧TSl 1 vo (t.out.flatMap eW) t.out.length
theorem fz_tr{e cd:Int}{s:B}(H:SlE eW 1 v l L)(hD:Dis h ([L]:CL).flatten):∃w,fzV 1000 (.agg [v,I e,.int .i32 cd,.str s]) (hset h ([L]:CL).flatten)=some (.agg [w,I e,.int .i32 cd,.str s],h)∧TSl 1 w (l.flatMap eW) l.length:=by
 obtain⟨w,e1,e2⟩:=Yo1 (k:=998) encW (fun a h x hx=>by obtain rfl:=Zm.1 hx;exact Ygo rfl) H hD;exact⟨w,fzV_agg (Yb2 e1 (Yb2 (Ygo rfl) (Yb2 (Ygo rfl) (Yb2 (Ygo rfl) fzW_nil)))),e2⟩
theorem rn_flat:∀{cs:List AV} {l:List Int},Chunks (RN .i32 h) 1 cs l→cs=l.flatMap eW
 |_,_,.nil=>rfl
 |_,_,.cons _ ha H=>by rw[ha,rn_flat H];rfl
theorem Yne(l:List Int):Ygf .i32 l=l.flatMap eW:=rn_flat (h:=fun _=>none) Chunks.of_map
theorem SlE.rn(H:SlE eW 1 v l L)(hh:Has h L):Sl (RN .i32) 1 h v l:=⟨_,H.vsl encW hh,by rw[←Yne];exact Chunks.of_map⟩
structure RunS where
 x:Vm
 c:Mc
 az:List Ac
 G:Ya
 k:Nat
end Go.Vm
set_option maxRecDepth 100000
namespace Go.Proofs
open List
open Go.Proofs.Tryz
variable {im:Image} {az:List Ac} {l:List Int} {c:Mc} {x:Vm} {g:Ya}
theorem v43{v:AV}{xs:CL}(hv:∀G,Ext g G→Dis G xs.flatten→Sl (RN .i32) 1 (hset G xs.flatten) v l)(hl:l.length≤1048576):HM prog ann 43 [v] g xs fun w ys _=>∃L,ys=L::xs∧SlE eW 1 w l L:=by
 intro G hg hD;refine(p145o (hv G hg hD) hl).mono ?_;rintro w h' O;rcases O.own with ⟨rfl,e1,e2⟩|⟨i,rfl,hi,h2,h3⟩
 ·obtain rfl:l=[]:=length_eq_zero_iff.1 e2;obtain⟨G',e,hD',hx⟩:=Yok hD O.ext;exact⟨G',[]::xs,e,hD',hx,[],rfl,.inl ⟨rfl,rfl,rfl⟩⟩
 ·have hD1:Dis G ((i,AObj.cells (Ygf .i32 l))::xs.flatten):=⟨hi,hD⟩;have hx1:Ext (hset G ((i,AObj.cells (Ygf .i32 l))::xs.flatten)) h':=fun id o e=>by
   by_cases hid:id=i
   ·subst hid;have e2:some (AObj.cells (Ygf .i32 l))=some o:=by rw[←e];exact upd_same.symm
    rw[←e2];exact h2
   ·exact O.ext _ _ (by rw[←e];exact(Ys hid).symm)
  obtain⟨G',e,hD',hx⟩:=Yok hD1 hx1;exact⟨G',[(i,.cells (Ygf .i32 l))]::xs,e,hD',hx,_,rfl,.inr ⟨i,[],rfl,by rw[Yne,append_nil]⟩⟩
theorem Ylg{E:Env}{G G3:Ya}{b4:Nat}{w:AV}{L:OL}{e cd:Int}{s:B}{bs ys:CL}{bx:List Nat}{R:AV→CL→Ya→Prop}(h4:lk E 4=some (.ptr b4 0))(hw:SlE eW 1 w l L)(hD:Dis G3 (L::(bs++ys)).flatten)(hm:(b4,AObj.cells [w,I e,.int .i32 cd,.str s])∈bs.flatten)(hb:∀i,i∈bx↔i∈bs.flatten.map Prod.fst)(hx:Ext G G3)(hR:∀w',TSl 1 w' (l.flatMap eW) l.length→R (.agg [w',I e,.int .i32 cd,.str s]) ys G3) :
  hretZ prog ann 19 f19.results.toList (Abs.SQ G R) .ret E bx (hset G3 (L::(bs++ys)).flatten):=by
 have hD0:Dis G3 (L++(bs++ys).flatten):=hD;obtain⟨hD1,hD2⟩:=Yat.1 hD0;have eL:([L]:CL).flatten=L:=by simp
 obtain⟨w',f1,f2⟩:=fz_tr (e:=e) (cd:=cd) (s:=s) (h:=hset G3 (bs++ys).flatten) hw (by rw[eL];exact hD1);rw[eL]at f1;obtain⟨k1,k2⟩:=J2 hD2 hb;have hh:hset G3 (L::(bs++ys)).flatten=hset (hset G3 (bs++ys).flatten) L:=Kl;have hmm:(b4,AObj.cells [w,I e,.int .i32 cd,.str s])∈(L::(bs++ys)).flatten:=by
  rw[flatten_cons,flatten_append];exact mem_append.2 (.inr (mem_append.2 (.inl hm)))
 refine Yns (vs:=[.agg [w,I e,.int .i32 cd,.str s]]) (.cells h4 rfl (Yk hD hmm) rfl .nil) rfl (v:= .agg [w',I e,.int .i32 cd,.str s]) (h2:=hset G3 (bs++ys).flatten) ?_ ⟨G3,ys,k1,k2,hx,hR w' f2⟩;rw[hh];exact f1
theorem v19P{n:Nat}(P:Nat→Vm→Prop)(hn:n≤2^40)(M:MV g c az im x)(h0:P n x)
  (hS:∀k y c az,P (k+1) y→MV g c az im y→HM prog ann 16 [.ptr c.mi 0] g (MX c az im y) fun w ys G=>w=I (y.step im).fin∧IR g c im (y.step im) w ys G)
  (hP:∀k y,P (k+1) y→(y.step im).fin=0→P k (y.step im))(hO:∀k y,P (k+1) y→(y.step im).out.length≤1048576)(hO0:∀y,P 0 y→y.out.length≤1048576) :
  HM prog ann 19 [.ptr c.mi 0,I n] g (MX c az im x) fun w ys _=>Ygx w (x.run im n).2∧∃c' az',ys=MX c' az' im (x.run im n).1∧MV g c' az' im (x.run im n).1∧c'.mi=c.mi:=by
 intro G hg hD;refine Ye4 rfl rfl func19 Zw rfl ?_;refine tM ?_;refine Jd hD rfl fun b4 hD=>?_;refine tM ?_;have hD0:Dis G ([(b4,.cells [.nil .sl,I 0,.int .i32 0,.str []])]::MX c az im x).flatten:=hD;generalize hfin:x.run im n=fin;refine Kg (fun s:RunS=>[(0,.ptr c.mi 0),(4,.ptr b4 0),(9,I n),(10,I s.k)]) (fun _=>[b4]) (fun s h'=>h'=hset s.G ([(b4,.cells [.nil .sl,I 0,.int .i32 0,.str []])]::MX s.c s.az im s.x).flatten∧Dis s.G ([(b4,.cells [.nil .sl,I 0,.int .i32 0,.str []])]::MX s.c s.az im s.x).flatten∧Ext G s.G∧MV g s.c s.az im s.x∧s.c.mi=c.mi∧s.k≤n∧P (n-s.k) s.x∧s.x.run im (n-s.k)=fin) (fun s=>n-s.k) ⟨x,c,az,G,0⟩ tU rfl ⟨rfl,hD0,.refl,M,rfl,Nat.zero_le _,h0,hfin⟩ ?_;clear hD hD0 M h0 hfin;rintro⟨x,c',az,G1,k⟩ _ ⟨rfl,hD,hx1,M,hmi,hk,h0,hfin⟩;simp only at hD hx1 M hmi hk h0 hfin ⊢;rw[←hmi];refine tM ?_;have hgx:=hg.trans hx1;refine oI ((k:Int)<n) (fun H1=>?_) (fun H1=>?_)
 ·have e1:n-k=(n-(k+1))+1:=by omega
  rw[e1]at h0 hfin;have er:x.run im (n-(k+1)+1)=if(x.step im).fin≠0 then(x.step im,⟨(x.step im).out,(x.step im).fin,(x.step im).code,(x.step im).cls⟩) else(x.step im).run im (n-(k+1)):=rfl
  rw[er]at hfin;refine tM ?_;refine Xf (g:=g) (xs:=[(b4,AObj.cells [.nil .sl,I 0,.int .i32 0,.str []])]::MX c' az im x) 1 hD hgx rfl rfl rfl rfl (hS _ _ _ _ h0 M) ?_;rintro _ _ G2 ⟨rfl,c2,az2,rfl,M2,S2⟩ hx2 hD;have hD:Dis G2 ([(b4,AObj.cells [.nil .sl,I 0,.int .i32 0,.str []])]::MX c2 az2 im (x.step im)).flatten:=hD;by_cases hf:(x.step im).fin=0
  ·rw[if_neg (by simpa using hf)]at hfin;rw[hf];refine tM ?_;apply Y1 (w:=I ((k+1:Nat):Int)) rfl rfl trivial (by rw[w64 (by omega) (by omega)];rfl);refine tM ?_;exact⟨⟨x.step im,c2,az2,G2,k+1⟩,by show n-(k+1)<n-k;omega,tU,rfl,rfl,hD,hx1.trans hx2,M2,S2,by show k+1≤n;omega,hP _ _ h0 hf,hfin⟩
  ·rw[if_pos hf]at hfin;refine tM ?_;apply Y1 (w:= .bool true) rfl rfl trivial (by simp[hf]);refine tM ?_;rw[←S2];refine Yfl (l:=[c2.vo,I (x.step im).fin,.int .i32 (x.step im).code,.str (x.step im).cls]) hD rfl rfl rfl (Yi (k:=1) rfl (.head _)) rfl ?_;refine tM ?_;refine Jd hD rfl fun b5 hD=>?_;refine Kb 0 hD rfl rfl rfl rfl rfl rfl rfl (by show(c2.vo.one&&_)=true;rw[M2.out.one];rfl) fun hD=>?_;refine tM ?_;have hD:Dis G2 ([(b5,AObj.cells [c2.vo,I (x.step im).fin,.int .i32 (x.step im).code,.str (x.step im).cls])]::[(b4,AObj.cells [.nil .sl,I 0,.int .i32 0,.str []])]::MX c2 az2 im (x.step im)).flatten:=hD;refine Xf (g:=g) (xs:=[(b5,AObj.cells [c2.vo,I (x.step im).fin,.int .i32 (x.step im).code,.str (x.step im).cls])]::[(b4,AObj.cells [.nil .sl,I 0,.int .i32 0,.str []])]::MX c2 az2 im (x.step im)) 0 hD (hgx.trans hx2) rfl rfl rfl rfl (v43 (fun G' _ hD'=>SlE.rn M2.out (Xi (k:=8) hD' rfl)) (hO _ _ h0)) ?_;rintro w _ G3 ⟨L,rfl,hw⟩ hx3 hD;refine tM ?_;refine Qs 1 hD rfl rfl rfl rfl rfl hw.one (show 0<4 by decide) fun hD=>?_;refine tM ?_;have hD:Dis G3 (L::[(b5,AObj.cells [w,I (x.step im).fin,.int .i32 (x.step im).code,.str (x.step im).cls])]::[(b4,AObj.cells [.nil .sl,I 0,.int .i32 0,.str []])]::MX c2 az2 im (x.step im)).flatten:=hD;refine Yfl (l:=[w,I (x.step im).fin,.int .i32 (x.step im).code,.str (x.step im).cls]) hD rfl rfl rfl (Yi (k:=1) rfl (.head _)) rfl ?_;refine tM ?_;refine Kb 2 hD rfl rfl rfl rfl rfl rfl rfl (by show(w.one&&_)=true;rw[hw.one];rfl) fun hD=>?_;refine tM ?_;subst hfin;exact Ylg (bs:=[[(b5,AObj.cells [w,I (x.step im).fin,.int .i32 (x.step im).code,.str (x.step im).cls])],[(b4,AObj.cells [w,I (x.step im).fin,.int .i32 (x.step im).code,.str (x.step im).cls])]]) (ys:=MX c2 az2 im (x.step im)) rfl hw hD (.tail _ (.head _)) (by intro i;simp) (hx1.trans (hx2.trans hx3)) fun w' hw'=>⟨⟨w',rfl,hw'⟩,c2,az2,rfl,M2,rfl⟩
 ·have e1:n-k=0:=by omega
  rw[e1]at h0 hfin;refine tM ?_;refine Xf (g:=g) (xs:=[(b4,AObj.cells [.nil .sl,I 0,.int .i32 0,.str []])]::MX c' az im x) 0 hD hgx rfl rfl rfl rfl (v43 (fun G' _ hD'=>SlE.rn M.out (Xi (k:=7) hD' rfl)) (hO0 _ h0)) ?_;rintro w _ G3 ⟨L,rfl,hw⟩ hx3 hD;refine tM ?_;have hD:Dis G3 (L::[(b4,AObj.cells [.nil .sl,I 0,.int .i32 0,.str []])]::MX c' az im x).flatten:=hD;refine o_bld (cs:=[w,I 3,.int .i32 0,.str []]) rfl (by rcases hw with ⟨rfl,_⟩|⟨i,js,rfl,_⟩<;>rfl) ?_;refine Kb 1 hD rfl rfl rfl rfl rfl rfl rfl (by show(w.one&&_)=true;rw[hw.one];rfl) fun hD=>?_;refine tM ?_;subst hfin;exact Ylg (bs:=[[(b4,AObj.cells [w,I 3,.int .i32 0,.str []])]]) (ys:=MX c' az im x) rfl hw hD (.head _) (by intro i;simp) (hx1.trans hx3) fun w' hw'=>⟨⟨w',rfl,hw'⟩,c',az,rfl,M,rfl⟩
theorem v14:HM prog ann 14 [.ptr c.mi 0] g (MX c az im x) fun w ys _=>w=I x.steps∧ys=MX c az im x:=by
 intro G hg hD;refine Yt rfl rfl func14 Zw rfl ?_;refine tM ?_;exact hS0 (ys:=MX c az im x) (.tmp rfl .nil) rfl hD .refl ⟨rfl,rfl⟩
end Go.Proofs
namespace Go.Vm
open List
theorem eB_map:∀l:List Bool,l.flatMap eB=l.map AV.bool
 |[]=>rfl
 |_::l=>by rw[flatMap_cons,eB_map l];rfl
def Hp.of (n:Int) (w:List Int) (l:List Nat):Hp:=⟨(Hp.new n).n,w,Y5 w.length l⟩
end Go.Vm
set_option maxRecDepth 100000
namespace Go.Proofs
open List
open Go.Proofs.Tryz
theorem v68{g:Ya}{v:AV}{w:List Int}{l:List Nat}{n:Int}(hv:Sl (RN .i32) 1 g v w)(h32:∀x∈w,I32 x)(hp:K6 w=some l):HM prog ann 68 [v,I n] g [] fun r ys _=>if(Hp.new n).n<w.length then r= .tup [.nil .ptr,.bool false]∧ys=[] else ∃b Lw Ls vw vs,r= .tup [.ptr b 0,.bool true]∧ys=HX b (Hp.new n).n vw vs Lw Ls∧SlE eW 1 vw w Lw∧SlE eB 1 vs (Y5 w.length l) Ls:=by
 intro G hg hD;refine Yz rfl func68 Zw rfl ?_;refine tM ?_;refine Xf (g:=g) (xs:=[]) 0 hD hg rfl rfl rfl rfl (v146) ?_;rintro _ _ G1 ⟨b,rfl,rfl⟩ hx1 hD;have hD:Dis G1 ([[(b,.cells [I (Hp.new n).n,.nil .sl,.nil .sl])]]:CL).flatten:=hD;have hg1:=hg.trans hx1;have hvv:=hv.mono RN.mono (hg1.trans (Yr hD));have hnn:0≤(Hp.new n).n∧(Hp.new n).n≤1048576:=by show 0≤min (max n 0) 1048576∧min (max n 0) 1048576≤1048576;omega
 refine tM ?_;apply Y0 rfl rfl hvv;refine tM ?_;refine oI ((Hp.new n).n<w.length) (fun H1=>?_) (fun H1=>?_)
 ·refine tM ?_;refine X7 rfl rfl ?_ fun _=> .inl ⟨G,[],rfl,trivial,.refl,by show(if(Hp.new n).n<w.length then _ else _);rw[if_pos H1];exact⟨rfl,rfl⟩⟩;rw[Yl];exact⟨_,[],rfl,trivial,hx1.trans (Yr hD),by show(if(Hp.new n).n<w.length then _ else _);rw[if_pos H1];exact⟨rfl,rfl⟩⟩
 refine tM ?_;have hkb:Yv [b] (hset G1 ([[(b,AObj.cells [I (Hp.new n).n,.nil .sl,.nil .sl])]]:CL).flatten)=G1:=Kw hD;have h43:HCallC prog ann 43 [v] G1 fun w1 k=>∃G2 L1,k=hset G2 ([L1]:CL).flatten∧Dis G2 ([L1]:CL).flatten∧Ext G1 G2∧SlE eW 1 w1 w L1:=by
  refine HCallC.mono (v43 (g:=g) (xs:=[]) (fun G' hx' hD'=>hv.mono RN.mono (hx'.trans (Yr hD'))) (by omega) G1 hg1 trivial) ?_;rintro w1 k ⟨G2,_,rfl,hD2,hx2,L1,rfl,hw1⟩;exact⟨G2,L1,rfl,hD2,hx2,hw1⟩
 apply Ybe [b] [.A,.A,.A,.A,.A,.C,.C,.A,.A,.E,.A,.A,.D] (by intro id hid;obtain rfl:=Zm.1 hid;rw[Yk hD (.head _)];simp) rfl;apply x_v rfl rfl trivial;apply x_v rfl rfl trivial;apply x_v rfl rfl trivial;refine x_A (R:=fun E' bx' k=>∃w1 G2 L1,E'=(20,w1)::_∧bx'=[]∧k=hset G2 ([L1]:CL).flatten∧Dis G2 ([L1]:CL).flatten∧Ext G1 G2∧SlE eW 1 w1 w L1) (by
  rw[hkb];exact Yb rfl rfl rfl rfl h43 fun w1 k q=>by
   obtain⟨G2,L1,q⟩:=q;exact X8 ⟨rfl,w1,G2,L1,rfl,rfl,q⟩) ?_
 rintro _ _ _ ⟨w1,G2,L1,rfl,rfl,rfl,hD1,hx2,hw1⟩ hk1;replace hk1:=hk1 b (by simp);have ej:Jv [b] (hset G1 ([[(b,AObj.cells [I (Hp.new n).n,.nil .sl,.nil .sl])]]:CL).flatten) (hset G2 ([L1]:CL).flatten)=hset G2 ([(b,AObj.cells [I (Hp.new n).n,.nil .sl,.nil .sl])]::[L1]).flatten:=by
  funext id;show Jv [b] (upd G1 b (some (AObj.cells [I (Hp.new n).n,.nil .sl,.nil .sl]))) (hset G2 ([L1]:CL).flatten) id=upd (hset G2 ([L1]:CL).flatten) b (some (AObj.cells [I (Hp.new n).n,.nil .sl,.nil .sl])) id;unfold Jv upd;by_cases e:id=b
  ·subst e;simp
  ·simp[e]
 rw[ej];have hD:Dis G2 ([(b,AObj.cells [I (Hp.new n).n,.nil .sl,.nil .sl])]::[L1]).flatten:=⟨hk1,hD1⟩;have hvv:=hv.mono RN.mono ((hg1.trans hx2).trans (Yr hD));apply x_v rfl rfl trivial;apply Ypd rfl rfl hvv;apply x_mksC rfl rfl rfl (by omega) (by omega);intro j hj;rw[Zn,Yhr];have hD:Dis G2 ([(j,AObj.cells ((Y5 w.length []).map AV.bool))]::[(b,AObj.cells [I (Hp.new n).n,.nil .sl,.nil .sl])]::[L1]).flatten:=⟨hj,hD⟩;show Xe _ _ _ _ _ _ _ _ _ (hset G2 ([(j,AObj.cells ((Y5 w.length []).map AV.bool))]::[(b,AObj.cells [I (Hp.new n).n,.nil .sl,.nil .sl])]::[L1]).flatten) _;apply x_v rfl rfl trivial;apply x_v rfl rfl trivial;apply x_st1E rfl rfl rfl hw1.one (Yk hD (Yi (k:=1) rfl (.head _))) (by simp) (show(1:Nat)<3 by decide);obtain⟨e1,hD⟩:=Yet (k:=1) (o':= .cells [I (Hp.new n).n,w1,.nil .sl]) hD rfl;rw[show([I (Hp.new n).n,AV.nil .sl,.nil .sl].set (0+1) w1)=[I (Hp.new n).n,w1,.nil .sl] from rfl,e1];apply x_v rfl rfl trivial;apply x_v rfl rfl trivial;refine x_D (R:=fun E' bx' k=>E'=Qn none _∧bx'=[]∧k=hset G2 ([(j,AObj.cells ((Y5 w.length []).map AV.bool))]::[(b,AObj.cells [I (Hp.new n).n,w1,.sl j 0 w.length 1])]::[L1]).flatten∧Dis G2 ([(j,AObj.cells ((Y5 w.length []).map AV.bool))]::[(b,AObj.cells [I (Hp.new n).n,w1,.sl j 0 w.length 1])]::[L1]).flatten) (Qs 1 hD rfl rfl rfl rfl rfl rfl (show 2<3 by decide) fun h=>X8 ⟨rfl,rfl,rfl,rfl,h⟩) ?_;clear hD hj ej hk1 e1;rintro _ _ _ ⟨rfl,rfl,rfl,hD⟩;refine⟨fun id hid=>by obtain rfl:=Zm.1 hid;rw[Yk hD (Yi (k:=1) rfl (.head _))];simp,?_⟩;apply Yba;have hg2:=hg1.trans hx2;refine tM ?_;refine Xv (fun s:Nat×List Nat=>[(0,v),(6,.ptr b 0),(7,.int .i64 (s.1:Int))]) (fun s h'=>h'=hset G2 ([(j,AObj.cells ((Y5 w.length s.2).map AV.bool))]::[(b,AObj.cells [I (Hp.new n).n,w1,.sl j 0 w.length 1])]::[L1]).flatten∧Dis G2 ([(j,AObj.cells ((Y5 w.length s.2).map AV.bool))]::[(b,AObj.cells [I (Hp.new n).n,w1,.sl j 0 w.length 1])]::[L1]).flatten∧Yfk w 0=(Yfk w s.1).map (s.2++ ·)) (fun s=>w.length-s.1) (0,[]) tU ⟨rfl,hD,by simp⟩ ?_;clear hD;rintro⟨a,m⟩ _ ⟨rfl,hD,hs⟩;simp only at hD hs ⊢;have hvv:=hv.mono RN.mono (hg2.trans (Yr hD));have hps:Yfk w 0=some l:=by
  unfold K6 at hp;split at hp
  ·exact hp
  ·cases hp
 refine tM ?_;apply Y0 rfl rfl hvv;refine tM ?_;refine oI ((a:Int)<w.length) (fun H2=>?_) (fun H2=>?_);rotate_left
 ·refine tM ?_;have hlm:l=m:=by rw[hps,Ku (by omega)]at hs;simpa using hs
  subst hlm;refine X7 rfl rfl ?_ fun h=>by cases h
  rw[Yl];obtain⟨e2,hD2⟩:=X5 (L':=(HX b (Hp.new n).n w1 (.sl j 0 w.length 1) L1 [(j,AObj.cells ((Y5 w.length l).map AV.bool))]).flatten) (by unfold HX;simp;exact(List.Perm.swap _ _ _).trans (List.Perm.cons _ (perm_append_comm (l₁ := [_])))) hD;refine⟨G2,_,e2,hD2,hx1.trans hx2,?_⟩;show(if(Hp.new n).n<w.length then _ else _);rw[if_neg H1];refine⟨b,L1,_,w1,_,rfl,rfl,hw1,.inr ⟨j,[],?_,?_⟩⟩
  ·rw[Qv]
  ·rw[append_nil,eB_map]
 have HB:Ob w a:=by
  refine Decidable.byContradiction fun h=>?_;rw[hps,Yc5 (by omega) h]at hs;cases hs
 have ha1:=HB.1;have hB2:=HB.2.1;have hB3:=HB.2.2;obtain⟨d0,hd0,_,hp0⟩:=hv.at (show a<w.length by omega);obtain⟨d1,hd1,_,hp1⟩:=hv.at ha1;rw[atD]at hd0 hd1;obtain rfl:d0=[.int .i32 (w.getD a 0)]:=hd0;obtain rfl:d1=[.int .i32 (w.getD (a+1) 0)]:=hd1;have i0:I32 (w.getD a 0):=getI h32 a;have i1:I32 (w.getD (a+1) 0):=getI h32 (a+1);have hs2:=Ymt hs (by omega) HB;generalize hx0:w.getD a 0=x0 at hp0 hB2 i0;generalize hxx1:w.getD (a+1) 0=x1 at hp1 hB2 hB3 i1 hs2;have h147:=p147k (h:=hset G2 ([(j,AObj.cells ((Y5 w.length m).map AV.bool))]::[(b,AObj.cells [I (Hp.new n).n,w1,.sl j 0 w.length 1])]::[L1]).flatten) (k:=x0) (n:=x1);rw[Zt hB2]at h147;unfold Yme at hB2;unfold I32 at i0 i1;refine tM ?_;refine Ke (SP (iaV v a 1) [.int .i32 x0]++SP (iaV v (a+1) 1) [.int .i32 x1]) [.C,.C,.C,.C,.C,.C,.C,.C,.C,.L,.C,.C,.C,.C,.C,.L,.C,.W,.C,.C,.C,.C,.C,.C,.C,.L,.C,.C,.C,.C,.C,.C,.C,.C] (fun x hx=>(mem_append.1 hx).elim (stbP (hp0.mono (hg2.trans (Yr hD))) x) (stbP (hp1.mono (hg2.trans (Yr hD))) x)) ?_;refine tD ?_;apply Yia (w:=I ((a+1:Nat):Int)) rfl trivial (by rw[w64 (by omega) (by omega)];rfl);refine tD ?_;refine d_lenS rfl rfl hvv ?_;refine dI (((a+1:Nat):Int)=(w.length:Int)) (fun h=>absurd h (by omega)) (fun _=>?_);refine tD ?_;refine Yl7 hv (show a<w.length by omega) rfl rfl rfl ?_;refine tD ?_;refine Yl6 hp0 (fun y hy=>mem_append.2 (.inl hy)) (.one rfl) (by decide) rfl rfl ?_;refine tD ?_;apply Yia (w:=I x0) rfl trivial (by rw[w64 (by omega) (by omega)]);refine tD ?_;apply Yia (w:=I ((a+1:Nat):Int)) rfl trivial (by rw[w64 (by omega) (by omega)];rfl);refine tD ?_;refine Yl7 hv ha1 rfl rfl rfl ?_;refine tD ?_;refine Yl6 hp1 (fun y hy=>mem_append.2 (.inr hy)) (.one rfl) (by decide) rfl rfl ?_;refine tD ?_;apply Yia (w:=I x1) rfl trivial (by rw[w64 (by omega) (by omega)]);refine tD ?_;apply Ydz h147;refine tD ?_;apply Yia (w:=I ((a+1:Nat):Int)) rfl trivial (by rw[w64 (by omega) (by omega)];rfl);refine tD ?_;refine Yl7 hv ha1 rfl rfl rfl ?_;refine tD ?_;refine Yl6 hp1 (fun y hy=>mem_append.2 (.inr hy)) (.one rfl) (by decide) rfl rfl ?_;refine tD ?_;apply Yia (w:=I x1) rfl trivial (by rw[w64 (by omega) (by omega)]);refine tD ?_;refine d_lenS rfl rfl hvv ?_;refine tD ?_;apply Yia (w:=I ((w.length:Int)-a)) rfl trivial (by rw[w64 (by omega) (by omega)]);refine tD ?_;apply Yia (w:=I ((w.length:Int)-a-2)) rfl trivial (by rw[w64 (by omega) (by omega)]);refine tD ?_;refine dI ((w.length:Int)-a-2<x1) (fun h=>absurd h (by omega)) (fun _=>?_);refine tD ?_;refine tM ?_;apply Y1 (w:= .ptr j a) rfl rfl ⟨rfl,by omega,by omega⟩ (by rw[Zn,Nat.mul_one,Nat.zero_add]);refine Qs 0 hD rfl rfl rfl rfl rfl rfl (show a<_ by rw[length_map,Qv];omega) fun hD=>?_;rw[show((Y5 w.length m).map AV.bool).set a (.bool true)=(Y5 w.length (m++[a])).map AV.bool by rw[Yht,map_set]]at hD ⊢;have hD:Dis G2 ([(j,AObj.cells ((Y5 w.length (m++[a])).map AV.bool))]::[(b,AObj.cells [I (Hp.new n).n,w1,.sl j 0 w.length 1])]::[L1]).flatten:=hD;refine tM ?_;apply Y1 (w:=I ((a+1:Nat):Int)) rfl rfl trivial (by rw[w64 (by omega) (by omega)];rfl);refine o_iaQ hv ha1 rfl rfl rfl ?_;refine Ji rfl rfl (hp1.mono (hg2.trans (Yr hD))) (.one rfl) (fun h=>absurd h (by decide)) ?_;apply Y1 (w:=I x1) rfl rfl trivial (by rw[w64 (by omega) (by omega)]);apply Y1 (w:=I (2+x1)) rfl rfl trivial (by rw[w64 (by omega) (by omega)]);apply Y1 (w:=I ((a+2+x1.toNat:Nat):Int)) rfl rfl trivial (by rw[w64 (by omega) (by omega)];congr 1;omega);refine tM ?_;exact⟨(a+2+x1.toNat,m++[a]),by show w.length-(a+2+x1.toNat)<w.length-a;omega,tU,rfl,rfl,hD,hs2⟩
end Go.Proofs
namespace Go.Vm
open List
variable {v:AV} {l:List AV}
def Yh8 (l:List AV) (a:Nat) (v:AV):Nat→List AV
 |0=>l
 |n+1=>(Yh8 l a v n).set (a+n) v
theorem Ygr{a:Nat}:∀n,(Yh8 l a v n).length=l.length
 |0=>rfl
 |n+1=>by rw[Yh8,length_set,Ygr n]
def tZ:List AV:=List.replicate 62 (.nil .fn)
def tA:List AV:=Yh8 tZ 8 (f1 126) 12
def tB:List AV:=Yh8 tA 20 (f1 127) 17
def tC:List AV:=Yh8 tB 1 (f1 128) 7
theorem fzW_all{k:Nat}{h:Ya}:∀{_l:List AV},(∀x∈_l,fzV k x h=some (x,h))→fzW (fzV k) _l h=some (_l,h)
 |[],_=>rfl
 |v::_l,H=>Yb2 (H v (.head _)) (fzW_all fun x hx=>H x (.tail _ hx))
theorem st_tab{P:Program}{A:Abs.Ann}{f nt q d i:Nat}{k:Int}{E:Env}{bx:List Nat}{h0:Ya}{Q:Abs.AX→Env→List Nat→Ya→Prop}{x:SX}{r:List SO}(hl:l.length=62)(hk:0≤k∧k<62)(hD:Dis hp0 ([[(i,AObj.cells l)]]:CL).flatten)(hq:q=0)(hd:decide (d<nt)=true)(hx:ev (lk E) x=some (.sl i 0 62 1))(ho:v.one=true)
  (H:∀l',l'=l.set k.toNat v→l'.length=62→Dis hp0 ([[(i,AObj.cells l')]]:CL).flatten→Yu P A f nt h0 0 r (Qn none ((d,.ptr i k.toNat)::E)) bx (hset hp0 ([[(i,AObj.cells l')]]:CL).flatten) Q) :
  Yu P A f nt h0 q (⟨some d,none,.ia x (.c (.int .i64 k)) none 1⟩::⟨none,none,.st (.r d) (.c v) 1⟩::r) E bx (hset hp0 ([[(i,AObj.cells l)]]:CL).flatten) Q:=by
 subst hq;refine Yq (p:=1=1∧0≤k∧k<((62:Nat):Int)) (v:= .ptr i (0+k.toNat*1)) hd (by have hy:ev (lk E) (.c (.int .i64 k))=some (.int .i64 k):=rfl;simp only[sv,hx,hy]) ⟨rfl,by omega,by omega⟩ ?_;rw[Nat.mul_one,Nat.zero_add];refine Qs (off:=k.toNat) 0 hD rfl rfl (by simp[ev,lk]) rfl rfl ho (by omega) fun hD=>?_;exact H _ rfl (by rw[length_set];exact hl) hD
end Go.Vm
set_option maxRecDepth 100000
namespace Go.Proofs
open List
open Go.Proofs.Tryz
theorem pTab:PureC prog ann 67 [] tbl:=by
 refine Kf func67 Zw rfl rfl rfl ?_;refine tM ?_;refine o_mkL (hb:=hp0) (L:=[]) (m:=62) trivial rfl rfl rfl (by decide) (by decide) fun i hD=>?_;have hD:Dis hp0 ([[(i,AObj.cells tZ)]]:CL).flatten:=hD;show Yu _ _ _ _ _ _ _ _ _ (hset hp0 ([[(i,AObj.cells tZ)]]:CL).flatten) _;refine tM ?_;refine Xv (fun s:Nat=>[(1,.sl i 0 62 1),(2,I ((8+s:Nat):Int))]) (fun s h'=>s≤12∧h'=hset hp0 ([[(i,AObj.cells (Yh8 tZ 8 (f1 126) s))]]:CL).flatten∧Dis hp0 ([[(i,AObj.cells (Yh8 tZ 8 (f1 126) s))]]:CL).flatten) (fun s=>12-s) 0 tU ⟨by decide,rfl,hD⟩ ?_;clear hD;rintro s _ ⟨hs,rfl,hD⟩;refine tM ?_;refine oI (((8+s:Nat):Int)≤19) (fun H1=>?_) (fun H1=>?_)
 ·refine tM ?_;apply Y1 (w:= .ptr i (8+s)) rfl rfl ⟨rfl,by omega,by omega⟩ (by rw[Zn,Nat.mul_one,Nat.zero_add]);refine Qs 0 hD rfl rfl rfl rfl rfl rfl (by rw[Ygr];show 8+s<62;omega) fun hD=>?_;refine tM ?_;apply Y1 (w:=I ((8+(s+1):Nat):Int)) rfl rfl trivial (by rw[w64 (by omega) (by omega)];rfl);refine tM ?_;exact⟨s+1,by show 12-(s+1)<12-s;omega,tU,rfl,by omega,rfl,hD⟩
 obtain rfl:s=12:=by omega
 have hD:Dis hp0 ([[(i,AObj.cells tA)]]:CL).flatten:=hD;show Yu _ _ _ _ _ _ _ _ _ (hset hp0 ([[(i,AObj.cells tA)]]:CL).flatten) _;refine tM ?_;refine Xv (fun s:Nat=>[(1,.sl i 0 62 1),(3,I ((20+s:Nat):Int))]) (fun s h'=>s≤17∧h'=hset hp0 ([[(i,AObj.cells (Yh8 tA 20 (f1 127) s))]]:CL).flatten∧Dis hp0 ([[(i,AObj.cells (Yh8 tA 20 (f1 127) s))]]:CL).flatten) (fun s=>17-s) 0 tU ⟨by decide,rfl,hD⟩ ?_;clear hD;rintro s _ ⟨hs,rfl,hD⟩;refine tM ?_;refine oI (((20+s:Nat):Int)≤36) (fun H1=>?_) (fun H1=>?_)
 ·refine tM ?_;apply Y1 (w:= .ptr i (20+s)) rfl rfl ⟨rfl,by omega,by omega⟩ (by rw[Zn,Nat.mul_one,Nat.zero_add]);refine Qs 0 hD rfl rfl rfl rfl rfl rfl (by rw[Ygr];show 20+s<62;omega) fun hD=>?_;refine tM ?_;apply Y1 (w:=I ((20+(s+1):Nat):Int)) rfl rfl trivial (by rw[w64 (by omega) (by omega)];rfl);refine tM ?_;exact⟨s+1,by show 17-(s+1)<17-s;omega,tU,rfl,by omega,rfl,hD⟩
 obtain rfl:s=17:=by omega
 have hD:Dis hp0 ([[(i,AObj.cells tB)]]:CL).flatten:=hD;show Yu _ _ _ _ _ _ _ _ _ (hset hp0 ([[(i,AObj.cells tB)]]:CL).flatten) _;refine tM ?_;refine Xv (fun s:Nat=>[(1,.sl i 0 62 1),(4,I ((1+s:Nat):Int))]) (fun s h'=>s≤7∧h'=hset hp0 ([[(i,AObj.cells (Yh8 tB 1 (f1 128) s))]]:CL).flatten∧Dis hp0 ([[(i,AObj.cells (Yh8 tB 1 (f1 128) s))]]:CL).flatten) (fun s=>7-s) 0 tU ⟨by decide,rfl,hD⟩ ?_;clear hD;rintro s _ ⟨hs,rfl,hD⟩;refine tM ?_;refine oI (((1+s:Nat):Int)≤7) (fun H1=>?_) (fun H1=>?_)
 ·refine tM ?_;apply Y1 (w:= .ptr i (1+s)) rfl rfl ⟨rfl,by omega,by omega⟩ (by rw[Zn,Nat.mul_one,Nat.zero_add]);refine Qs 0 hD rfl rfl rfl rfl rfl rfl (by rw[Ygr];show 1+s<62;omega) fun hD=>?_;refine tM ?_;apply Y1 (w:=I ((1+(s+1):Nat):Int)) rfl rfl trivial (by rw[w64 (by omega) (by omega)];rfl);refine tM ?_;exact⟨s+1,by show 7-(s+1)<7-s;omega,tU,rfl,by omega,rfl,hD⟩
 obtain rfl:s=7:=by omega
 have hD:Dis hp0 ([[(i,AObj.cells tC)]]:CL).flatten:=hD;show Yu _ _ _ _ _ _ _ _ _ (hset hp0 ([[(i,AObj.cells tC)]]:CL).flatten) _;have hl:tC.length=62:=rfl;generalize hC:tC=l at hl hD;refine tM ?_
 repeat (refine st_tab hl (by decide) hD rfl rfl rfl rfl fun l _ hl hD=>?_;refine tM ?_)
 have hl2:l=tblC:=by subst_vars;rfl
 subst hl2;refine Jk (res_fz1 (vs:=[.sl i 0 62 1]) (h':=upd (hset hp0 ([[(i,AObj.cells tblC)]]:CL).flatten) i none) rfl rfl ?_);refine fzV_sl (k:=999) (l:=tblC) upd_same (Yw rfl) (fzW_all fun x hx=>?_);rcases mem_cons.1 hx with rfl|hx
 ·rfl
 ·obtain⟨n,_,rfl⟩:=mem_map.1 hx;rfl
end Go.Proofs
