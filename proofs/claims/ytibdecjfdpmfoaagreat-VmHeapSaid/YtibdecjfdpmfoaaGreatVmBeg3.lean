import Derived.Test.YtibdecjfdpmfoaaGreatVmCode
section
open Go Go.Abs Go.Proofs.SlimCode Go.Img Go.Vm
set_option maxRecDepth 100000
namespace Go.Proofs
open List
open Go.Proofs.Tryz
variable {a:Ac} {f:Fm} {h:Ya}
theorem b45:PureC prog ann 45 [] (.bool true):=by
 refine Kf func45 Zw rfl rfl rfl ?_;refine tM ?_;apply Xh (n85 (op:=8) (a:=2147483647) (b:=1) ⟨by decide,by decide⟩ ⟨by decide,by decide⟩);refine tM ?_;apply Xh (n85 (op:=11) (a:=1) (b:=0) ⟨by decide,by decide⟩ ⟨by decide,by decide⟩);refine tM ?_;apply Xh (n85 (op:=11) (a:= -2147483648) (b:= -1) ⟨by decide,by decide⟩ ⟨by decide,by decide⟩);refine tM ?_;apply Xh (n86 (op:=13) (a:=5));refine tM ?_;apply Xh (n87 (op:=23) (a:= -1) (b:=9) ⟨by decide,by decide⟩);refine tM ?_;apply Xh (n87 (op:=29) (a:=9) (b:=9) ⟨by decide,by decide⟩);refine tM ?_;exact Jk (Yb7 (vs:=[.bool true]) rfl rfl)
theorem b22:PureC prog ann 22 [] (.bool true):=by
 refine Kf func22 Zw rfl rfl rfl ?_;refine tM ?_;apply Xh (first:=[]) (cap:=[]) (vs:=[]) b45.call;refine tM ?_;exact Jk (Yb7 (vs:=[.bool true]) rfl rfl)
theorem b21:Jj prog ann 21 [] h (.bool true):=by
 refine Yt rfl rfl func21 Zw rfl ?_;refine tM ?_;apply Xh (first:=[]) (cap:=[]) (vs:=[]) p28.call;refine tM ?_;exact Xd (.tmp rfl .nil) rfl ⟨rfl,Yl⟩
theorem v93(hF:h a.fi=some (.cells (a.F f))):Jj prog ann 93 [.ptr a.fi 0] h (I f.k):=by
 refine Yt rfl rfl func93 Zw rfl ?_;refine tM ?_;exact Xd (.tmp rfl .nil) rfl ⟨rfl,Yl⟩
theorem v94(hF:h a.fi=some (.cells (a.F f)))(hk:SlE eV 2 a.vk f.stk a.Lk):Jj prog ann 94 [.ptr a.fi 0] h (I f.stk.length):=by
 refine Yt rfl rfl func94 Zw rfl ?_;refine tM ?_;exact Xd (.tmp rfl .nil) rfl ⟨rfl,Yl⟩
theorem b46:PureC prog ann 46 [] (.bool true):=by
 refine Kf func46 Zw rfl rfl rfl ?_;refine tM ?_;show Yu _ _ _ _ _ _ _ _ _ (hset hp0 ([]:CL).flatten) _;refine Xf (G:=hp0) (g:=hp0) (xs:=[]) 0 trivial .refl rfl rfl rfl rfl (v88 (k:=7) (lc:=3) (st:=2) (l:=[(false,5),(true,4)]) (by decide) (by decide) (.tsl _ _ rfl) (by decide)) ?_;rintro _ _ G1 ⟨i,vl,Ll,rfl,rfl,hl⟩ hx1 hD;have hl:SlE eV 2 vl [(false,5),(true,4),(false,0)] Ll:=hl;let m0:Mth:=⟨0,0,0,false,[],[]⟩;let f:Fm:=⟨7,0,2,[(false,5),(true,4),(false,0)],[],m0,-1,-1⟩;let a:Ac:=⟨0,i,.nil .sl,.nil .sl,vl,.nil .sl,Ll,[]⟩;have hD:Dis G1 ([[(a.fi,AObj.cells (a.F f))],a.Ll,a.Lk]:CL).flatten:=hD;show Yu _ _ _ _ _ _ _ _ _ (hset G1 ([[(a.fi,AObj.cells (a.F f))],a.Ll,a.Lk]:CL).flatten) _;refine tM ?_;apply Xh (v89 (a:=a) (f:=f) (i:=2) (Yk hD (.head _)) hl (Xi (k:=1) hD rfl));refine tM ?_;refine Jd hD rfl fun b2 hD=>?_;refine Kb (c:=[.bool false,.int .i32 0]) 0 hD rfl rfl rfl rfl rfl rfl rfl rfl fun hD=>?_;refine tM ?_;have hD:Dis G1 ([[(b2,AObj.cells [.bool false,.int .i32 0])],[(a.fi,AObj.cells (a.F f))],a.Ll,a.Lk]:CL).flatten:=hD;refine Q4 (g:=hp0) (xs:=[[(b2,AObj.cells [.bool false,.int .i32 0])],[(a.fi,AObj.cells (a.F f))],a.Ll,a.Lk]) [false,true,false,true] hD hx1 rfl rfl rfl rfl (v90 (a:=a) (f:=f) (l:=[(false,1),(true,0)]) (.inl ⟨rfl,rfl,rfl⟩) (by decide) ⟨by decide,by decide⟩ (.tsl _ _ rfl) (by decide)) ?_;rintro _ _ G2 ⟨rfl,vk',Lk',rfl,hk'⟩ hx2 hD;let f2:Fm:=⟨7,0,2,[(false,5),(true,4),(false,0)],[(false,1),(true,0)],m0,-1,-1⟩;let a2:Ac:=⟨0,i,.nil .sl,.nil .sl,vl,vk',Ll,Lk'⟩;have hk':SlE eV 2 a2.vk f2.stk a2.Lk:=hk';have hD:Dis G2 ([[(b2,AObj.cells [.bool false,.int .i32 0])],[(a2.fi,AObj.cells (a2.F f2))],a2.Ll,a2.Lk]:CL).flatten:=hD;refine tM ?_;refine Q4 (g:=hp0) (xs:=[[(b2,AObj.cells [.bool false,.int .i32 0])],[(a2.fi,AObj.cells (a2.F f2))],a2.Ll,a2.Lk]) [false,true,false,true] hD (hx1.trans hx2) rfl rfl rfl rfl (v90 (a:=a2) (f:=f2) (l:=[(false,0)]) hk' (by decide) ⟨by decide,by decide⟩ (.tsl _ _ rfl) (by decide)) ?_;clear hk';rintro _ _ G3 ⟨rfl,vk',Lk',rfl,hk'⟩ hx3 hD;let a3:Ac:=⟨0,i,.nil .sl,.nil .sl,vl,vk',Ll,Lk'⟩;have hk':SlE eV 2 a3.vk f2.stk a3.Lk:=hk';have hD:Dis G3 ([[(b2,AObj.cells [.bool false,.int .i32 0])],[(a3.fi,AObj.cells (a3.F f2))],a3.Ll,a3.Lk]:CL).flatten:=hD;refine tM ?_;refine Yb rfl rfl rfl rfl (v79 (a:=a3) (f:=f2) (Yk hD (.tail _ (.head _))) hl hk' (Xi (k:=2) hD rfl) (Xi (k:=3) hD rfl) (by decide) (by decide) (show ∀x∈([(false,5),(true,4),(false,0),(false,1),(true,0)]:List Val),-2147483648≤x.2∧x.2≤2147483647 by decide)) ?_;rintro w _ ⟨hw,rfl⟩;obtain rfl:w= .tsl [I 3,I (-1)] 2:=Yd5 hw (by decide);refine tM ?_;refine Q4 (g:=hp0) (xs:=[[(b2,AObj.cells [.bool false,.int .i32 0])],[(a3.fi,AObj.cells (a3.F f2))],a3.Ll,a3.Lk]) [false,true,true,true] hD (hx1.trans (hx2.trans hx3)) rfl rfl rfl rfl (v91 (a:=a3) (f:=f2) (ls:=[9,-1]) hl hk' (by decide) (by decide) (.tsl _ _ rfl) rfl (show ∀x∈([9,-1]:List Int),-1≤x∧x<2^40 by decide)) ?_;clear hk';rintro _ _ G4 ⟨Ll',Lk2,rfl,hl',hk'⟩ hx4 hD;let f4:Fm:=⟨7,0,2,[(false,5),(true,10),(false,0)],[(false,1),(true,0)],m0,-1,-1⟩;let a4:Ac:=⟨0,i,.nil .sl,.nil .sl,vl,vk',Ll',Lk2⟩;have hl':SlE eV 2 a4.vl f4.loc a4.Ll:=hl';have hk':SlE eV 2 a4.vk f4.stk a4.Lk:=hk';have hD:Dis G4 ([[(b2,AObj.cells [.bool false,.int .i32 0])],[(a4.fi,AObj.cells (a4.F f4))],a4.Ll,a4.Lk]:CL).flatten:=hD;refine tM ?_;apply Xh (v89 (a:=a4) (f:=f4) (i:=1) (Yk hD (.tail _ (.head _))) hl' (Xi (k:=2) hD rfl));refine tM ?_;refine Jd hD rfl fun b7 hD=>?_;refine Kb (c:=[.bool true,.int .i32 10]) 0 hD rfl rfl rfl rfl rfl rfl rfl rfl fun hD=>?_;have hD:Dis G4 ([[(b7,AObj.cells [.bool true,.int .i32 10])],[(b2,AObj.cells [.bool false,.int .i32 0])],[(a4.fi,AObj.cells (a4.F f4))],a4.Ll,a4.Lk]:CL).flatten:=hD;refine tM ?_;refine Q4 (g:=hp0) (xs:=[[(b7,AObj.cells [.bool true,.int .i32 10])],[(b2,AObj.cells [.bool false,.int .i32 0])],[(a4.fi,AObj.cells (a4.F f4))],a4.Ll,a4.Lk]) [false,false,true,false,true] hD (hx1.trans (hx2.trans (hx3.trans hx4))) rfl rfl rfl rfl (v92 (a:=a4) (f:=f4) (n:=2) hk' (by decide) (by decide)) ?_;clear hk';rintro v ys G5 hR hx5 hD;obtain⟨w,rfl,hw,vk5,rfl,hk5⟩:∃w,v= .tup [w,.bool true]∧TV w (f4.top 2)∧∃vk',ys=FX {a4 with vk:=vk'} (f4.pop 2)∧SlE eV 2 vk' (f4.pop 2).stk a4.Lk:=hR;obtain rfl:w= .tsl [.bool false,.int .i32 1,.bool true,.int .i32 0] 2:=Yd5 hw (by decide);let f5:Fm:=⟨7,0,2,[(false,5),(true,10),(false,0)],[],m0,-1,-1⟩;let a5:Ac:=⟨0,i,.nil .sl,.nil .sl,vl,vk5,Ll',Lk2⟩;have hk5:SlE eV 2 a5.vk f5.stk a5.Lk:=hk5;have hD:Dis G5 ([[(b7,AObj.cells [.bool true,.int .i32 10])],[(b2,AObj.cells [.bool false,.int .i32 0])],[(a5.fi,AObj.cells (a5.F f5))],a5.Ll,a5.Lk]:CL).flatten:=hD;have hF:=Yk hD (.tail _ (.tail _ (.head _)));show Yu _ _ _ _ _ _ _ _ _ (hset G5 ([[(b7,AObj.cells [.bool true,.int .i32 10])],[(b2,AObj.cells [.bool false,.int .i32 0])],[(a5.fi,AObj.cells (a5.F f5))],a5.Ll,a5.Lk]:CL).flatten) _;refine tM ?_;apply Xh (v93 (a:=a5) (f:=f5) hF);refine tM ?_;apply Xh (v40 (a:=a5) (f:=f5) hF);refine tM ?_;refine Y1 rfl rfl ⟨by decide,by decide⟩ rfl ?_;refine tM ?_;refine Y1 rfl rfl ⟨by decide,by decide⟩ rfl ?_;refine tM ?_;refine Y1 rfl rfl ⟨by decide,by decide⟩ rfl ?_;refine tM ?_;refine Y1 rfl rfl ⟨by decide,by decide⟩ rfl ?_;refine tM ?_;apply Xh (v94 (a:=a5) (f:=f5) hF hk5);refine tM ?_;exact Jk (Yb7 (vs:=[.bool true]) rfl rfl)
theorem b23:PureC prog ann 23 [] (.bool true):=by
 refine Kf func23 Zw rfl rfl rfl ?_;refine tM ?_;apply Xh (first:=[]) (cap:=[]) (vs:=[]) b46.call;refine tM ?_;exact Jk (Yb7 (vs:=[.bool true]) rfl rfl)
variable {g:Ya} {c:Mc} {a:Ac} {azs:List Ac} {im:Image} {x:Vm} {f:Fm} {fs:List Fm}
theorem v128c{A X Y:Int}(hI:ImOk im)(M:MV g c (a::azs) im {x with acts:=f::fs})(V:VOk im {x with acts:=f::fs}):HM prog ann 128 [.ptr c.mi 0,.ptr a.i 0,.agg (eF (1,A,X,Y))] g (MX c (a::azs) im {x with acts:=f::fs}) (IR g c im (({x with acts:=f::fs}:Vm).move (1,A,X,Y))):=by
 intro G hg hD;refine Yt rfl rfl func128 Zw rfl ?_;unfold eF;refine tM ?_;refine Y1 (w:= .tptr [.int .i64 0,.int .i64 0,.int .i64 0,.int .i64 0,.int .i64 1,.int .i64 1,.int .i64 1,.int .i64 2] 1) rfl rfl ⟨show(0:Int)≤1 by decide,show(1:Int)<8 by decide⟩ rfl ?_;refine tM ?_;refine Xf (g:=g) (xs:=MX c (a::azs) im {x with acts:=f::fs}) 0 hD hg rfl rfl rfl rfl (v200 (n:=0) M V (by decide)) ?_;rintro w _ G1 ⟨hw,a1,rfl,M1,ha1⟩ hx1 hD;rcases any_cases (_im:=im) (x:=x) (f:=f) (fs:=fs) (n:=0) with ⟨h1,e1⟩|⟨h1,e1⟩
 ·exact absurd h1 (Nat.not_lt_zero _)
 rw[e1]at hw hD M1 ⊢;obtain⟨w0,rfl,htv⟩:=hw;have hD:Dis G1 (MX c (a1::azs) im {x with acts:=f::fs}).flatten:=hD;have M1:MV g c (a1::azs) im {x with acts:=f::fs}:=M1;have eo:({x with acts:=f::fs}:Vm).move (1,A,X,Y)=({x with acts:=f::fs}:Vm).swap 0 [(false,Img.w32 A)]:=by
  show(match({x with acts:=f::fs}:Vm).any 0 with
   |(y,none)=>y
   |(y,some l)=>_)=_
  rw[e1];rfl
 rw[eo];refine tM ?_;apply Y1 (w:= .int .i32 (Img.w32 A)) rfl rfl trivial (congrArg (AV.int .i32) (wrap_w32 A));refine tM ?_;apply Xh (v198 (n:=Img.w32 A));refine tM ?_;rw[←ha1];refine Xf (g:=g) (xs:=MX c (a1::azs) im {x with acts:=f::fs}) 0 hD (hg.trans hx1) rfl rfl rfl rfl (v197 (n:=0) (l:=[(false,Img.w32 A)]) hI M1 V (by decide) (.tsl _ _ rfl) (show 1≤16 by decide)) ?_;rintro _ _ G2 ⟨a2,rfl,M2,_⟩ hx2 hD;refine tM ?_;exact hSn (ys:=MX c (a2::azs) im (({x with acts:=f::fs}:Vm).swap 0 [(false,Img.w32 A)])) rfl hD (hx1.trans hx2) ⟨c,_,rfl,M2,rfl⟩
end Go.Proofs
end
section
open Go Go.Abs Go.Proofs.SlimCode Go.Img Go.Vm
namespace Go.Vm
open List
theorem Ymw{im:Image}{S:Nat→Vm}:∀{N n:Nat},0<N→N≤n→(∀j,j<N→(S j).step im=S (j+1))→(∀j,0<j→j<N→(S j).fin=0)→(S N).fin≠0→(S 0).run im n=(S N,⟨(S N).out,(S N).fin,(S N).code,(S N).cls⟩):=by
 intro N n h0 hn hs hf he;have key:∀d j,j+d=N→0<d→(S j).run im (n-j)=(S N,⟨(S N).out,(S N).fin,(S N).code,(S N).cls⟩):=by
  intro d
  induction d with
  |zero=>intro j _ h;exact absurd h (Nat.lt_irrefl _)
  |succ d ih=>
   intro j hj _;have e1:n-j=(n-(j+1))+1:=by omega
   have er:∀k (y:Vm),y.run im (k+1)=if(y.step im).fin≠0 then(y.step im,⟨(y.step im).out,(y.step im).fin,(y.step im).code,(y.step im).cls⟩) else(y.step im).run im k:=fun _ _=>rfl
   rw[e1,er,hs j (by omega)];by_cases hd:d=0
   ·subst hd;obtain rfl:j+1=N:=hj;rw[if_pos he]
   ·rw[if_neg (by rw[hf (j+1) (by omega) (by omega)];simp)];exact ih (j+1) (by omega) (by omega)
 exact key N 0 (by omega) h0
end Go.Vm
namespace Go.Proofs
open List hiding cons
open Go.Proofs.Tryz
variable {g:Ya} {im:Image}
theorem v19C{S:Nat→Vm}{N n:Nat}{c:Mc}{az:List Ac}(h0:0<N)(hN:N≤n)(hn:n≤2^40)(hs:∀j,j<N→(S j).step im=S (j+1))(_hf:∀j,0<j→j<N→(S j).fin=0)(he:(S N).fin≠0)(ho:∀j,(S j).out.length≤1048576)
  (hS:∀j,j<N→∀c az,MV g c az im (S j)→HM prog ann 16 [.ptr c.mi 0] g (MX c az im (S j)) fun w ys G=>w=I ((S j).step im).fin∧IR g c im ((S j).step im) w ys G)(M:MV g c az im (S 0)) :
  HM prog ann 19 [.ptr c.mi 0,I n] g (MX c az im (S 0)) fun w ys _=>Ygx w ((S 0).run im n).2∧∃c' az',ys=MX c' az' im ((S 0).run im n).1∧MV g c' az' im ((S 0).run im n).1∧c'.mi=c.mi:=by
 refine v19P (fun k y=>∃j,j<N∧k=n-j∧y=S j) hn M ⟨0,h0,by omega,rfl⟩ ?_ ?_ ?_ ?_
 ·rintro k y c az ⟨j,hj,_,rfl⟩ M;exact hS j hj c az M
 ·rintro k y ⟨j,hj,hk,rfl⟩ hz;rw[hs j hj]at hz;by_cases e:j+1=N
  ·rw[e]at hz;exact absurd hz he
  ·exact⟨j+1,by omega,by omega,hs j hj⟩
 ·rintro k y ⟨j,hj,_,rfl⟩;rw[hs j hj];exact ho _
 ·rintro y ⟨j,hj,hk,rfl⟩;exact absurd hk (by omega)
theorem Ymn{x:Vm}{f:Fm}{i:Kr}(hI:ImOk im)(V:VOk im {x with acts:=[f]})(h0:x.fin=0)(hst:x.steps<2^40)(hn:f.need= -1)(hi:f.m.code[f.pc.toNat]?=some i)
  (hDo:∀c a,MV g c [a] im (stp x f [])→VOk im (stp x f [])→HM prog ann (fnOf i.1) [.ptr c.mi 0,.ptr a.i 0,.agg (eF i)] g (MX c [a] im (stp x f [])) (IR g c im ((stp x f []).does im i))) :
  ∀c az,MV g c az im {x with acts:=[f]}→HM prog ann 16 [.ptr c.mi 0] g (MX c az im {x with acts:=[f]}) fun w ys G=>w=I (({x with acts:=[f]}:Vm).step im).fin∧IR g c im (({x with acts:=[f]}:Vm).step im) w ys G:=by
 intro c az M;have hfr:=M.fr;have hfr:Frs g az [f]:=hfr;cases hfr with
 |@cons a az0 _ _ hv hrest=>
 cases hrest;have ef:({f with need:= -1}:Fm)=f:=by rw[←hn]
 have M1:MV g c [a] im (stp x f []):=⟨M.img,M.inp,M.hw,M.hs,M.st,M.at',M.out,M.ac,M.fr⟩;have V1:VOk im (stp x f []):=⟨V.hp,V.stat,V.sv,V.at',V.inp,V.n,V.fr,by have h:0≤x.steps∧(x.out.length:Int)≤x.steps:=V.st;show 0≤x.steps+1∧(x.out.length:Int)≤x.steps+1;omega⟩;refine v16P hI M V h0 hst (fun h=>absurd h (by omega)) fun j hp hj=>?_;rw[hi]at hj;cases hj;rw[ef];exact hDo c a M1 V1
end Go.Proofs
namespace Go.Vm
open List
variable {u:Hp} {pc s:Int} {r w:List Int} {stk:List Val} {m x:Mth}
open Go.Proofs
def frS (m:Mth) (pc:Int) (stk:List Val):Fm:=⟨0,pc,m.stack,List.replicate m.locals.toNat (false,0),stk,m,-1,-1⟩
theorem frS_ok(hI:ImOk (smv m w r s))(hc:0<m.code.length)(hp:0≤pc∧pc≤m.code.length)(hs:(stk.length:Int)≤m.stack)(hv:∀v∈stk,VV u v):FOk (smv m w r s) u (frS m pc stk):=by
 have hm:mAt (smv m w r s) 0=m:=rfl;have h0:Yhq (smv m w r s) 0:=Ypm hc;have hm2:=(hI.mth h0).2;rw[hm]at hm2;have hl:=hm2.locals;refine⟨⟨h0,rfl⟩,?_,hm2.stack,hs,fun v hv2=>?_,.inl rfl,.inl rfl,hp⟩
 ·show(List.replicate _ _).length≤16;rw[length_replicate];omega
 ·rcases mem_append.1 hv2 with h|h
  ·rw[eq_of_mem_replicate h];exact⟨⟨by decide,by decide⟩,fun e=>(by cases e)⟩
  ·exact hv v h
theorem numsV{l:List Int}(h:∀n∈l,I32 n):∀v∈l.map (fun n=>((false,n):Val)),VV u v:=fun v hv=>by
 obtain⟨n,hn,rfl⟩:=mem_map.1 hv;exact⟨h n hn,fun e=>(by cases e)⟩
theorem Yiu{x:Vm}{st:Int}{inp out:List Int}{fin cd:Int}(hI:ImOk (smv m w r s))(hc:0<m.code.length)(V:VOk (smv m w r s) x)(hp:0≤pc∧pc≤m.code.length)(hs:(stk.length:Int)≤m.stack)(hv:∀v∈stk,VV x.hp v)(hst:0≤st∧(out.length:Int)≤st)(hi:∀n∈inp,I32 n):VOk (smv m w r s) {x with acts:=[frS m pc stk],steps:=st,inp:=inp,out:=out,fin:=fin,code:=cd}:=
 ⟨V.hp,V.stat,V.sv,V.at',hi,by show 1≤64;omega,fun f hf=>by obtain rfl:=Zm.1 hf;exact frS_ok hI hc hp hs hv,hst⟩
def bM:Mth:=⟨0,0,1,false,[(59,0,0,0),(60,0,0,0),(1,3,0,0),(61,0,0,0)],[]⟩
def bIm:Image:=smv bM [0,0,10,1,1] [4] 3
theorem Yrq{n:Int}(h : -100≤n∧n≤1000:=by decide):I64 n:=⟨by omega,by omega⟩
theorem bM_WF:bM.WF:=by
 refine⟨Yrq,Yrq,Yrq,⟨(by decide:4≤9223372036854775807),fun p hp=>?_⟩,⟨Nat.zero_le _,fun _ h=>nomatch h⟩⟩;have hp:p∈[((59,0,0,0):Kr),(60,0,0,0),(1,3,0,0),(61,0,0,0)]:=hp;simp only[mem_cons,not_mem_nil,or_false]at hp;rcases hp with rfl|rfl|rfl|rfl<;>exact⟨Yrq,Yrq,Yrq,Yrq⟩
theorem wW:Len ([0,0,10,1,1]:List Int)∧∀n∈([0,0,10,1,1]:List Int),I32 n:=⟨(by decide:5≤9223372036854775807),show ∀n∈([0,0,10,1,1]:List Int),-2147483648≤n∧n≤2147483647 by decide⟩
theorem wR:Len ([4]:List Int)∧∀n∈([4]:List Int),I64 n:=⟨(by decide:1≤9223372036854775807),fun n hn=>by obtain rfl:=Zm.1 hn;exact Yrq⟩
theorem bIm_ok:ImOk bIm:=by
 refine⟨Ymq ?_ (by decide) rfl rfl Ypl,smv_WF bM_WF wW wR ⟨by decide,by decide⟩⟩;refine⟨by decide,by decide,by decide,fun _=>⟨by decide,by decide,?_⟩,fun t ht=>(by cases ht),fun i hi=>?_⟩
 ·show Yg0 61;unfold Yg0;omega
 ·have hi:i∈[((59,0,0,0):Kr),(60,0,0,0),(1,3,0,0),(61,0,0,0)]:=hi;simp only[mem_cons,not_mem_nil,or_false]at hi;rcases hi with rfl|rfl|rfl|rfl<;>(refine⟨by decide,?_,?_,?_,?_,?_,?_,?_,?_,?_,?_,?_,?_⟩<;>intro h<;>simp only at h<;>omega)
def bX:Vm:=Vm.new bIm [5] (Hp.of 10 [0,0,10,1,1] [0,2])
def bS:Nat→Vm
 |0=>{bX with acts:=[frS bM 0 []],steps:=0,inp:=[5],out:=[],fin:=0,code:=0}
 |1=>{bX with acts:=[frS bM 1 [(false,5)]],steps:=1,inp:=[],out:=[],fin:=0,code:=0}
 |2=>{bX with acts:=[frS bM 2 []],steps:=2,inp:=[],out:=[5],fin:=0,code:=0}
 |3=>{bX with acts:=[frS bM 3 [(false,3)]],steps:=3,inp:=[],out:=[5],fin:=0,code:=0}
 |_=>{bX with acts:=[frS bM 3 [(false,3)]],steps:=4,inp:=[],out:=[5],fin:=1,code:=3}
theorem bX_ok:VOk bIm bX:=new_ok bIm_ok (Yag 1) (by decide) (fun n hn=>by obtain rfl:=Zm.1 hn;exact⟨by decide,by decide⟩)
theorem bS_ok:∀j,j<4→VOk bIm (bS j)
 |0,_=>bX_ok
 |1,_=>Yiu bIm_ok (by decide) bX_ok (by decide) (by decide) (numsV (l:=[5]) fun n hn=>by obtain rfl:=Zm.1 hn;exact⟨by decide,by decide⟩) (by decide) (fun _ h=>nomatch h)
 |2,_=>Yiu bIm_ok (by decide) bX_ok (by decide) (by decide) (fun _ h=>nomatch h) (by decide) (fun _ h=>nomatch h)
 |3,_=>Yiu bIm_ok (by decide) bX_ok (by decide) (by decide) (numsV (l:=[3]) fun n hn=>by obtain rfl:=Zm.1 hn;exact⟨by decide,by decide⟩) (by decide) (fun _ h=>nomatch h)
theorem bS_step:∀j,j<4→(bS j).step bIm=bS (j+1)
 |0,_=>rfl
 |1,_=>rfl
 |2,_=>rfl
 |3,_=>rfl
theorem bS_live:(bS 4).live bIm=5:=by decide
theorem smv_Small(hx:Mth.Small x)(hw:w.length≤201)(hr:r.length≤60):Image.Small (smv x w r s):=
 {Ybb with
  methods:=⟨(by decide:1≤12),fun c h=>by obtain rfl:=Zm.1 h;exact hx⟩
  words:=hw
  rel:=hr
  stat:=(by decide:2≤20)}
theorem Ypo(hI:ImOk (smv x w r s))(hx:Mth.Small x)(hw:w.length≤201)(hr:r.length≤60):(Img.body (smv x w r s)).length≤50000∧Img.decode (Qy (smv x w r s))=some (smv x w r s):=by
 have h:=Yd8 hI.w (smv_Small hx hw hr);exact⟨h,Ydo hI.w (by unfold size;omega)⟩
end Go.Vm
namespace Go.Proofs
open List
open Go.Proofs.Tryz
variable {g:Ya}
theorem bR{c:Mc}{az:List Ac}(M:MV g c az bIm bX):HM prog ann 19 [.ptr c.mi 0,I (100:Nat)] g (MX c az bIm bX) fun w ys _=>Ygx w (bX.run bIm 100).2∧∃c' az',ys=MX c' az' bIm (bX.run bIm 100).1∧MV g c' az' bIm (bX.run bIm 100).1∧c'.mi=c.mi:=by
 refine v19C (S:=bS) (N:=4) (n:=100) (by decide) (by decide) (by decide) bS_step ?_ (by decide) ?_ ?_ M
 ·intro j h0 h4
  match j,h0,h4 with
  |1,_,_=>rfl
  |2,_,_=>rfl
  |3,_,_=>rfl
 ·intro j
  match j with
  |0=>exact Nat.zero_le _
  |1=>exact Nat.zero_le _
  |2=>exact(by decide:1≤1048576)
  |3=>exact(by decide:1≤1048576)
  |_+4=>exact(by decide:1≤1048576)
 ·intro j h4
  match j,h4 with
  |0,h=>exact Ymn (x:={bX with steps:=0,inp:=[5],out:=[],fin:=0,code:=0}) (f:=frS bM 0 []) (i:=(59,0,0,0)) bIm_ok (bS_ok 0 h) rfl (by decide) rfl rfl fun c a M V=>v143 (x:={bX with steps:=1,inp:=[5],out:=[],fin:=0,code:=0}) bIm_ok M V
  |1,h=>exact Ymn (x:={bX with steps:=1,inp:=[],out:=[],fin:=0,code:=0}) (f:=frS bM 1 [(false,5)]) (i:=(60,0,0,0)) bIm_ok (bS_ok 1 h) rfl (by decide) rfl rfl fun c a M V=>v144 (x:={bX with steps:=2,inp:=[],out:=[],fin:=0,code:=0}) bIm_ok M V (by decide)
  |2,h=>exact Ymn (x:={bX with steps:=2,inp:=[],out:=[5],fin:=0,code:=0}) (f:=frS bM 2 []) (i:=(1,3,0,0)) bIm_ok (bS_ok 2 h) rfl (by decide) rfl rfl fun c a M V=>v128c (x:={bX with steps:=3,inp:=[],out:=[5],fin:=0,code:=0}) bIm_ok M V
  |3,h=>exact Ymn (x:={bX with steps:=3,inp:=[],out:=[5],fin:=0,code:=0}) (f:=frS bM 3 [(false,3)]) (i:=(61,0,0,0)) bIm_ok (bS_ok 3 h) rfl (by decide) rfl rfl fun c a M V=>v145 (x:={bX with steps:=4,inp:=[],out:=[5],fin:=0,code:=0}) M V
theorem bRun:bX.run bIm 100=(bS 4,⟨[5],1,3,[]⟩):=Ymw (S:=bS) (N:=4) (by decide) (by decide) bS_step (fun j h0 h4=>by
 match j,h0,h4 with
 |1,_,_=>rfl
 |2,_,_=>rfl
 |3,_,_=>rfl) (by decide)
end Go.Proofs
end
section
open Go Go.Abs Go.Proofs.SlimCode Go.Img Go.Vm
set_option maxRecDepth 100000
namespace Go.Proofs
open List hiding cons
open Go.Proofs.Tryz
theorem bS4_ok:VOk bIm (bS 4):=Yiu bIm_ok (by decide) bX_ok (by decide) (by decide) (numsV (l:=[3]) fun n hn=>by obtain rfl:=Zm.1 hn;exact⟨by decide,by decide⟩) (by decide) (fun _ h=>nomatch h)
theorem img_of{G G':Ya}{vc vg vr vf vm vw vs vr2:AV}{x:Mth}{w r:List Int}{s:Int}(hR:RImg G [vc,.nil .sl,I 0,I (-1),vg,.nil .sl,vr,.nil .sl,vf] {small with words:=[],methods:=[],stat:=[]})(hx:Ext G G')(h7:Sl RMth 6 G' vm [x])(h8:Sl (RN .i32) 1 G' vw w)(h10:Sl (RN .i32) 1 G' vs [5,s])(hr:Sl (RN .i64) 1 G' vr2 r):RImg G' [vc,vm,I 0,I (-1),vg,vw,vr2,vs,vf] (smv x w r s):=by
 obtain⟨_,_,_,_,_,_,_,e,v1,_,v3,_,_,_,v7⟩:=hR;simp only[List.cons.injEq]at e;obtain⟨rfl,_,_,_,rfl,_,_,_,rfl,_⟩:=e;exact⟨_,_,_,_,_,_,_,rfl,v1.mono RCls.mono hx,h7,v3.mono RN.mono hx,h8,hr,h10,v7.mono RB.mono hx⟩
theorem rel_of{G G':Ya}{vc vg vr vf:AV}(hR:RImg G [vc,.nil .sl,I 0,I (-1),vg,.nil .sl,vr,.nil .sl,vf] {small with words:=[],methods:=[],stat:=[]})(hx:Ext G G'):Sl (RN .i64) 1 G' vr [4]:=by
 obtain⟨_,_,_,_,_,_,_,e,_,_,_,_,v5,_,_⟩:=hR;simp only[List.cons.injEq]at e;obtain⟨_,_,_,_,_,_,rfl,_,_,_⟩:=e;exact v5.mono RN.mono hx
theorem b9:PureC prog ann 9 [] (.bool true):=by
 refine Kf func9 Zw rfl rfl rfl ?_;refine tM ?_;refine Yb rfl rfl rfl rfl (p27t (h:=hp0)) ?_;rintro _ _ ⟨G,o5,o7,o8,o10,vc,vg,vr,vf,rfl,hx,rfl,hD,h5,hR⟩;have ho:=hR.one;refine tM ?_;refine Jd hD rfl fun b1 hD=>?_;refine Kb (c:=[vc,.sl o7 0 1 6,I 0,I (-1),vg,.sl o8 0 5 1,vr,.sl o10 0 2 1,vf]) 0 hD rfl rfl rfl rfl rfl rfl rfl ho fun hD=>?_;have hD:Dis G ([(b1,AObj.cells [vc,.sl o7 0 1 6,I 0,I (-1),vg,.sl o8 0 5 1,vr,.sl o10 0 2 1,vf])]::SmY o5 o7 o8 o10).flatten:=hD;refine tM ?_;refine Y1 (w:= .ptr o7 0) rfl rfl ⟨rfl,by decide,by decide⟩ rfl ?_;refine tM ?_;refine Qs 3 hD rfl rfl rfl rfl rfl rfl (show 2<6 by decide) fun hD=>?_;refine tM ?_;refine Ykm (cs:=[I 59,I 0,I 0,I 0,I 60,I 0,I 0,I 0,I 1,I 3,I 0,I 0,I 61,I 0,I 0,I 0]) hD rfl rfl rfl fun o20 hD=>?_;have hD:Dis G ([(o20,AObj.cells [I 59,I 0,I 0,I 0,I 60,I 0,I 0,I 0,I 1,I 3,I 0,I 0,I 61,I 0,I 0,I 0])]::[(b1,AObj.cells [vc,.sl o7 0 1 6,I 0,I (-1),vg,.sl o8 0 5 1,vr,.sl o10 0 2 1,vf])]::[(o8,.cells W5c)]::[(o10,.cells [.int .i32 5,.int .i32 3])]::[[(o7,.cells [I 0,I 0,I 1,.bool false,.sl o5 0 1 4,.nil .sl])]]).flatten:=hD;show Yu _ _ _ _ _ _ _ _ _ (hset G ([(o20,AObj.cells [I 59,I 0,I 0,I 0,I 60,I 0,I 0,I 0,I 1,I 3,I 0,I 0,I 61,I 0,I 0,I 0])]::[(b1,AObj.cells [vc,.sl o7 0 1 6,I 0,I (-1),vg,.sl o8 0 5 1,vr,.sl o10 0 2 1,vf])]::[(o8,.cells W5c)]::[(o10,.cells [.int .i32 5,.int .i32 3])]::[[(o7,.cells [I 0,I 0,I 1,.bool false,.sl o5 0 1 4,.nil .sl])]]).flatten) _;refine tM ?_;refine Y1 (w:= .ptr o7 0) rfl rfl ⟨rfl,by decide,by decide⟩ rfl ?_;refine tM ?_;refine Qs 4 hD rfl rfl rfl rfl rfl rfl (show 4<6 by decide) fun hD=>?_;have hD:Dis G ([(o20,AObj.cells [I 59,I 0,I 0,I 0,I 60,I 0,I 0,I 0,I 1,I 3,I 0,I 0,I 61,I 0,I 0,I 0])]::[(b1,AObj.cells [vc,.sl o7 0 1 6,I 0,I (-1),vg,.sl o8 0 5 1,vr,.sl o10 0 2 1,vf])]::[(o8,.cells W5c)]::[(o10,.cells [.int .i32 5,.int .i32 3])]::[[(o7,.cells [I 0,I 0,I 1,.bool false,.sl o20 0 4 4,.nil .sl])]]).flatten:=hD;obtain⟨G1,e1,hD1,hx1,hH⟩:=Yim [true,false,true,true,true] hD;refine o_heap e1 ?_;have hD:Dis G1 ([[(b1,AObj.cells [vc,.sl o7 0 1 6,I 0,I (-1),vg,.sl o8 0 5 1,vr,.sl o10 0 2 1,vf])]]:CL).flatten:=hD1;have h20:G1 o20=some (.cells [I 59,I 0,I 0,I 0,I 60,I 0,I 0,I 0,I 1,I 3,I 0,I 0,I 61,I 0,I 0,I 0]):=hH _ (.head _);have h8:G1 o8=some (.cells W5c):=hH _ (.tail _ (.head _));have h10:G1 o10=some (.cells [.int .i32 5,.int .i32 3]):=hH _ (.tail _ (.tail _ (.head _)));have h7:G1 o7=some (.cells [I 0,I 0,I 1,.bool false,.sl o20 0 4 4,.nil .sl]):=hH _ (.tail _ (.tail _ (.tail _ (.head _))));have hI:RImg G1 [vc,.sl o7 0 1 6,I 0,I (-1),vg,.sl o8 0 5 1,vr,.sl o10 0 2 1,vf] bIm:=img_of hR hx1 ⟨_,.sl o7 0 1 _ _ h7 rfl,.one rfl ⟨_,_,rfl,⟨_,.sl o20 0 4 _ _ h20 rfl,.cons (c:=[_,_,_,_]) rfl rfl (.cons (c:=[_,_,_,_]) rfl rfl (.cons (c:=[_,_,_,_]) rfl rfl (.one rfl rfl)))⟩,.nil⟩⟩ ⟨_,.sl o8 0 5 _ _ h8 rfl,Chunks.of_map (g:=AV.int .i32) (l:=[0,0,10,1,1])⟩ ⟨_,.sl o10 0 2 _ _ h10 rfl,Chunks.of_map (g:=AV.int .i32) (l:=[5,3])⟩ (rel_of hR hx1);clear h20 h8 h10 h7 hH e1 hD1;obtain⟨hbd,hdec⟩:=Ypo bIm_ok (x:=bM) ⟨by decide,by decide⟩ (by decide) (by decide);refine tM ?_;refine Yfl (l:=[vc,.sl o7 0 1 6,I 0,I (-1),vg,.sl o8 0 5 1,vr,.sl o10 0 2 1,vf]) hD rfl rfl rfl (.head _) rfl ?_;refine tM ?_;have hi5:Sl (RN .i32) 1 G1 (.tsl [.int .i32 5] 1) [5]:=⟨_,.tsl _ 1 rfl,.one rfl rfl⟩;refine Yi6 (g:=G1) (pre:=[[(b1,AObj.cells [vc,.sl o7 0 1 6,I 0,I (-1),vg,.sl o8 0 5 1,vr,.sl o10 0 2 1,vf])]]) (xs:=[]) hD .refl rfl rfl rfl rfl (v11 (inp:=[5]) (n:=10) (b:=7) (f:=100) (l:=[0,2]) (vi:= .tsl [.int .i32 5] 1) bIm_ok hI hbd hdec ⟨by decide,by decide⟩ (Yag 1) hi5 (by decide) (fun n hn=>by obtain rfl:=Zm.1 hn;exact⟨by decide,by decide⟩) fun _ G' c az M=>bR M) ?_;rintro w ys G2 hRun hx2 hD;have eR:(Vm.new bIm [5] (Hp.of 10 bIm.words [0,2])).run bIm 100=(bS 4,⟨[5],1,3,[]⟩):=bRun;unfold RunR at hRun;rw[if_neg (by decide),eR]at hRun;obtain⟨t,c,az,rfl,⟨vo,rfl,ht⟩,rfl,M⟩:=hRun;have M:MV G2 c az bIm (bS 4):=M;have hfr:Frs G2 az [frS bM 3 [(false,3)]]:=M.fr;cases hfr with
 |@cons a az0 _ _ hv hrest=>
 cases hrest;have hD:Dis G2 ([(b1,AObj.cells [vc,.sl o7 0 1 6,I 0,I (-1),vg,.sl o8 0 5 1,vr,.sl o10 0 2 1,vf])]::MX c [a] bIm (bS 4)).flatten:=hD;show Yu _ _ _ _ _ _ _ _ _ (hset G2 ([(b1,AObj.cells [vc,.sl o7 0 1 6,I 0,I (-1),vg,.sl o8 0 5 1,vr,.sl o10 0 2 1,vf])]::MX c [a] bIm (bS 4)).flatten) _;obtain rfl:vo= .tsl [.int .i32 5] 1:=Yd5 ht (by decide);refine tM ?_;refine Jd hD rfl fun b2 hD=>?_;refine Kb (c:=[.tsl [.int .i32 5] 1,I 1,.int .i32 3,.str []]) 0 hD rfl rfl rfl rfl rfl rfl rfl rfl fun hD=>?_;have hD:Dis G2 ([(b2,AObj.cells [.tsl [.int .i32 5] 1,I 1,.int .i32 3,.str []])]::[(b1,AObj.cells [vc,.sl o7 0 1 6,I 0,I (-1),vg,.sl o8 0 5 1,vr,.sl o10 0 2 1,vf])]::MX c [a] bIm (bS 4)).flatten:=hD;refine tM ?_;refine Yfl (l:=[vc,.sl o7 0 1 6,I 0,I (-1),vg,.sl o8 0 5 1,vr,.sl o10 0 2 1,vf]) hD rfl rfl rfl (.tail _ (.head _)) rfl ?_;refine tM ?_;have hI2:=RImg.mono _ _ _ _ hx2 hI;refine Yi6 (g:=G2) (pre:=[(b2,AObj.cells [.tsl [.int .i32 5] 1,I 1,.int .i32 3,.str []])]::[(b1,AObj.cells [vc,.sl o7 0 1 6,I 0,I (-1),vg,.sl o8 0 5 1,vr,.sl o10 0 2 1,vf])]::MX c [a] bIm (bS 4)) (xs:=[]) hD .refl rfl rfl rfl rfl (v11 (inp:=[]) (n:=4) (b:=0) (f:=100) (l:=[0,2]) (vi:= .nil .sl) bIm_ok hI2 hbd hdec ⟨by decide,by decide⟩ (Yag 1) .nil (by decide) (fun n hn=>nomatch hn) fun h=>absurd (by decide) h) ?_;rintro w ys G3 hRun hx3 hD;unfold RunR at hRun;rw[if_pos (by decide)]at hRun;obtain⟨t,mi,cs,vst,vat,vin,Lst,Lat,h9,rfl,⟨vo,rfl,ht2⟩,rfl,_⟩:=hRun;have hov:=(VSl.of_T (h:=G3) ht2).one;have hD:Dis G3 ([(b2,AObj.cells [.tsl [.int .i32 5] 1,I 1,.int .i32 3,.str []])]::[(b1,AObj.cells [vc,.sl o7 0 1 6,I 0,I (-1),vg,.sl o8 0 5 1,vr,.sl o10 0 2 1,vf])]::(MX c [a] bIm (bS 4)++DX mi cs vst vat vin Lst Lat)).flatten:=hD;show Yu _ _ _ _ _ _ _ _ _ (hset G3 ([(b2,AObj.cells [.tsl [.int .i32 5] 1,I 1,.int .i32 3,.str []])]::[(b1,AObj.cells [vc,.sl o7 0 1 6,I 0,I (-1),vg,.sl o8 0 5 1,vr,.sl o10 0 2 1,vf])]::(MX c [a] bIm (bS 4)++DX mi cs vst vat vin Lst Lat)).flatten) _;refine tM ?_;refine Jd hD rfl fun b5 hD=>?_;refine Kb (c:=[vo,I 4,.int .i32 0,.str []]) 0 hD rfl rfl rfl rfl rfl rfl rfl (by show(vo.one&&_)=true;rw[hov];rfl) fun hD=>?_;have hD:Dis G3 ([(b5,AObj.cells [vo,I 4,.int .i32 0,.str []])]::[(b2,AObj.cells [.tsl [.int .i32 5] 1,I 1,.int .i32 3,.str []])]::[(b1,AObj.cells [vc,.sl o7 0 1 6,I 0,I (-1),vg,.sl o8 0 5 1,vr,.sl o10 0 2 1,vf])]::(MX c [a] bIm (bS 4)++DX mi cs vst vat vin Lst Lat)).flatten:=hD;refine tM ?_;refine Xf (g:=G3) (xs:=[(b5,AObj.cells [vo,I 4,.int .i32 0,.str []])]::[(b2,AObj.cells [.tsl [.int .i32 5] 1,I 1,.int .i32 3,.str []])]::[(b1,AObj.cells [vc,.sl o7 0 1 6,I 0,I (-1),vg,.sl o8 0 5 1,vr,.sl o10 0 2 1,vf])]::(MX c [a] bIm (bS 4)++DX mi cs vst vat vin Lst Lat)) 15 hD .refl rfl rfl rfl rfl (d19 (n:=1) h9) ?_;rintro _ _ G4 ⟨⟨vo3,rfl,ht3⟩,rfl⟩ hx4 hD;have hov3:=(VSl.of_T (h:=G4) ht3).one;have hD:Dis G4 ([(b5,AObj.cells [vo,I 4,.int .i32 0,.str []])]::[(b2,AObj.cells [.tsl [.int .i32 5] 1,I 1,.int .i32 3,.str []])]::[(b1,AObj.cells [vc,.sl o7 0 1 6,I 0,I (-1),vg,.sl o8 0 5 1,vr,.sl o10 0 2 1,vf])]::(MX c [a] bIm (bS 4)++DX mi cs vst vat vin Lst Lat)).flatten:=hD;show Yu _ _ _ _ _ _ _ _ _ (hset G4 ([(b5,AObj.cells [vo,I 4,.int .i32 0,.str []])]::[(b2,AObj.cells [.tsl [.int .i32 5] 1,I 1,.int .i32 3,.str []])]::[(b1,AObj.cells [vc,.sl o7 0 1 6,I 0,I (-1),vg,.sl o8 0 5 1,vr,.sl o10 0 2 1,vf])]::(MX c [a] bIm (bS 4)++DX mi cs vst vat vin Lst Lat)).flatten) _;refine tM ?_;refine Jd hD rfl fun b8 hD=>?_;refine Kb (c:=[vo3,I 4,.int .i32 0,.str []]) 0 hD rfl rfl rfl rfl rfl rfl rfl (by show(vo3.one&&_)=true;rw[hov3];rfl) fun hD=>?_;have hD:Dis G4 ([(b8,AObj.cells [vo3,I 4,.int .i32 0,.str []])]::[(b5,AObj.cells [vo,I 4,.int .i32 0,.str []])]::[(b2,AObj.cells [.tsl [.int .i32 5] 1,I 1,.int .i32 3,.str []])]::[(b1,AObj.cells [vc,.sl o7 0 1 6,I 0,I (-1),vg,.sl o8 0 5 1,vr,.sl o10 0 2 1,vf])]::(MX c [a] bIm (bS 4)++DX mi cs vst vat vin Lst Lat)).flatten:=hD;refine tM ?_;apply Xh (first:=[]) (cap:=[]) (vs:=[]) b21;refine tM ?_;apply Xh (first:=[]) (cap:=[]) (vs:=[]) b22.call;refine tM ?_;apply Xh (first:=[]) (cap:=[]) (vs:=[]) b23.call;refine tM ?_;refine Yfl (l:=[.tsl [.int .i32 5] 1,I 1,.int .i32 3,.str []]) hD rfl rfl rfl (Yi (k:=2) rfl (.head _)) rfl ?_;refine tM ?_;refine Ykm (cs:=[.int .i32 5]) hD rfl rfl rfl fun b6 hD=>?_;have hD:Dis G4 ([(b6,AObj.cells [.int .i32 5])]::[(b8,AObj.cells [vo3,I 4,.int .i32 0,.str []])]::[(b5,AObj.cells [vo,I 4,.int .i32 0,.str []])]::[(b2,AObj.cells [.tsl [.int .i32 5] 1,I 1,.int .i32 3,.str []])]::[(b1,AObj.cells [vc,.sl o7 0 1 6,I 0,I (-1),vg,.sl o8 0 5 1,vr,.sl o10 0 2 1,vf])]::(MX c [a] bIm (bS 4)++DX mi cs vst vat vin Lst Lat)).flatten:=hD;show Yu _ _ _ _ _ _ _ _ _ (hset G4 ([(b6,AObj.cells [.int .i32 5])]::[(b8,AObj.cells [vo3,I 4,.int .i32 0,.str []])]::[(b5,AObj.cells [vo,I 4,.int .i32 0,.str []])]::[(b2,AObj.cells [.tsl [.int .i32 5] 1,I 1,.int .i32 3,.str []])]::[(b1,AObj.cells [vc,.sl o7 0 1 6,I 0,I (-1),vg,.sl o8 0 5 1,vr,.sl o10 0 2 1,vf])]::(MX c [a] bIm (bS 4)++DX mi cs vst vat vin Lst Lat)).flatten) _;refine tM ?_;have h13:=v13 (h:=hset G4 ([(b6,AObj.cells [.int .i32 5])]::[(b8,AObj.cells [vo3,I 4,.int .i32 0,.str []])]::[(b5,AObj.cells [vo,I 4,.int .i32 0,.str []])]::[(b2,AObj.cells [.tsl [.int .i32 5] 1,I 1,.int .i32 3,.str []])]::[(b1,AObj.cells [vc,.sl o7 0 1 6,I 0,I (-1),vg,.sl o8 0 5 1,vr,.sl o10 0 2 1,vf])]::(MX c [a] bIm (bS 4)++DX mi cs vst vat vin Lst Lat)).flatten) (va:= .tsl [.int .i32 5] 1) (vb:= .sl b6 0 1 1) (t:=⟨[5],1,3,[]⟩) (u:=⟨[5],1,3,[]⟩) ⟨_,.tsl _ 1 rfl,.one rfl rfl⟩ ⟨_,.sl b6 0 1 _ _ (Yk hD (.head _)) rfl,.one rfl rfl⟩ (by decide) (by decide);rw[Zt rfl]at h13;apply Xh h13;refine tM ?_;have hg4:=hx3.trans hx4;refine Q4 (g:=G2) (xs:=[(b6,AObj.cells [.int .i32 5])]::[(b8,AObj.cells [vo3,I 4,.int .i32 0,.str []])]::[(b5,AObj.cells [vo,I 4,.int .i32 0,.str []])]::[(b2,AObj.cells [.tsl [.int .i32 5] 1,I 1,.int .i32 3,.str []])]::[(b1,AObj.cells [vc,.sl o7 0 1 6,I 0,I (-1),vg,.sl o8 0 5 1,vr,.sl o10 0 2 1,vf])]::(MX c [a] bIm (bS 4)++DX mi cs vst vat vin Lst Lat)) [false,false,false,false,false,true,true,true,true,true,true,true,true,true,true,true,true] hD hg4 rfl rfl rfl rfl (v14 (c:=c) (az:=[a]) (im:=bIm) (x:=bS 4)) ?_;rintro _ _ G5 ⟨rfl,rfl⟩ hx5 hD;have hD:Dis G5 ([(b6,AObj.cells [.int .i32 5])]::[(b8,AObj.cells [vo3,I 4,.int .i32 0,.str []])]::[(b5,AObj.cells [vo,I 4,.int .i32 0,.str []])]::[(b2,AObj.cells [.tsl [.int .i32 5] 1,I 1,.int .i32 3,.str []])]::[(b1,AObj.cells [vc,.sl o7 0 1 6,I 0,I (-1),vg,.sl o8 0 5 1,vr,.sl o10 0 2 1,vf])]::(MX c [a] bIm (bS 4)++DX mi cs vst vat vin Lst Lat)).flatten:=hD;show Yu _ _ _ _ _ _ _ _ _ (hset G5 ([(b6,AObj.cells [.int .i32 5])]::[(b8,AObj.cells [vo3,I 4,.int .i32 0,.str []])]::[(b5,AObj.cells [vo,I 4,.int .i32 0,.str []])]::[(b2,AObj.cells [.tsl [.int .i32 5] 1,I 1,.int .i32 3,.str []])]::[(b1,AObj.cells [vc,.sl o7 0 1 6,I 0,I (-1),vg,.sl o8 0 5 1,vr,.sl o10 0 2 1,vf])]::(MX c [a] bIm (bS 4)++DX mi cs vst vat vin Lst Lat)).flatten) _;refine tM ?_;refine Q4 (g:=G2) (xs:=[(b6,AObj.cells [.int .i32 5])]::[(b8,AObj.cells [vo3,I 4,.int .i32 0,.str []])]::[(b5,AObj.cells [vo,I 4,.int .i32 0,.str []])]::[(b2,AObj.cells [.tsl [.int .i32 5] 1,I 1,.int .i32 3,.str []])]::[(b1,AObj.cells [vc,.sl o7 0 1 6,I 0,I (-1),vg,.sl o8 0 5 1,vr,.sl o10 0 2 1,vf])]::(MX c [a] bIm (bS 4)++DX mi cs vst vat vin Lst Lat)) [false,false,false,false,false,true,true,true,true,true,true,true,true,true,true,true,true] hD (hg4.trans hx5) rfl rfl rfl rfl (v15 M (bS4_ok.rok bIm_ok.v) bS4_ok.hp.ok) ?_;rintro _ _ G6 ⟨rfl,rfl⟩ hx6 hD;rw[bS_live];have hD:Dis G6 ([(b6,AObj.cells [.int .i32 5])]::[(b8,AObj.cells [vo3,I 4,.int .i32 0,.str []])]::[(b5,AObj.cells [vo,I 4,.int .i32 0,.str []])]::[(b2,AObj.cells [.tsl [.int .i32 5] 1,I 1,.int .i32 3,.str []])]::[(b1,AObj.cells [vc,.sl o7 0 1 6,I 0,I (-1),vg,.sl o8 0 5 1,vr,.sl o10 0 2 1,vf])]::(MX c [a] bIm (bS 4)++DX mi cs vst vat vin Lst Lat)).flatten:=hD;show Yu _ _ _ _ _ _ _ _ _ (hset G6 ([(b6,AObj.cells [.int .i32 5])]::[(b8,AObj.cells [vo3,I 4,.int .i32 0,.str []])]::[(b5,AObj.cells [vo,I 4,.int .i32 0,.str []])]::[(b2,AObj.cells [.tsl [.int .i32 5] 1,I 1,.int .i32 3,.str []])]::[(b1,AObj.cells [vc,.sl o7 0 1 6,I 0,I (-1),vg,.sl o8 0 5 1,vr,.sl o10 0 2 1,vf])]::(MX c [a] bIm (bS 4)++DX mi cs vst vat vin Lst Lat)).flatten) _;refine tM ?_;exact Jk (Yb7 (vs:=[.bool true]) rfl rfl)
def CdY (o7 o8 o10:Nat) (vl:AV):CL:=[[(o8,.cells W5c)],[(o10,.cells [.int .i32 5,.int .i32 3])],[(o7,.cells [I 0,I 4,I 4,.bool false,vl,.nil .sl])]]
theorem v17{g:Ya}{vl:AV}(h1:vl.one=true):HM prog ann 17 [vl] g [] fun v ys G=>∃o7 o8 o10 vc vg vr vf,v= .agg [vc,.sl o7 0 1 6,I 0,I (-1),vg,.sl o8 0 5 1,vr,.sl o10 0 2 1,vf]∧ys=CdY o7 o8 o10 vl∧RImg G [vc,.nil .sl,I 0,I (-1),vg,.nil .sl,vr,.nil .sl,vf] {small with words:=[],methods:=[],stat:=[]}:=by
 intro G0 hg hD0;refine Yt rfl rfl func17 Zw rfl ?_;refine tM ?_;show Yu _ _ _ _ _ _ _ _ _ (hset G0 ([]:CL).flatten) _;refine Jd (xs:=[]) hD0 rfl fun b2 hD=>?_;refine tM ?_;refine Q5 (hb:=G0) (L:=[(b2,.cells [.nil .sl,.nil .sl,I 0,I 0,.nil .sl,.nil .sl,.nil .sl,.nil .sl,.nil .sl])]) hD rfl rfl rfl rfl (p27t (h:=G0)) ?_;rintro _ _ ⟨G,o5,o7,o8,o10,vc,vg,vr,vf,rfl,hx,rfl,hDY,h5,hR⟩ hD;have hone:=hR.one;have hD:Dis G ([(b2,AObj.cells [.nil .sl,.nil .sl,I 0,I 0,.nil .sl,.nil .sl,.nil .sl,.nil .sl,.nil .sl])]::SmY o5 o7 o8 o10).flatten:=⟨hD.1,hDY⟩;show Yu _ _ _ _ _ _ _ _ _ (hset G ([(b2,AObj.cells [.nil .sl,.nil .sl,I 0,I 0,.nil .sl,.nil .sl,.nil .sl,.nil .sl,.nil .sl])]::SmY o5 o7 o8 o10).flatten) _;refine tM ?_;refine Jd hD rfl fun b3 hD=>?_;refine Kb (c:=[vc,.sl o7 0 1 6,I 0,I (-1),vg,.sl o8 0 5 1,vr,.sl o10 0 2 1,vf]) 0 hD rfl rfl rfl rfl rfl rfl rfl hone fun hD=>?_;have hD:Dis G ([(b3,AObj.cells [vc,.sl o7 0 1 6,I 0,I (-1),vg,.sl o8 0 5 1,vr,.sl o10 0 2 1,vf])]::[(b2,AObj.cells [.nil .sl,.nil .sl,I 0,I 0,.nil .sl,.nil .sl,.nil .sl,.nil .sl,.nil .sl])]::SmY o5 o7 o8 o10).flatten:=hD;refine tM ?_;have hb3:=Yk hD (.head _);refine Ke [(b3,1,1,[.sl o7 0 1 6])] [.C,.L,.C,.L,.C,.C,.W,.C,.C,.W] (Ybs hb3 rfl .nil) ?_;refine tD ?_;refine Yia (w:= .ptr o7 0) rfl ⟨rfl,by decide,by decide⟩ rfl rfl rfl rfl ?_;refine tD ?_;refine Yjm 4 hD rfl rfl rfl rfl rfl (show 1<6 by decide) fun hD=>?_;have hb3:=Yk hD (.head _);refine⟨fun _=>Ybs hb3 rfl .nil,Yd2 hb3 Ynm,?_⟩;refine tD ?_;refine Yia (w:= .ptr o7 0) rfl ⟨rfl,by decide,by decide⟩ rfl rfl rfl rfl ?_;refine tD ?_;refine Yjm 4 hD rfl rfl rfl rfl rfl (show 2<6 by decide) fun hD=>?_;have hb3:=Yk hD (.head _);refine⟨fun _=>Ybs hb3 rfl .nil,Yd2 hb3 Ynm,?_⟩;refine tD ?_;refine tM ?_;refine Y1 (w:= .ptr o7 0) rfl rfl ⟨rfl,by decide,by decide⟩ rfl ?_;refine tM ?_;refine Qs 4 hD rfl rfl rfl rfl rfl h1 (show 4<6 by decide) fun hD=>?_;have hD:Dis G ([(b3,AObj.cells [vc,.sl o7 0 1 6,I 0,I (-1),vg,.sl o8 0 5 1,vr,.sl o10 0 2 1,vf])]::[(b2,AObj.cells [.nil .sl,.nil .sl,I 0,I 0,.nil .sl,.nil .sl,.nil .sl,.nil .sl,.nil .sl])]::CdY o7 o8 o10 vl).flatten:=hD;refine tM ?_;refine Yfl (l:=[vc,.sl o7 0 1 6,I 0,I (-1),vg,.sl o8 0 5 1,vr,.sl o10 0 2 1,vf]) hD rfl rfl rfl (.head _) rfl ?_;refine Kb (c:=[vc,.sl o7 0 1 6,I 0,I (-1),vg,.sl o8 0 5 1,vr,.sl o10 0 2 1,vf]) 1 hD rfl rfl rfl rfl rfl rfl rfl hone fun hD=>?_;refine tM ?_;exact Yjg (bs:=[[(b3,AObj.cells [vc,.sl o7 0 1 6,I 0,I (-1),vg,.sl o8 0 5 1,vr,.sl o10 0 2 1,vf])],[(b2,AObj.cells [vc,.sl o7 0 1 6,I 0,I (-1),vg,.sl o8 0 5 1,vr,.sl o10 0 2 1,vf])]]) (ys:=CdY o7 o8 o10 vl) (.cells rfl rfl (Yk hD (.tail _ (.head _))) rfl .nil) rfl hD (by intro i;simp) hx ⟨o7,o8,o10,vc,vg,vr,vf,rfl,rfl,hR⟩
end Go.Proofs
end
