import Derived.Test.YtibdecjfdpmfoaaGreatImGet
section
open Go Go.Abs Go.Proofs.SlimCode Go.Img
set_option maxRecDepth 100000
namespace Go.Proofs
open List
open Go.Proofs.Tryz
variable {w:Nat}
theorem Yqe:∀(b:B) (i u:Nat) {e:Int},Yqf i u b= .err e→e≠0
 |[],i,u,e,h=>by
  rw[Yqf]at h;cases h;decide
 |c::r,i,u,e,h=>by
  rw[Yqf]at h;split at h
  ·cases h;decide
  ·split at h
   ·exact Yqe r _ _ h
   ·split at h
    ·cases h;decide
    ·cases h
theorem Yo0{b:B}{e:Int}(h:Img.get b= .err e):e≠0:=Yqe b 0 0 h
theorem Ypg(bs:B)(k:Nat):((ubs bs).take (bs.length*1)).drop (((k:Nat):Int).toNat*1)=ubs (bs.drop k):=by
 rw[Zn,Nat.mul_one,Nat.mul_one];unfold ubs;rw[Zk (by simp),map_drop]
def Ynv (bs:B):AV:=match Img.get bs with
 |.err e=> .tup [.str [],I 0,I e]
 |.ok n k=>if n<0∨1048576<n then .tup [.str [],I 0,I 1] else if(bs.length:Int)-k<n then .tup [.str [],I 0,I 2] else .tup [.str ((bs.drop k).take n.toNat),I ((k+n.toNat:Nat):Int),I 0]
theorem p158{h:Ya}{v:AV}{bs:B}(hv:VSl h 1 v (ubs bs) bs.length)(hl:bs.length≤1048576):Looks prog ann 217 [v] h (Ynv bs):=by
 refine Yo rfl func217 Zw rfl ?_;refine tV ?_;apply Yb rfl rfl rfl rfl (p111 hv (by omega)).go;rintro _ h1 ⟨rfl,hx⟩;have hv1:=hv.mono hx;unfold Ynv;cases hg:Img.get bs with
 |err e=>
  have he:=Yo0 hg;simp only[getV];refine tW ?_
  (refine tG ?_;refine oB fun b hb=>?_)
  have e1:b=true:=by rw[hb];simpa using he
  subst e1;refine tW ?_
  (first|apply Y3|apply lret_norm)
  ·exact rfl
  ·exact rfl
  ·exact rfl
  ·exact hx
  ·simp
 |ok n k=>
  obtain⟨hn,hk0,hk⟩:=get_ok hg;unfold I64 at hn;simp only[getV];refine tW ?_
  (refine tG ?_;refine oB fun b1 h1=>?_;cases b1)
  case true=>
   have h0:n<0:=by simpa using h1
   rw[if_pos (.inl h0)];refine tW ?_
   (first|apply Y3|apply lret_norm)
   ·exact rfl
   ·exact rfl
   ·exact rfl
   ·exact hx
   ·simp
  have h0:¬n<0:=by simp at h1;omega
  refine tW ?_
  (refine tG ?_;refine oB fun b2 h2=>?_;cases b2)
  case true=>
   have hb:1048576<n:=by simpa using h2
   rw[if_pos (.inr hb)];refine tW ?_
   (first|apply Y3|apply lret_norm)
   ·exact rfl
   ·exact rfl
   ·exact rfl
   ·exact hx
   ·simp
  have hb:¬ 1048576<n:=by simp at h2;omega
  rw[if_neg (by omega)];obtain⟨m,rfl⟩:∃m:Nat,n=m:=⟨n.toNat,by omega⟩;rw[Zn];refine tV ?_;apply Yec rfl rfl hv1;refine tv ?_
  (refine tG ?_;(with_reducible apply o_subN (a:=bs.length) (b:=k));exact rfl;exact rfl;exact rfl;(omega);exact w64 (by omega) (by omega))
  refine tV ?_
  (refine tG ?_;refine oB fun b3 h3=>?_;cases b3)
  case true=>
   have hc:(bs.length:Int)-k<m:=by
    have:((bs.length-k:Nat):Int)<(m:Int):=by simpa using h3
    omega
   rw[if_pos hc];refine tW ?_
   (first|apply Y3|apply lret_norm)
   ·exact rfl
   ·exact rfl
   ·exact rfl
   ·exact hx
   ·simp
  have hc:¬(bs.length:Int)-k<m:=by
   have:¬((bs.length-k:Nat):Int)<(m:Int):=by simpa using h3
   omega
  rw[if_neg hc];refine tV ?_
  (refine tG ?_;(with_reducible apply Yko (a:=k) (b:=m));exact rfl;exact rfl;exact rfl;exact w64 (by omega) (by omega))
  apply o_sltV (l:=(k:Int)) (m:=((k+m:Nat):Int)) rfl rfl hv1 rfl rfl (by omega) (by omega) (by omega);intro w hw;have e1:((ubs bs).take (((k+m:Nat):Int).toNat*1)).drop (((k:Nat):Int).toNat*1)=ubs ((bs.drop k).take m):=by
   rw[Zn,Zn,Nat.mul_one,Nat.mul_one];unfold ubs;rw[←map_take,←map_drop,drop_take,Nat.add_sub_cancel_left]
  rw[e1]at hw;apply Ynd rfl rfl hw (fun h=>by omega);refine tV ?_
  (refine tG ?_;(with_reducible apply Yko (a:=k) (b:=m));exact rfl;exact rfl;exact rfl;exact w64 (by omega) (by omega))
  refine tW ?_
  (first|apply Y3|apply lret_norm)
  ·exact rfl
  ·exact rfl
  ·exact rfl
  ·exact hx
  ·simp
def RI:Ya→AV→Int→Prop:=fun _ v n=>v=I n∧I64 n
def RW:Ya→AV→Int→Prop:=fun _ v n=>v= .int .i32 n∧I32 n
def RTr:Ya→AV→Bool→Prop:=fun _ v b=>v= .bool b
def RTx:Ya→AV→B→Prop:=fun _ v s=>v= .str s∧s.length≤1048576
theorem p55:Reads prog ann 99 [.ptr w 0] w Ye6 10 (fun n=>(put n).length) RI:=by
 intro g bs t h hbs H;obtain⟨v,hw,hv⟩:=H.st;refine Yt rfl rfl func99 Zw rfl ?_;refine tV ?_;apply Y2 rfl rfl hw (fun h=>by omega) rfl;apply Yb rfl rfl rfl rfl (p111 (hv.mono H.ext) (by omega)).go;rintro _ h1 ⟨rfl,hx⟩;have hw1:=hx _ _ hw;have hw2:∀b,upd h1 w (some (.cells [v,.bool b])) w=some (.cells [v,.bool b]):=fun b=>upd_same;have h00:RI g (I 0) 0:=⟨rfl,by unfold I64;omega⟩;have hc0:(put 0).length≤10:=X1 (by unfold I64;omega);cases t with
 |true=>
  have e:∃a b c,getV (Img.get bs)= .tup [a,I b,I c]:=by
   cases Img.get bs with
   |err e=>exact⟨_,_,_,rfl⟩
   |ok n k=>exact⟨_,_,_,rfl⟩
  obtain⟨a,b,c,e⟩:=e;rw[e];refine tV ?_;apply Y2 rfl rfl hw1 (fun h=>by omega) rfl;refine tV ?_;apply K7 rfl rfl rfl rfl rfl hw1 (show 1<2 by decide);refine tV ?_;apply Y2 rfl rfl (hw2 true) (fun h=>by omega) rfl;refine tW ?_;exact Xd (vs:=[I 0]) (.tmp rfl .nil) rfl (by
   rw[Yl];exact⟨g,_,bs,true,RdR.stop H hv hx (fun h=>by cases h) h00 hc0⟩)
 |false=>
  cases hg:Img.get bs with
  |err e=>
   have he:=Yo0 hg;have hp:Ye6 bs=none:=by unfold Ye6;rw[hg]
   simp only[getV];refine tV ?_;apply Y2 rfl rfl hw1 (fun h=>by omega) rfl;refine tV ?_
   (refine tG ?_;refine oB fun b hb=>?_)
   have e1:b=true:=by rw[hb];simpa using he
   subst e1;refine tV ?_;apply K7 rfl rfl rfl rfl rfl hw1 (show 1<2 by decide);refine tV ?_;apply Y2 rfl rfl (hw2 true) (fun h=>by omega) rfl;refine tW ?_;exact Xd (vs:=[I 0]) (.tmp rfl .nil) rfl (by
    rw[Yl];exact⟨g,_,bs,true,RdR.stop H hv hx (fun _=>hp) h00 hc0⟩)
  |ok n k=>
   obtain⟨hn,hk0,hk⟩:=get_ok hg;have hp:Ye6 bs=some (n,bs.drop k):=by unfold Ye6;rw[hg]
   have hl:(bs.drop k).length=bs.length-k:=length_drop;simp only[getV];refine tV ?_;apply Y2 rfl rfl hw1 (fun h=>by omega) rfl;refine tW ?_;apply K7 rfl rfl rfl rfl rfl hw1 (show 1<2 by decide);refine tV ?_;apply Y2 rfl rfl (hw2 false) (fun h=>by omega) rfl;refine tV ?_;apply Y2 rfl rfl (hw2 false) (fun h=>by omega) rfl;refine tV ?_;apply o_sltW (l:=(k:Int)) (m:=(bs.length:Int)) rfl rfl hv rfl rfl (by omega) (by omega) (by omega);intro u hu;rw[Zn bs.length,Ypg,Zn,←hl]at hu;refine tV ?_;apply K7 rfl rfl rfl rfl hu.one (hw2 false) (show 0<2 by decide);rw[Xm];refine tW ?_;exact Xd (vs:=[I n]) (.tmp rfl .nil) rfl (by
    rw[Yl];exact⟨g,n,bs.drop k,false,RdR.go H hu hx hp ⟨rfl,hn⟩ (by omega) (by have:=X1 hn;omega)⟩)
theorem p104:Reads prog ann 167 [.ptr w 0] w Ym4 10 (fun s=>(Yao s).length) RTx:=by
 intro g bs t h hbs H;obtain⟨v,hw,hv⟩:=H.st;refine Yt rfl rfl func167 Zw rfl ?_;refine tV ?_;apply Y2 rfl rfl hw (fun h=>by omega) rfl;apply Yb rfl rfl rfl rfl (p158 (hv.mono H.ext) hbs).go;rintro _ h1 ⟨rfl,hx⟩;have hw1:=hx _ _ hw;have hw2:∀b,upd h1 w (some (.cells [v,.bool b])) w=some (.cells [v,.bool b]):=fun b=>upd_same;have h00:RTx g (.str []) []:=⟨rfl,by simp⟩;have hc0:(Yao []).length≤10:=by
  have:=X1 (n:=([]:B).length) (by unfold I64;decide);simpa[Yao]using this
 cases t with
 |true=>
  have e:∃a b c,Ynv bs= .tup [a,I b,I c]:=by
   unfold Ynv;cases Img.get bs with
   |err e=>exact⟨_,_,_,rfl⟩
   |ok n k=>
    simp only;split
    ·exact⟨_,_,_,rfl⟩
    ·split
     ·exact⟨_,_,_,rfl⟩
     ·exact⟨_,_,_,rfl⟩
  obtain⟨a,b,c,e⟩:=e;rw[e];refine tV ?_;apply Y2 rfl rfl hw1 (fun h=>by omega) rfl;refine tV ?_;apply K7 rfl rfl rfl rfl rfl hw1 (show 1<2 by decide);refine tV ?_;apply Y2 rfl rfl (hw2 true) (fun h=>by omega) rfl;refine tW ?_;exact Xd (vs:=[.str []]) (.tmp rfl .nil) rfl (by
   rw[Yl];exact⟨g,_,bs,true,RdR.stop H hv hx (fun h=>by cases h) h00 hc0⟩)
 |false=>
  by_cases hp:Ym4 bs=none
  ·have e:∃c,c≠0∧Ynv bs= .tup [.str [],I 0,I c]:=by
    unfold Ynv;unfold Ym4 at hp;cases hg:Img.get bs with
    |err e=>exact⟨e,Yo0 hg,rfl⟩
    |ok n k=>
     rw[hg]at hp;simp only at hp ⊢;by_cases h1:n<0∨1048576<n
     ·rw[if_pos h1];exact⟨1,by decide,rfl⟩
     ·rw[if_neg h1]at hp ⊢;by_cases h2:(bs.length:Int)-k<n
      ·rw[if_pos h2];exact⟨2,by decide,rfl⟩
      ·rw[if_neg h2]at hp;cases hp
   obtain⟨e,he,ee⟩:=e;rw[ee];refine tV ?_;apply Y2 rfl rfl hw1 (fun h=>by omega) rfl;refine tV ?_
   (refine tG ?_;refine oB fun b hb=>?_)
   have e1:b=true:=by rw[hb];simpa using he
   subst e1;refine tV ?_;apply K7 rfl rfl rfl rfl rfl hw1 (show 1<2 by decide);refine tV ?_;apply Y2 rfl rfl (hw2 true) (fun h=>by omega) rfl;refine tW ?_;exact Xd (vs:=[.str []]) (.tmp rfl .nil) rfl (by
    rw[Yl];exact⟨g,_,bs,true,RdR.stop H hv hx (fun _=>hp) h00 hc0⟩)
  ·have e:∃(m k:Nat),Ynv bs= .tup [.str ((bs.drop k).take m),I ((k+m:Nat):Int),I 0]∧Ym4 bs=some ((bs.drop k).take m,bs.drop (k+m))∧m≤1048576∧0<k∧k+m≤bs.length:=by
    unfold Ynv;unfold Ym4 at hp ⊢;cases hg:Img.get bs with
    |err e=>rw[hg]at hp;exact absurd rfl hp
    |ok n k=>
     obtain⟨hn,hk0,hk⟩:=get_ok hg;rw[hg]at hp;simp only at hp ⊢;by_cases h1:n<0∨1048576<n
     ·rw[if_pos h1]at hp;exact absurd rfl hp
     ·rw[if_neg h1]at hp ⊢;by_cases h2:(bs.length:Int)-k<n
      ·rw[if_pos h2]at hp;exact absurd rfl hp
      ·rw[if_neg h2,if_neg h1,if_neg h2];exact⟨n.toNat,k,rfl,rfl,by omega,hk0,by omega⟩
   obtain⟨m,k,e,hp,hm,hk0,hk⟩:=e;rw[e];have hl:(bs.drop (k+m)).length=bs.length-(k+m):=length_drop;have hlt:((bs.drop k).take m).length=m:=by rw[length_take,length_drop];omega
   refine tV ?_;apply Y2 rfl rfl hw1 (fun h=>by omega) rfl;refine tW ?_;apply K7 rfl rfl rfl rfl rfl hw1 (show 1<2 by decide);refine tV ?_;apply Y2 rfl rfl (hw2 false) (fun h=>by omega) rfl;refine tV ?_;apply Y2 rfl rfl (hw2 false) (fun h=>by omega) rfl;refine tV ?_;apply o_sltW (l:=((k+m:Nat):Int)) (m:=(bs.length:Int)) rfl rfl hv rfl rfl (by omega) (by omega) (by omega);intro u hu;rw[Zn bs.length,Ypg,Zn,←hl]at hu;refine tV ?_;apply K7 rfl rfl rfl rfl hu.one (hw2 false) (show 0<2 by decide);rw[Xm];refine tW ?_;exact Xd (vs:=[.str ((bs.drop k).take m)]) (.tmp rfl .nil) rfl (by
    rw[Yl];refine⟨g,_,bs.drop (k+m),false,RdR.go H hu hx hp ⟨rfl,by omega⟩ (by omega) ?_⟩;have:=X1 (n:=((bs.drop k).take m).length) (by unfold I64;omega);simp only[Yao,length_append];omega)
theorem p58:Reads prog ann 102 [.ptr w 0] w Yre 10 (fun n=>(put n).length) RW:=by
 intro g bs t h hbs H;refine Yt rfl rfl func102 Zw rfl ?_;refine tV ?_;apply Yb rfl rfl rfl rfl (p55 g bs t h hbs H);rintro _ h1 ⟨G,n,bs',t',R⟩;obtain⟨rfl,hn⟩:=R.val;have hw:I32 (Img.w32 n):=by unfold I32 Img.w32;omega
 refine tV ?_;apply Y1 (w:= .int .i32 (Img.w32 n)) rfl rfl trivial (by
  simp only[IntKind.wrap,IntKind.bits,IntKind.signed];simp;unfold Img.w32;split<;>omega)
 refine tW ?_;exact Xd (vs:=[.int .i32 (Img.w32 n)]) (.tmp rfl .nil) rfl (by
  rw[Yl];exact⟨G,Img.w32 n,bs',t',R.map (f:=Img.w32) ⟨rfl,hw⟩ (X1 (by unfold I32 at hw;unfold I64;omega))⟩)
theorem p60:Reads prog ann 104 [.ptr w 0] w Yhw 10 (fun b=>(Jy b).length) RTr:=by
 intro g bs t h hbs H;refine Yt rfl rfl func104 Zw rfl ?_;refine tV ?_;apply Yb rfl rfl rfl rfl (p55 g bs t h hbs H);rintro _ h1 ⟨G,n,bs',t',R⟩;obtain⟨rfl,hn⟩:=R.val;refine tV ?_
 (refine tG ?_;refine oB fun b hb=>?_)
 have e:b=decide (n≠0):=by rw[hb];simp
 refine tW ?_;exact Xd (vs:=[.bool b]) (.tmp rfl .nil) rfl (by
  rw[Yl];subst e;exact⟨G,_,bs',t',R.map (f:=fun n=>decide (n≠0)) rfl (by
   exact X1 (by unfold I64;split<;>omega))⟩)
end Go.Proofs
end
section
open Go Go.Abs Go.Proofs.SlimCode Go.Img
namespace Go.Proofs
open List
open Go.Proofs.Tryz
def SR (s b:Nat) (z:List AV):SC:=(.seq (.reg [] [⟨some 4,none,.mv (.c (.nil .sl))⟩])
 (.seq (.reg [] [⟨some 5,none,.mv (.c (.nil .sl))⟩])
 (.seq (.seq (.reg [] [⟨some 7,none,.mv (.r 0)⟩,
  ⟨some 8,none,.call (.c (.fn 99 [] [])) [(.r 7)]⟩,
  ⟨some 6,none,.mv (.r 8)⟩])
 (.block 0 (.loop (.seq (.seq (.reg [] [⟨some 9,none,.mv (.r 6)⟩,
   ⟨some 10,none,.bin .gtr (.r 9) (.c (.int .i64 0))⟩,
   ⟨some 11,none,.mv (.r 10)⟩,
   ⟨some 12,some (11,true),.mv (.r 0)⟩,
   ⟨some 13,some (11,true),.chk (.r 12)⟩,
   ⟨some 14,some (11,true),.fa (.r 13) 1⟩,
   ⟨some 15,some (11,true),.ld (.r 14) none⟩,
   ⟨some 16,some (11,true),.un .not (.r 15)⟩,
   ⟨some 17,none,.pick (.r 11) (.r 16) (.c (.bool false))⟩])
  (.cond (.r 17)
   .skip
   (.exit 0)))
  (.seq (.block 1 (.reg [] [⟨some 20,none,.mv (.r 5)⟩,
    ⟨some 21,none,.mv (.r 1)⟩,
    ⟨some 22,none,.call (.r 21) []⟩,
    ⟨some 23,none,.bsl z s 1 [(0,s,(.r 22))]⟩,
    ⟨some 24,none,.app s b (.r 20) (.r 23)⟩,
    ⟨some 5,none,.mv (.r 24)⟩]))
  (.reg [] [⟨some 18,none,.mv (.r 6)⟩,
   ⟨some 19,none,.bin .sub (.r 18) (.c (.int .i64 1))⟩,
   ⟨some 6,none,.mv (.r 19)⟩]))))))
 (.seq (.reg [] [⟨some 25,none,.mv (.r 5)⟩,
  ⟨some 4,none,.mv (.r 25)⟩])
 .ret))))
theorem setL_at:∀(pre:List AV) (a v:AV) (r:List AV),Yps (pre++a::r) pre.length v=some (pre++v::r)
 |[],_,_,_=>rfl
 |x::pre,a,v,r=>by
  simp only[cons_append,length_cons,Yps];rw[setL_at pre a v r]
theorem Ypx:∀(vs pre z:List AV),z.length=vs.length→putL (pre++z) pre.length vs=some (pre++vs)
 |[],pre,[],_=>by simp[putL]
 |[],_,_::_,h=>by cases h
 |_::_,_,[],h=>by cases h
 |v::vs,pre,a::z,h=>by
  unfold putL;rw[setL_at];simp only;have:=Ypx vs (pre++[v]) z (by simpa using h);simpa using this
theorem fill_one{E:Lk}{x:SX}{z:List AV}{s:Nat}{v:AV}(hx:ev E x=some v)(hz:z.length=s)(hs:0<s)(h:v.cells.length=s):Ybt E z [(0,s,x)]=some v.cells:=by
 simp only[Ybt,hx];have one:v.cells=[v]→(if s=1 then(match Yps z 0 v with|some cs=>some cs|none=>none) else none)=some v.cells:=fun e=>by
  rw[e]at h;have h:1=s:=h;subst h
  match z,hz with
  |[a],_=>rw[e];rfl
 cases v with
 |agg vs=>
  have h:vs.length=s:=h;have e:putL z 0 vs=some vs:=Ypx vs [] z (by rw[hz,h]);simp only[e];rw[if_pos ⟨h,hs⟩];rfl
 |_=>exact one rfl
theorem Yeb{α:Type}{f gf w s b:Nat}{z first:List AV}{p:Pa α}{K:Nat}{e:α→B}{R:Ya→List AV→α→Prop}{W:α→Prop}{fn:Func}
  (hst:ann.still f=false)(hp0:ann.pure f=false)(hf:prog.funcs[f]?=some fn)(hb:fn.body.bind (slC prog ann f)=some (SR s b z))(hn:(fn.name == "runtime.NumGoroutine" || decide (fn.ntmps<2))=false)(hnt:fn.ntmps=26)(hres:fn.results.toList=[.tmp 4])
  (hz:z.length=s)(hR:Yqy R)(hs:0<s)(hb1:b≤1000)(hp:Reads prog ann gf (first++[]++[]) w p K (fun a=>(e a).length) (REl R s W))(hz0:ann.fz f=false:=by first|rfl|assumption) :
  Reads prog ann f [.ptr w 0,.fn gf first []] w (Yah p) (K+10) (fun l=>(Y4 e l).length) (RLs R s W):=by
 intro g bs t h hbs H;refine Yt hst (by rw[hp0];rfl) hf hb hn ?_;rw[hnt,hres];unfold SR;refine tV ?_;apply Yb rfl rfl rfl rfl (p55 g bs t h hbs H);rintro _ h1 ⟨G1,n,bs1,t1,R1⟩;obtain⟨rfl,hn64⟩:=R1.val;have hl1:=R1.out.len;refine tV ?_;refine Xv (fun x:AV×Int×List α×B×Bool×Ya=>[(0,.ptr w 0),(1,.fn gf first []),(5,x.1),(6,I x.2.1)]) (fun x h'=>LA R s W w h g x.2.2.2.2.2 h' x.1 x.2.2.1∧Rd x.2.2.2.2.2 w x.2.2.2.1 x.2.2.2.2.1 h'∧LO p K e n bs1 t1 x.2.2.1 x.2.1 x.2.2.2.1 x.2.2.2.2.1) (fun x=>2*x.2.2.2.1.length+(if x.2.2.2.2.1 then 0 else 1)) (.nil .sl,n,[],bs1,t1,G1)
  tU ⟨.start R1,R1.rd,.start⟩ ?_
 rintro⟨vv,k,l,bs2,t2,G⟩ h2 ⟨A1,A2,A3⟩;simp only at A1 A2 A3 ⊢;have hlen:=A3.len;obtain⟨u,hw2,hu⟩:=A2.st;have hll:(put l.length).length≤10:=X1 (by unfold I64;omega);have fin:(t2=true∨k≤0)→∃G a bs' t',RdR (Yah p) (K+10) (fun l=>(Y4 e l).length) (RLs R s W) g w bs t h vv h2 G a bs' t':=fun h0=>by
  obtain⟨G',x1,x2,x3,x4⟩:=A1.done hR A2;exact⟨G',l,bs2,t2,x1,x2,⟨x3,by omega,A1.all⟩,A3.out R1.out h0 hll,A1.frame,x4⟩
 refine tW ?_
 (refine tG ?_;refine oB fun b1 h1=>?_;cases b1)
 case false=>
  have hk:k≤0:=by simp at h1;omega
  refine tW ?_;exact Xd (vs:=[vv]) (.tmp rfl .nil) hz0 (by rw[Yl];exact fin (.inr hk))
 have hk:0<k:=by simpa using h1
 refine tW ?_;apply Y2 rfl rfl hw2 (fun h=>by omega) rfl;cases t2 with
 |true=>
  refine tw ?_;apply Yq rfl rfl trivial;refine tW ?_;exact Xd (vs:=[vv]) (.tmp rfl .nil) hz0 (by rw[Yl];exact fin (.inl rfl))
 |false=>
  have hl2:=(A3.good rfl).2.2.2;refine tw ?_;apply Yq rfl rfl trivial;refine tV ?_;apply Yb rfl rfl rfl rfl (hp G bs2 false h2 (by omega) A2);rintro v h3 ⟨G3,a,bs3,t3,R3⟩;obtain⟨cs,c1,c2,c3⟩:=A1.step hR A2 R3;obtain⟨r1,r2,r3,r4⟩:=R3.val;apply Yq (p:=v.cells.length=1*s∧v.cells.all AV.one=true) (v:= .tsl v.cells 1) rfl (by simp only[sv];rw[fill_one rfl hz hs r2]) ⟨by omega,r3⟩;apply Yfm (new:=v.cells) (n:=1) rfl rfl rfl rfl c2 (Yiv (.tsl v.cells 1 (by omega))) (by omega) r3 (by
   have:(l.length+1)*(b+1)≤1048578*1001:=Nat.mul_le_mul (by omega) (by omega);omega)
  intro v' h4 O _;obtain⟨B1,B2⟩:=c3 v' h4 O;have hk2:=A3.hk;unfold I64 at hn64;refine tW ?_;rw[w64 (n:=k-1) (by omega) (by omega)];refine⟨(v',k-1,l++[a],bs3,t3,G3),?_,tU,rfl,B1,B2,A3.step hk R3.out⟩;simp only;have:=R3.out;cases this with
  |ok _ hl _=>simp only[Zf,if_false];omega
  |bad _ _ hl _=>simp only[Zf,if_false,if_true];omega
end Go.Proofs
end
