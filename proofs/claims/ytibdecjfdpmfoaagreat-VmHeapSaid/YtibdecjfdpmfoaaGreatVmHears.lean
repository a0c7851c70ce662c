import Derived.Test.YtibdecjfdpmfoaaGreatVmPeek
section
open Go Go.Abs Go.Proofs.SlimCode Go.Img Go.Vm
set_option maxRecDepth 100000
namespace Go.Proofs
open List
open Go.Proofs.Tryz
variable {rv:AV} {rs:List Bool}
variable {g:Ya} {c:Mc} {a:Ac} {azs:List Ac} {im:Image} {x:Vm} {f:Fm} {fs:List Fm}
theorem v196g{g0:Ya}(hx0:Ext g0 g)(M:MV g0 c (a::azs) im {x with acts:=f::fs})(V:VOk im {x with acts:=f::fs})(hr:Sl RB 1 g rv rs)(hn:rs.length≤16):HM prog ann 196 [.ptr c.mi 0,.ptr a.i 0,rv] g (MX c (a::azs) im {x with acts:=f::fs}) fun v ys _=>ShowV v (({x with acts:=f::fs}:Vm).peek rs).2∧∃a',ys=MX c (a'::azs) im (({x with acts:=f::fs}:Vm).peek rs).1∧MV g0 c (a'::azs) im (({x with acts:=f::fs}:Vm).peek rs).1∧a'.i=a.i:=by
 intro G hg0 hD;have hg:=hx0.trans hg0;have F:=V.fr f (.head _);have hF:=M.fr0;have hlen:=F.len;have hst:=F.stk;have hrl:=hr.mono RB.mono (hg0.trans (Yr hD));have fin:∀{E:Env} {G3:Ya} {w:AV} {ok:Bool} {vk2:AV} {Lk2:OL} {r:Option (List Val)},SlE eV 2 vk2 f.stk Lk2→Ext G G3→Dis G3 (MX c ({a with vk:=vk2,Lk:=Lk2}::azs) im {x with acts:=f::fs}).flatten→(ok=r.isSome)→ShowV (.tup [w,.bool ok]) r→({x with acts:=f::fs}:Vm).peek rs=(if ok=true then{x with acts:=f::fs} else({x with acts:=f::fs}:Vm).ends 6,r)→lk E 0=some (.ptr c.mi 0)→lk E 8=some w→lk E 9=some (.bool ok)→
   Yb5 prog ann 196 f196.ntmps (.seq (.seq (.reg [] [⟨some 46,none,.mv (.r 9)⟩,⟨some 47,none,.un .not (.r 46)⟩]) (.cond (.r 47) (.reg [] [⟨some 48,none,.mv (.r 0)⟩,⟨some 49,none,.call (.c (.fn 41 [] [])) [(.r 48)]⟩]) .skip)) (.seq (.reg [] [⟨some 50,none,.mv (.r 8)⟩,⟨some 51,none,.mv (.r 9)⟩,⟨some 6,none,.mv (.r 50)⟩,⟨some 7,none,.mv (.r 51)⟩]) .ret)) E [] (hset G3 (MX c ({a with vk:=vk2,Lk:=Lk2}::azs) im {x with acts:=f::fs}).flatten) (Yj6 prog ann 196 f196.results.toList (Abs.SQ G fun v ys _=>ShowV v (({x with acts:=f::fs}:Vm).peek rs).2∧∃a',ys=MX c (a'::azs) im (({x with acts:=f::fs}:Vm).peek rs).1∧MV g0 c (a'::azs) im (({x with acts:=f::fs}:Vm).peek rs).1∧a'.i=a.i)):=by
  intro E G3 w ok vk2 Lk2 r hk2 hx hD _ hs hp e0 e8 e9;rw[hp];refine Ypj (E':=[(0,.ptr c.mi 0),(8,w),(9,.bool ok)]) (Ka e0 (Ka e8 (Ka e9 Yg4))) ?_;cases ok with
  |true=>
   refine tM ?_;exact hS0 (ys:=MX c ({a with vk:=vk2,Lk:=Lk2}::azs) im {x with acts:=f::fs}) (.tmp rfl (.tmp rfl .nil)) rfl hD hx ⟨hs,_,rfl,M.topF (a':={a with vk:=vk2,Lk:=Lk2}) (f':=f) rfl ⟨hF.code,hF.traps,hF.loc,hk2⟩,rfl⟩
  |false=>
   refine tM ?_;refine Xf (g:=g0) (xs:=MX c ({a with vk:=vk2,Lk:=Lk2}::azs) im {x with acts:=f::fs}) 0 hD (hg.trans hx) rfl rfl rfl rfl (v41 (x:={x with acts:=f::fs})) ?_;rintro _ _ G4 rfl hx3 hD;refine tM ?_;exact hS0 (ys:=MX c ({a with vk:=vk2,Lk:=Lk2}::azs) im (({x with acts:=f::fs}:Vm).ends 6)) (.tmp rfl (.tmp rfl .nil)) rfl hD (hx.trans hx3) ⟨hs,_,rfl,MV.ends (M.topF (a':={a with vk:=vk2,Lk:=Lk2}) (f':=f) rfl ⟨hF.code,hF.traps,hF.loc,hk2⟩),rfl⟩
 refine Yt rfl rfl func196 Zw rfl ?_;refine tM ?_;apply Y0 rfl rfl hrl;refine tM ?_;refine Q4 (g:=g0) [false,false,false,false,false,false,false,false,false,true,false,true] hD hg rfl rfl rfl rfl (v92 hF.stk hlen hn) ?_;rintro w ys G1 hR hx1 hD;by_cases h1:f.stk.length<rs.length
 ·rw[if_pos h1]at hR;obtain⟨rfl,rfl⟩:=hR;have hD:Dis G1 (MX c (a::azs) im {x with acts:=f::fs}).flatten:=hD;have es:({x with acts:=f::fs}:Vm).peek rs=(({x with acts:=f::fs}:Vm).ends 6,none):=by
   unfold Vm.peek Vm.topV;simp only[if_pos h1]
  refine tM ?_;refine Q4 (g:=g0) (xs:=MX c (a::azs) im {x with acts:=f::fs}) [false,false,false,false,false,false,false,false,false,true,false,true] hD (hg.trans hx1) rfl rfl rfl rfl (v90 (l:=[]) hF.stk hlen F.room .nil (Nat.zero_le _)) ?_;rintro _ _ G2 ⟨rfl,vk2,Lk2,rfl,hk2⟩ hx2 hD;rw[Ypz hst]at hD hk2 ⊢;have hD:Dis G2 (MX c ({a with vk:=vk2,Lk:=Lk2}::azs) im {x with acts:=f::fs}).flatten:=hD;apply X8;apply X0;apply K5;refine tM ?_;refine Xv (fun _:Unit=>[(0,.ptr c.mi 0),(8,.nil .sl),(9,.bool false),(28,I 0),(29,I 0)]) (fun _ h'=>h'=hset G2 (MX c ({a with vk:=vk2,Lk:=Lk2}::azs) im {x with acts:=f::fs}).flatten) (fun _=>0) () tU rfl ?_;rintro _ _ rfl;apply K5;refine tR ?_;apply K5;refine tR ?_;exact fin (r:=none) hk2 (hx1.trans hx2) hD rfl ⟨_,rfl⟩ es rfl rfl rfl
 ·rw[if_neg h1]at hR;obtain⟨w',rfl,hw',vk',rfl,hk'⟩:=hR;have hD:Dis G1 (MX c ({a with vk:=vk'}::azs) im {x with acts:=f.pop rs.length::fs}).flatten:=hD;have htn:(f.top rs.length).length=rs.length:=by unfold Fm.top;rw[length_drop];omega
  have hpl:(f.pop rs.length).stk.length≤16:=by show(f.stk.take _).length≤16;rw[length_take];omega
  have es:({x with acts:=f::fs}:Vm).peek rs=if(f.top rs.length).map (·.1)=rs then({x with acts:=f::fs},some (f.top rs.length)) else(({x with acts:=f::fs}:Vm).ends 6,none):=by
   unfold Vm.peek Vm.topV;simp only[if_neg h1]
  refine tM ?_;refine Q4 (g:=g0) (xs:=MX c ({a with vk:=vk'}::azs) im {x with acts:=f.pop rs.length::fs}) [false,false,false,false,false,false,false,false,false,true,false,true] hD (hg.trans hx1) rfl rfl rfl rfl (v90 (a:={a with vk:=vk'}) (f:=f.pop rs.length) hk' hpl F.room hw' (by omega)) ?_;rintro _ _ G2 ⟨rfl,vk2,Lk2,rfl,hk2⟩ hx2 hD;rw[Ypy (by omega) hst]at hD hk2 ⊢;have hD:Dis G2 (MX c ({a with vk:=vk2,Lk:=Lk2}::azs) im {x with acts:=f::fs}).flatten:=hD;generalize f.top rs.length=l at hw' htn es;have hw2:TSl 2 w' (l.flatMap eV) l.length:=hw';apply X8;apply X0;apply K5;refine tM ?_;refine Xv (fun s:Nat=>[(0,.ptr c.mi 0),(2,rv),(8,w'),(9,.bool (decide ((l.take s).map (·.1)=rs.take s))),(28,I l.length),(29,I s)]) (fun s h'=>s≤l.length∧h'=hset G2 (MX c ({a with vk:=vk2,Lk:=Lk2}::azs) im {x with acts:=f::fs}).flatten) (fun s=>l.length-s) 0 (by simp only[take_zero,map_nil];exact tU) ⟨by omega,rfl⟩ ?_;rintro s _ ⟨hs,rfl⟩;apply K5;refine tR ?_;refine oI (s<l.length) (fun H1=>?_) (fun H1=>?_);rotate_left
  ·obtain rfl:s=l.length:=by omega
   rw[take_length,htn,take_length];refine tR ?_;apply K5;refine tR ?_;by_cases hq:l.map (·.1)=rs
   ·rw[if_pos hq]at es;exact fin (r:=some l) hk2 (hx1.trans hx2) hD (by simp[hq]) (by rw[Zt hq];exact⟨_,rfl,hw'⟩) (by rw[es,Zt hq];rfl) rfl rfl rfl
   ·rw[if_neg hq]at es;exact fin (r:=none) hk2 (hx1.trans hx2) hD (by simp[hq]) (by rw[Zx hq];exact⟨_,rfl⟩) (by rw[es,Zx hq];rfl) rfl rfl rfl
  have hsr:s<rs.length:=by omega
  obtain rfl:=Yd5 hw2 (by omega);obtain⟨d,hd,_,hp⟩:=hr.at hsr;obtain rfl:d=[.bool rs[s]]:=hd;have hp2:=hp.mono (hg0.trans (hx1.trans (hx2.trans (Yr hD))));have etk:decide ((l.take (s+1)).map (·.1)=rs.take (s+1))=(decide ((l.take s).map (·.1)=rs.take s)&&(l[s].1==rs[s])):=by
   rw[take_succ_eq_append_getElem H1,take_succ_eq_append_getElem hsr,map_append];have hle:((l.take s).map (·.1)).length=(rs.take s).length:=by rw[length_map,length_take,length_take];omega
   rw[Bool.eq_iff_iff];simp only[decide_eq_true_eq,Za,beq_iff_eq];constructor
   ·intro h;obtain⟨h1,h2⟩:=append_inj h hle;exact⟨h1,by simpa using h2⟩
   ·rintro⟨h1,h2⟩;rw[h1];simp[h2]
  refine tM ?_;refine Ke (SP (iaV rv s 1) [.bool rs[s]]) [.C,.C,.C,.C,.C,.C,.L,.C,.C,.C,.L,.C,.C,.C] (stbP hp2) ?_;cases hk:decide ((l.take s).map (·.1)=rs.take s) with
  |false=>
   rw[hk]at etk;refine tD ?_;refine tM ?_;apply Y1 (w:=I ((s+1:Nat):Int)) rfl rfl trivial (by rw[w64 (by omega) (by omega)];rfl);refine tM ?_;exact⟨s+1,by simp only;omega,by simp only[etk];exact tU,rfl,by omega,rfl⟩
  |true=>
   rw[hk]at etk;refine tD ?_;apply Yia (w:= .tptr (l.flatMap eV) (s*2)) rfl ⟨by omega,by omega⟩ (by simp);refine tD ?_;refine Yo5 rfl rfl (l:=[.bool l[s].1]) (Ymr (by have:=J8 (js:=[]) Yh9 H1 (show 0<2 by decide);rw[append_nil]at this;exact this)) (.one rfl) ?_;refine tD ?_;refine Yl7 hr hsr rfl rfl rfl ?_;refine tD ?_;refine Yl6 hp (fun y hy=>hy) (.one rfl) (by decide) rfl rfl ?_;refine tD ?_;apply Yia (w:= .bool (l[s].1==rs[s])) rfl trivial rfl;refine tD ?_;refine tM ?_;apply Y1 (w:=I ((s+1:Nat):Int)) rfl rfl trivial (by rw[w64 (by omega) (by omega)];rfl);refine tM ?_;exact⟨s+1,by simp only;omega,by simp only[etk];exact tU,rfl,by omega,rfl⟩
theorem v196(M:MV g c (a::azs) im {x with acts:=f::fs})(V:VOk im {x with acts:=f::fs})(hr:Sl RB 1 g rv rs)(hn:rs.length≤16):HM prog ann 196 [.ptr c.mi 0,.ptr a.i 0,rv] g (MX c (a::azs) im {x with acts:=f::fs}) fun v ys _=>ShowV v (({x with acts:=f::fs}:Vm).peek rs).2∧∃a',ys=MX c (a'::azs) im (({x with acts:=f::fs}:Vm).peek rs).1∧MV g c (a'::azs) im (({x with acts:=f::fs}:Vm).peek rs).1∧a'.i=a.i:=v196g .refl M V hr hn
end Go.Proofs
end
section
open Go Go.Abs Go.Proofs.SlimCode Go.Img Go.Vm
namespace Go.Vm
open List
variable {im:Image}
open Go.Proofs
theorem FOk.top{u:Hp}{f:Fm}(F:FOk im u f)(n:Nat):∀v∈f.top n,VV u v:=fun v hv=>F.val v (mem_append.2 (.inr (mem_of_mem_drop hv)))
theorem VOk.lay(hI:ImOk im){x:Vm}{k init:Int}{l:List Val}(V:VOk im x)(hl:∀v∈l,VV x.hp v)(hi:init= -1∨IsT im init):VOk im (x.lay im k init l).1:=by
 by_cases h1:64≤x.acts.length
 ·rw[Yqa h1];exact V.ends
 by_cases h2:Yhq im k∧(l.length:Int)=(mAt im k).args
 ·rw[lay_ok h1 h2.1 h2.2];obtain⟨_,w2⟩:=hI.mth h2.1;have hhead:=w2.head h2.1.2;have hloc:=w2.locals;have hstk:=w2.stack;refine⟨V.hp,V.stat,V.sv,V.at',V.inp,by show x.acts.length+1≤64;omega,fun g hg=>?_,V.st⟩;rcases mem_cons.1 hg with rfl|hg
  ·refine⟨⟨h2.1,rfl⟩,?_,hstk,by show((0:Nat):Int)≤_;exact hstk.1,fun v hv=>?_,hi,.inl rfl,?_⟩
   ·show(l++List.replicate _ _).length≤16;rw[length_append,length_replicate];omega
   ·have hv:v∈(l++List.replicate _ _)++[]:=hv;rw[append_nil]at hv;rcases mem_append.1 hv with h|h
    ·exact hl v h
    ·rw[eq_of_mem_replicate h];exact⟨⟨by decide,by decide⟩,fun e=>by cases e⟩
   ·show 0≤(0:Int)∧(0:Int)≤(mAt im k).code.length;omega
  ·exact V.fr g hg
 ·rw[Yjc h1 fun hc e=>h2 ⟨hc,e⟩];exact V.ends
end Go.Vm
set_option maxRecDepth 100000
namespace Go.Proofs
open List
variable {g:Ya} {c:Mc} {az:List Ac} {im:Image} {x:Vm}
end Go.Proofs
namespace Go.Vm
open List
open Go.Proofs
theorem Yqv{im:Image}{c:Int}{x y:Vm}:∀{l:List Int},Vm.ask im c x l=(y,true)→y=x
 |[],h=>by cases h;rfl
 |k::l,h=>by
  rw[Vm.ask]at h;split at h
  ·cases h
  ·rename_i z e;have:=Yqv e;subst this;split at h
   ·cases h
   ·split at h
    ·cases h
    ·cases h;rfl
end Go.Vm
set_option maxRecDepth 100000
namespace Go.Proofs
open List
variable {g:Ya} {c:Mc} {az:List Ac} {im:Image} {x:Vm}
end Go.Proofs
namespace Go.Vm
open List
open Go.Proofs
theorem Yrg{im:Image}{c:Int}{x:Vm}(h:(x.needs im c).2=true):(x.needs im c).1=x:=by
 cases e:x.needs im c with
 |mk y b=>
  rw[e]at h;obtain rfl:b=true:=h;exact Yqv e
end Go.Vm
set_option maxRecDepth 100000
namespace Go.Proofs
open List
variable {g:Ya} {c:Mc} {az:List Ac} {im:Image} {x:Vm}
end Go.Proofs
namespace Go.Vm
open List
open Go.Proofs
theorem any_cases{_im:Image}{x:Vm}{f:Fm}{fs:List Fm}{n:Nat}:(f.stk.length<n∧({x with acts:=f::fs}:Vm).any n=(({x with acts:=f::fs}:Vm).ends 6,none))∨(n≤f.stk.length∧({x with acts:=f::fs}:Vm).any n=({x with acts:=f::fs},some (f.top n))):=by
 by_cases h:f.stk.length<n
 ·refine .inl ⟨h,?_⟩;unfold Vm.any Vm.topV;simp only[if_pos h]
 ·refine .inr ⟨by omega,?_⟩;unfold Vm.any Vm.topV;simp only[if_neg h]
end Go.Vm
set_option maxRecDepth 100000
namespace Go.Proofs
open List
variable {g:Ya} {c:Mc} {a:Ac} {azs:List Ac} {im:Image} {x:Vm} {f:Fm} {fs:List Fm}
end Go.Proofs
namespace Go.Vm
open List
end Go.Vm
set_option maxRecDepth 100000
namespace Go.Proofs
open List
variable {g:Ya} {c:Mc} {a:Ac} {azs:List Ac} {im:Image} {x:Vm} {f:Fm} {fs:List Fm}
end Go.Proofs
end
section
open Go Go.Abs Go.Proofs.SlimCode Go.Img Go.Vm
set_option maxRecDepth 100000
namespace Go.Proofs
open List
variable {g:Ya} {c:Mc} {a:Ac} {azs:List Ac} {im:Image} {x:Vm} {f:Fm} {fs:List Fm}
end Go.Proofs
end
section
open Go Go.Abs Go.Proofs.SlimCode Go.Img Go.Vm
namespace Go.Vm
open List
variable {f:Fm} {h:Ya}
def eF (i:Kr):List AV:=[I i.1,I i.2.1,I i.2.2.1,I i.2.2.2]
def IR (g:Ya) (c:Mc) (im:Image) (y:Vm):AV→CL→Ya→Prop:=fun _ ys _=>∃c' az',ys=MX c' az' im y∧MV g c' az' im y∧c'.mi=c.mi
theorem Yhc{_im:Image}{x:Vm}{fs:List Fm}(rs:List Bool):(({x with acts:=f::fs}:Vm).peek rs=(({x with acts:=f::fs}:Vm).ends 6,none))∨(rs.length≤f.stk.length∧(f.top rs.length).map (·.1)=rs∧({x with acts:=f::fs}:Vm).peek rs=({x with acts:=f::fs},some (f.top rs.length))):=by
 by_cases h:f.stk.length<rs.length
 ·refine .inl ?_;unfold Vm.peek Vm.topV;simp only[if_pos h]
 ·by_cases h2:(f.top rs.length).map (·.1)=rs
  ·refine .inr ⟨by omega,h2,?_⟩;unfold Vm.peek Vm.topV;simp only[if_neg h,if_pos h2]
  ·refine .inl ?_;unfold Vm.peek Vm.topV;simp only[if_neg h,if_neg h2]
theorem sl_rb:∀(rs:List Bool),Chunks (RB h) 1 (rs.map AV.bool) rs
 |[]=> .nil
 |b::rs=>Chunks.cons (R:=RB h) (c:=[.bool b]) (a:=b) rfl rfl (sl_rb rs)
theorem sl_tb(rs:List Bool):Sl RB 1 h (.tsl (rs.map AV.bool) rs.length) rs:=⟨_,.tsl _ _ (by rw[length_map,Nat.mul_one]),sl_rb rs⟩
theorem Yoe{n:Nat}(h:n≤f.stk.length):(f.top n).length=n:=by unfold Fm.top;rw[length_drop];omega
end Go.Vm
set_option maxRecDepth 100000
namespace Go.Proofs
open List
variable {g:Ya} {c:Mc} {a:Ac} {azs:List Ac} {im:Image} {x:Vm} {f:Fm} {fs:List Fm} {i:Kr}
end Go.Proofs
end
section
open Go Go.Abs Go.Proofs.SlimCode Go.Img Go.Vm
set_option maxRecDepth 100000
namespace Go.Proofs
open List
open Go.Proofs.Tryz
variable {g:Ya} {c:Mc} {a:Ac} {azs:List Ac} {im:Image} {x:Vm} {f:Fm} {fs:List Fm} {i:Kr}
theorem v126P(hI:ImOk im)(M:MV g c (a::azs) im {x with acts:=f::fs})(V:VOk im {x with acts:=f::fs})(hR:Go.Vm.two i.1 (n0 (f.top 2) 0) (n0 (f.top 2) 1)=none→∀a1,MV g c (a1::azs) im {x with acts:=f::fs}→HM prog ann 80 [.ptr c.mi 0,I 4] g (MX c (a1::azs) im {x with acts:=f::fs}) fun _ ys _=>∃c' az',ys=MX c' az' im (({x with acts:=f::fs}:Vm).raise im 4)∧MV g c' az' im (({x with acts:=f::fs}:Vm).raise im 4)∧c'.mi=c.mi):HM prog ann 126 [.ptr c.mi 0,.ptr a.i 0,.agg (eF i)] g (MX c (a::azs) im {x with acts:=f::fs}) (IR g c im (({x with acts:=f::fs}:Vm).two im i)):=by
 intro G hg hD;have F:=V.fr f (.head _);refine Yt rfl rfl func126 Zw rfl ?_;refine tM ?_;refine Xf (g:=g) (xs:=MX c (a::azs) im {x with acts:=f::fs}) 0 hD hg rfl rfl rfl rfl (v196 M V (sl_tb [false,false]) (by decide)) ?_;rintro w _ G1 ⟨hw,a1,rfl,M1,ha1⟩ hx1 hD;rcases Yhc (_im:=im) (x:=x) (f:=f) (fs:=fs) [false,false]with e1|⟨h1,h2,e1⟩
 ·have eo:({x with acts:=f::fs}:Vm).two im i=({x with acts:=f::fs}:Vm).ends 6:=by unfold Go.Vm.Vm.two;rw[e1]
  rw[e1]at hw hD M1 ⊢;rw[eo];obtain⟨w0,rfl⟩:=hw;have hD:Dis G1 (MX c (a1::azs) im (({x with acts:=f::fs}:Vm).ends 6)).flatten:=hD;refine tM ?_;exact hS0 (ys:=MX c (a1::azs) im (({x with acts:=f::fs}:Vm).ends 6)) .nil rfl hD hx1 ⟨c,_,rfl,M1,rfl⟩
 ·have eo:({x with acts:=f::fs}:Vm).two im i=match Go.Vm.two i.1 (n0 (f.top [false,false].length) 0) (n0 (f.top [false,false].length) 1) with
   |none=>({x with acts:=f::fs}:Vm).raise im 4
   |some n=>({x with acts:=f::fs}:Vm).swap 2 [(false,n)]:=by unfold Go.Vm.Vm.two;rw[e1];rfl
  rw[e1]at hw hD M1 ⊢;obtain⟨w0,rfl,htv⟩:=hw;have hD:Dis G1 (MX c (a1::azs) im {x with acts:=f::fs}).flatten:=hD;have M1:MV g c (a1::azs) im {x with acts:=f::fs}:=M1;have htl:=Yoe h1;have hvt:=F.top [false,false].length;have hR2:Go.Vm.two i.1 (n0 (f.top [false,false].length) 0) (n0 (f.top [false,false].length) 1)=none→_:=hR;generalize f.top [false,false].length=l at htv htl eo hvt hR2;have h0:0<l.length:=by rw[htl];decide
  have h1':1<l.length:=by rw[htl];decide
  have htv2:TSl 2 w0 (l.flatMap eV) l.length:=htv;obtain rfl:=Yd5 htv2 h0;have eg:n0 l 0=l[0].2:=by unfold n0;rw[←atD h0]
  have eg1:n0 l 1=l[1].2:=by unfold n0;rw[←atD h1']
  rw[eg,eg1]at eo hR2;rw[eo];have i0:=(hvt _ (getElem_mem h0)).i32;have i1:=(hvt _ (getElem_mem h1')).i32;refine tM ?_;refine Ke [] [.C,.L,.C,.C,.C,.L,.C,.C,.C,.L,.W,.C,.C,.C,.C,.C] .nil ?_;unfold eF;refine tD ?_;apply Yia (w:= .tptr (l.flatMap eV) 0) rfl ⟨by omega,by omega⟩ rfl;refine tD ?_;refine Yo5 rfl rfl (l:=[.int .i32 l[0].2]) (Ymr (by have:=J8 (js:=[]) Yh9 h0 (show 1<2 by decide);rw[append_nil]at this;exact this)) (.one rfl) ?_;refine tD ?_;apply Yia (w:= .tptr (l.flatMap eV) 2) rfl ⟨by omega,by omega⟩ rfl;refine tD ?_;refine Yo5 rfl rfl (l:=[.int .i32 l[1].2]) (Ymr (by have:=J8 (js:=[]) Yh9 h1' (show 1<2 by decide);rw[append_nil]at this;exact this)) (.one rfl) ?_;refine tD ?_;apply Ydz (n85 i0 i1);cases ht:Go.Vm.two i.1 l[0].2 l[1].2 with
  |none=>
   unfold oV;refine tD ?_;refine tM ?_;refine Xf (g:=g) (xs:=MX c (a1::azs) im {x with acts:=f::fs}) 0 hD (hg.trans hx1) rfl rfl rfl rfl (hR2 ht a1 M1) ?_;rintro _ _ G2 ⟨c2,az2,rfl,M2,S2⟩ hx2 hD;refine tM ?_;exact hS0 (ys:=MX c2 az2 im (({x with acts:=f::fs}:Vm).raise im 4)) .nil rfl hD (hx1.trans hx2) ⟨c2,_,rfl,M2,S2⟩
  |some n=>
   unfold oV;refine tD ?_;refine tM ?_;apply Xh (v198 (n:=n));refine tM ?_;rw[←ha1];refine Xf (g:=g) (xs:=MX c (a1::azs) im {x with acts:=f::fs}) 0 hD (hg.trans hx1) rfl rfl rfl rfl (v197 (n:=2) (l:=[(false,n)]) hI M1 V (by decide) (.tsl _ _ rfl) (show 1≤16 by decide)) ?_;rintro _ _ G2 ⟨a2,rfl,M2,_⟩ hx2 hD;refine tM ?_;exact hSn (ys:=MX c (a2::azs) im (({x with acts:=f::fs}:Vm).swap 2 [(false,n)])) rfl hD (hx1.trans hx2) ⟨c,_,rfl,M2,rfl⟩
theorem v145(M:MV g c (a::azs) im {x with acts:=f::fs})(V:VOk im {x with acts:=f::fs}):HM prog ann 145 [.ptr c.mi 0,.ptr a.i 0,.agg (eF i)] g (MX c (a::azs) im {x with acts:=f::fs}) (IR g c im (({x with acts:=f::fs}:Vm).exit i)):=by
 intro G hg hD;refine Yt rfl rfl func145 Zw rfl ?_;refine tM ?_;refine Xf (g:=g) (xs:=MX c (a::azs) im {x with acts:=f::fs}) 0 hD hg rfl rfl rfl rfl (v196 M V (sl_tb [false]) (by decide)) ?_;rintro w _ G1 ⟨hw,a1,rfl,M1,ha1⟩ hx1 hD;rcases Yhc (_im:=im) (x:=x) (f:=f) (fs:=fs) [false]with e1|⟨h1,h2,e1⟩
 ·have eo:({x with acts:=f::fs}:Vm).exit i=({x with acts:=f::fs}:Vm).ends 6:=by unfold Vm.exit;rw[e1]
  rw[e1]at hw hD M1 ⊢;rw[eo];obtain⟨w0,rfl⟩:=hw;have hD:Dis G1 (MX c (a1::azs) im (({x with acts:=f::fs}:Vm).ends 6)).flatten:=hD;refine tM ?_;exact hSn (ys:=MX c (a1::azs) im (({x with acts:=f::fs}:Vm).ends 6)) rfl hD hx1 ⟨c,_,rfl,M1,rfl⟩
 ·have eo:({x with acts:=f::fs}:Vm).exit i={x with acts:=f::fs,code:=n0 (f.top [false].length) 0,fin:=1}:=by unfold Vm.exit;rw[e1]
  rw[e1]at hw hD M1 ⊢;rw[eo];obtain⟨w0,rfl,htv⟩:=hw;have hD:Dis G1 (MX c (a1::azs) im {x with acts:=f::fs}).flatten:=hD;have M1:MV g c (a1::azs) im {x with acts:=f::fs}:=M1;have htl:=Yoe h1;generalize f.top [false].length=l at htv htl;have h0:0<l.length:=by rw[htl];decide
  have htv2:TSl 2 w0 (l.flatMap eV) l.length:=htv;obtain rfl:=Yd5 htv2 h0;have eg:n0 l 0=l[0].2:=by unfold n0;rw[←atD h0]
  rw[eg];refine tM ?_;apply Y1 (w:= .tptr (l.flatMap eV) 0) rfl rfl ⟨by omega,by omega⟩ rfl;refine tM ?_;refine Ynb rfl rfl (v:= .int .i32 l[0].2) (by have:=J8 (js:=[]) Yh9 h0 (show 1<2 by decide);rw[append_nil]at this;exact this) ?_;refine tM ?_;refine Qs (xs:=MX c (a1::azs) im {x with acts:=f::fs}) 0 hD rfl rfl rfl rfl rfl rfl (show 18<20 by decide) fun hD=>?_;have hD:Dis G1 (MX c (a1::azs) im {x with acts:=f::fs,code:=l[0].2}).flatten:=hD;refine tM ?_;refine Xf (g:=g) (xs:=MX c (a1::azs) im {x with acts:=f::fs,code:=l[0].2}) 0 hD (hg.trans hx1) rfl rfl rfl rfl (v81 (x:={x with acts:=f::fs,code:=l[0].2})) ?_;rintro _ _ G2 rfl hx2 hD;refine tM ?_;exact hSn (ys:=MX c (a1::azs) im (({x with acts:=f::fs,code:=l[0].2}:Vm).ends 1)) rfl hD (hx1.trans hx2) ⟨c,_,rfl,⟨M1.img,M1.inp,M1.hw,M1.hs,M1.st,M1.at',M1.out,M1.ac,M1.fr⟩,rfl⟩
variable {g:Ya} {c:Mc} {a:Ac} {azs:List Ac} {im:Image} {x:Vm} {f:Fm} {fs:List Fm} {i:Kr}
theorem v144(hI:ImOk im)(M:MV g c (a::azs) im {x with acts:=f::fs})(V:VOk im {x with acts:=f::fs})(ho:(x.out.length:Int)<x.steps∧x.steps≤2^40):HM prog ann 144 [.ptr c.mi 0,.ptr a.i 0,.agg (eF i)] g (MX c (a::azs) im {x with acts:=f::fs}) (IR g c im (({x with acts:=f::fs}:Vm).tells i)):=by
 intro G hg hD;refine Yt rfl rfl func144 Zw rfl ?_;refine tM ?_;refine Xf (g:=g) (xs:=MX c (a::azs) im {x with acts:=f::fs}) 0 hD hg rfl rfl rfl rfl (v196 M V (sl_tb [false]) (by decide)) ?_;rintro w _ G1 ⟨hw,a1,rfl,M1,ha1⟩ hx1 hD;rcases Yhc (_im:=im) (x:=x) (f:=f) (fs:=fs) [false]with e1|⟨h1,h2,e1⟩
 ·have eo:({x with acts:=f::fs}:Vm).tells i=({x with acts:=f::fs}:Vm).ends 6:=by unfold Vm.tells;rw[e1]
  rw[e1]at hw hD M1 ⊢;rw[eo];obtain⟨w0,rfl⟩:=hw;have hD:Dis G1 (MX c (a1::azs) im (({x with acts:=f::fs}:Vm).ends 6)).flatten:=hD;refine tM ?_;exact hSn (ys:=MX c (a1::azs) im (({x with acts:=f::fs}:Vm).ends 6)) rfl hD hx1 ⟨c,_,rfl,M1,rfl⟩
 ·have eo:({x with acts:=f::fs}:Vm).tells i=({x with acts:=f::fs,out:=x.out++[n0 (f.top [false].length) 0]}:Vm).swap 1 []:=by unfold Vm.tells;rw[e1]
  rw[e1]at hw hD M1 ⊢;rw[eo];obtain⟨w0,rfl,htv⟩:=hw;have hD:Dis G1 (MX c (a1::azs) im {x with acts:=f::fs}).flatten:=hD;have M1:MV g c (a1::azs) im {x with acts:=f::fs}:=M1;have htl:=Yoe h1;generalize f.top [false].length=l at htv htl;have h0:0<l.length:=by rw[htl];decide
  have htv2:TSl 2 w0 (l.flatMap eV) l.length:=htv;obtain rfl:=Yd5 htv2 h0;have eg:n0 l 0=l[0].2:=by unfold n0;rw[←atD h0]
  rw[eg];have hout:SlE eW 1 c.vo x.out c.Lo:=M1.out;have hm:=Yk hD (Yi (k:=0) rfl (.head _));refine tM ?_;refine Ke [(c.mi,16,1,[c.vo])] [.C,.C,.C,.C,.C,.L,.C,.C,.C,.L,.C,.W,.C,.C,.C,.W] (Ybs hm rfl .nil) ?_;refine tD ?_;apply Yia (w:= .tptr (l.flatMap eV) 0) rfl ⟨by omega,by omega⟩ rfl;refine tD ?_;refine Yo5 rfl rfl (l:=[.int .i32 l[0].2]) (Ymr (by have:=J8 (js:=[]) Yh9 h0 (show 1<2 by decide);rw[append_nil]at this;exact this)) (.one rfl) ?_;refine tD ?_;refine d_appE (m:=[l[0].2]) 6 encW hout hD rfl rfl rfl rfl rfl (by show(_+1)*5≤_;omega) fun vo' Lo' ho' hD=>?_;refine⟨fun h=>absurd h (by decide),Yd2 (Yk hD (Yi (k:=0) rfl (.head _))) Ynm,?_⟩;refine tD ?_;refine Yjm 0 hD rfl rfl rfl rfl ho'.one (show 16<20 by decide) fun hD=>?_;refine⟨fun h=>absurd h (by decide),Yd2 (Yk hD (Yi (k:=0) rfl (.head _))) Ynm,?_⟩;have hD:Dis G1 (MX {c with vo:=vo',Lo:=Lo'} (a1::azs) im {x with acts:=f::fs,out:=x.out++[l[0].2]}).flatten:=hD;have M2:MV g {c with vo:=vo',Lo:=Lo'} (a1::azs) im {x with acts:=f::fs,out:=x.out++[l[0].2]}:=⟨M1.img,M1.inp,M1.hw,M1.hs,M1.st,M1.at',ho',M1.ac,M1.fr⟩;have V2:VOk im {x with acts:=f::fs,out:=x.out++[l[0].2]}:=⟨V.hp,V.stat,V.sv,V.at',V.inp,V.n,V.fr,V.st.1,by show((x.out++[l[0].2]).length:Int)≤x.steps;rw[length_append];show((x.out.length+1:Nat):Int)≤_;omega⟩;refine tD ?_;refine tM ?_;rw[←ha1];refine Xf (g:=g) (xs:=MX {c with vo:=vo',Lo:=Lo'} (a1::azs) im {x with acts:=f::fs,out:=x.out++[l[0].2]}) 0 hD (hg.trans hx1) rfl rfl rfl rfl (v197 (c:={c with vo:=vo',Lo:=Lo'}) (x:={x with out:=x.out++[l[0].2]}) (n:=1) (l:=[]) hI M2 V2 (by decide) .nil (Nat.zero_le _)) ?_;rintro _ _ G2 ⟨a2,rfl,M3,_⟩ hx2 hD;refine tM ?_;exact hSn (ys:=MX {c with vo:=vo',Lo:=Lo'} (a2::azs) im (({x with acts:=f::fs,out:=x.out++[l[0].2]}:Vm).swap 1 [])) rfl hD (hx1.trans hx2) ⟨_,_,rfl,M3,rfl⟩
end Go.Proofs
end
section
namespace Go.Abs
open List hiding nil
variable {v:AV} {r:List SO} {d s:Nat} {x:SX} {α:Type} {h':Ya} {l:List α} {R:Ya→List AV→α→Prop}
section
variable {P:Program} {A:Ann} {f nt q:Nat} {E:Env} {bx:List Nat} {h:Ya} {S:PS} {cls:List CD} {Q:AX→Env→List Nat→Ya→Prop}
theorem d_sltV{n:Nat}{lo hi:Option SX}{cs:List AV}{l m:Int}(hlt:(decide (d<nt))=true)(hx:ev (lk E) x=some v)(hv:VSl h' s v cs n)(hlo:evI (lk E) 0 lo=some l)(hhi:evI (lk E) n hi=some m)(h1:0≤l)(h2:l≤m)(h3:m≤n)
  (H:∀w,VSl h' s w ((cs.take (m.toNat*s)).drop (l.toNat*s)) (m.toNat-l.toNat)→Xu P A f nt S (q-1) cls r ((d,w)::E) bx h Q):Xu P A f nt S q (.C::cls) (⟨some d,none,.slt x lo hi s⟩::r) E bx h Q:=by
 have hl:=hv.len;have hb:l.toNat*s≤m.toNat*s:=Zr s (by omega);have hb2:m.toNat*s≤n*s:=Zr s (by omega);have hlen:((cs.take (m.toNat*s)).drop (l.toNat*s)).length=(m.toNat-l.toNat)*s:=by
  rw[length_drop,length_take,hl,Nat.min_eq_left hb2,Nat.sub_mul]
 cases hv with
 |nil=>
  refine d_v (p:=l=0∧m=0) rfl rfl hlt (by simp only[sv,hx,hlo];rw[show((0:Nat):Int)=0 from rfl]at hhi;rw[hhi]) ⟨by omega,by omega⟩ (H _ ?_);have e1:l.toNat=0:=by omega
  have e2:m.toNat=0:=by omega
  rw[e1,e2];simpa using VSl.nil
 |tsl _ _ _=>exact d_v (p:=0≤l∧l≤m∧m≤n) rfl rfl hlt (by simp only[sv,hx,hlo,hhi]) ⟨h1,h2,h3⟩ (H _ (.tsl _ _ hlen))
 |sl id off _ os _ hid hc=>
  refine d_v (p:=s=s∧0≤l∧l≤m∧m≤n) (v:= .sl id (off+l.toNat*s) (m.toNat-l.toNat) s) rfl rfl hlt (by simp only[sv,hx,hlo,hhi]) ⟨rfl,h1,h2,h3⟩ (H _ (.sl _ _ _ os _ hid ?_));have e:Yp cs (l.toNat*s) ((m.toNat-l.toNat)*s)=some ((cs.take (m.toNat*s)).drop (l.toNat*s)):=by
   have hsub:(m.toNat-l.toNat)*s=m.toNat*s-l.toNat*s:=Nat.sub_mul _ _ _;rw[Ybc (by rw[hsub];omega),hsub,drop_take]
  exact Ja hc e
theorem d_sltS{lo hi:Option SX}{a b:Nat}(hlt:(decide (d<nt))=true)(hx:ev (lk E) x=some v)(hv:Sl R s h' v l)(hlo:evI (lk E) 0 lo=some (a:Int))(hhi:evI (lk E) l.length hi=some (b:Int))(h2:a≤b)(h3:b≤l.length)
  (H:∀w,Sl R s h' w ((l.take b).drop a)→Xu P A f nt S (q-1) cls r ((d,w)::E) bx h Q):Xu P A f nt S q (.C::cls) (⟨some d,none,.slt x lo hi s⟩::r) E bx h Q:=by
 obtain⟨cs,g1,g2⟩:=hv;refine d_sltV hlt hx g1 hlo hhi (by omega) (by omega) (by omega) fun w hw=>H w ⟨_,?_,(g2.take b).drop a⟩;simp only[Zn]at hw;have:((l.take b).drop a).length=b-a:=by simp;omega
 rw[this];exact hw
theorem d_lenS(hlt:(decide (d<nt))=true)(hx:ev (lk E) x=some v)(hv:Sl R s h' v l)
  (H:Xu P A f nt S (q-1) cls r ((d,.int .i64 l.length)::E) bx h Q):Xu P A f nt S q (.C::cls) (⟨some d,none,.len x none⟩::r) E bx h Q:=by
 obtain⟨cs,g1,_⟩:=hv;generalize l.length=n at g1 H;cases g1 with
 |nil=>exact d_v (p:=True) (v:= .int .i64 ((0:Nat):Int)) rfl rfl hlt (by simp only[sv,hx];rfl) trivial H
 |tsl _ _ _=>exact d_v (p:=True) rfl rfl hlt (by simp only[sv,hx]) trivial H
 |sl id off _ os _ hid hc=>exact d_v (p:=True) rfl rfl hlt (by simp only[sv,hx]) trivial H
end
end Go.Abs
end
section
open Go Go.Abs Go.Proofs.SlimCode Go.Img Go.Vm
set_option maxRecDepth 100000
namespace Go.Proofs
open List hiding cons nil
open Go.Proofs.Tryz
variable {g:Ya} {c:Mc} {a:Ac} {azs:List Ac} {im:Image} {x:Vm} {f:Fm} {fs:List Fm} {i:Kr}
theorem v143(hI:ImOk im)(M:MV g c (a::azs) im {x with acts:=f::fs})(V:VOk im {x with acts:=f::fs}):HM prog ann 143 [.ptr c.mi 0,.ptr a.i 0,.agg (eF i)] g (MX c (a::azs) im {x with acts:=f::fs}) (IR g c im (({x with acts:=f::fs}:Vm).hears i)):=by
 intro G hg hD;have hin:Sl (RN .i32) 1 g c.vin x.inp:=M.inp;have hin2:=hin.mono RN.mono (hg.trans (Yr hD));obtain hi|⟨n,l,hi⟩:x.inp=[]∨∃n l,x.inp=n::l:=by
  cases x.inp with
  |nil=>exact .inl rfl
  |cons n l=>exact .inr ⟨n,l,rfl⟩
 ·have eo:({x with acts:=f::fs}:Vm).hears i=({x with acts:=f::fs}:Vm).swap 0 [(false,-1)]:=by
   have ex:({x with acts:=f::fs,inp:=x.inp.tail}:Vm)={x with acts:=f::fs}:=by rw[show x.inp.tail=x.inp by rw[hi];rfl]
   show({x with acts:=f::fs,inp:=x.inp.tail}:Vm).swap 0 [(false,x.inp.getD 0 (-1))]=_;rw[ex,hi];rfl
  rw[eo];refine Yt rfl rfl func143 Zw rfl ?_;refine tM ?_;apply Y0 rfl rfl hin2;rw[show x.inp.length=0 by rw[hi];rfl];refine oI (0<((0:Nat):Int)) (fun h=>absurd h (by decide)) (fun _=>?_);refine tM ?_;apply Xh (v198 (n:= -1));refine tM ?_;refine Xf (g:=g) (xs:=MX c (a::azs) im {x with acts:=f::fs}) 0 hD hg rfl rfl rfl rfl (v197 (n:=0) (l:=[(false,-1)]) hI M V (by decide) (.tsl _ _ rfl) (show 1≤16 by decide)) ?_;rintro _ _ G2 ⟨a2,rfl,M3,_⟩ hx2 hD;refine tM ?_;exact hSn (ys:=MX c (a2::azs) im (({x with acts:=f::fs}:Vm).swap 0 [(false,-1)])) rfl hD hx2 ⟨_,_,rfl,M3,rfl⟩
 ·have V2:VOk im {x with acts:=f::fs,inp:=l}:=⟨V.hp,V.stat,V.sv,V.at',fun n hn=>V.inp n (by show n∈x.inp;rw[hi];exact .tail _ hn),V.n,V.fr,V.st⟩;have eo:({x with acts:=f::fs}:Vm).hears i=({x with acts:=f::fs,inp:=l}:Vm).swap 0 [(false,n)]:=by
   show({x with acts:=f::fs,inp:=x.inp.tail}:Vm).swap 0 [(false,x.inp.getD 0 (-1))]=_;rw[hi];rfl
  rw[eo];refine Yt rfl rfl func143 Zw rfl ?_;refine tM ?_;apply Y0 rfl rfl hin2;rw[hi]at hin2 hin ⊢;refine oI (0<((n::l).length:Int)) (fun _=>?_) (fun h=>absurd h (by simp only[length_cons];omega));have hm:=Yk hD (Yi (k:=0) rfl (.head _));obtain⟨d,hd,_,hp⟩:=hin.at (z:=0) (by simp);obtain rfl:d=[.int .i32 n]:=hd;refine tM ?_;refine Ke ((c.mi,12,1,[c.vin])::SP (iaV c.vin 0 1) [.int .i32 n]) [.C,.C,.C,.C,.L,.C,.L,.C,.C,.C,.L,.C,.C,.C,.C,.W] (Ybs hm rfl (stbP (hp.mono (hg.trans (Yr hD))))) ?_;refine tD ?_;refine Yl7 hin (z:=0) (by simp) rfl rfl rfl ?_;refine Yl6 hp (fun y hy=> .tail _ hy) (.one rfl) (by decide) rfl rfl ?_;refine tD ?_;refine d_sltS (a:=1) (b:=(n::l).length) rfl rfl hin rfl rfl (by simp) (Zl _) fun w hw=>?_;have hw:Sl (RN .i32) 1 g w l:=by simpa using hw
  refine tD ?_;refine Yjm 0 hD rfl rfl rfl rfl hw.one (show 12<20 by decide) fun hD=>?_;have hm:=Yk hD (Yi (k:=0) rfl (.head _));refine⟨fun h=>absurd h (by decide),Yd2 hm (livP (hp.mono (hg.trans (Yr hD)))),?_⟩;have hD:Dis G (MX {c with vin:=w} (a::azs) im {x with acts:=f::fs,inp:=l}).flatten:=hD;have M2:MV g {c with vin:=w} (a::azs) im {x with acts:=f::fs,inp:=l}:=⟨M.img,hw,M.hw,M.hs,M.st,M.at',M.out,M.ac,M.fr⟩;refine tD ?_;refine tM ?_;apply Xh (v198 (n:=n));refine tM ?_;refine Xf (g:=g) (xs:=MX {c with vin:=w} (a::azs) im {x with acts:=f::fs,inp:=l}) 0 hD hg rfl rfl rfl rfl (v197 (c:={c with vin:=w}) (x:={x with inp:=l}) (n:=0) (l:=[(false,n)]) hI M2 V2 (by decide) (.tsl _ _ rfl) (show 1≤16 by decide)) ?_;rintro _ _ G2 ⟨a2,rfl,M3,_⟩ hx2 hD;refine tM ?_;exact hSn (ys:=MX {c with vin:=w} (a2::azs) im (({x with acts:=f::fs,inp:=l}:Vm).swap 0 [(false,n)])) rfl hD hx2 ⟨_,_,rfl,M3,rfl⟩
end Go.Proofs
end
