import Derived.Test.YtibdecjfdpmfoaaGreatAbsOpsD
import Derived.Lib.AppendStr
open Go.RowKit (Below)
namespace Go.Abs
open List hiding Mem cons map nil
variable {k v x:AV} {ts:Array TypeId} {b:Bool} {i:Nat} {d:TypeDesc} {t:TypeId} {kv pv xv:Value}
section
variable {P:Program} {B:Nat} {w0:Anchor} {w:World} {μ:Mu} {M:Mem} {h h':Ya} {n n':Nat} {lg:Log}
def OptR (μ:Mu) (M:Mem):Option AV→Option Value→Prop
 |none,none=>True
 |some a,some v=>VR μ M a v
 |_,_=>False
theorem evo_rel{ev:Operand→Option AV}{ρ:Operand→Value}(hev:EvR μ M ev ρ){x:Option Operand}{r:Option AV}(e:evo ev x=some r):OptR μ M r (x.map ρ):=by
 cases x with
 |none=>simp[evo]at e;subst e;trivial
 |some x=>
  simp only[evo]at e;obtain⟨v,hv,rfl⟩:=Yjy e;exact hev x v hv
theorem Yel{a:AV}{v:Value}{i:Int}(hr:VR μ M a v)(e:Yct a=some i):∃k,v= .int k i:=by
 cases hr<;>simp[Yct]at e
 subst e;exact⟨_,rfl⟩
theorem Ycx{isSlice:Bool}{len cap l r:Nat}{lo hi:Option AV}{lov hiv:Option Value}(hlo:OptR μ M lo lov)(hhi:OptR μ M hi hiv)(hc:len≤cap)(e:Jt len lo hi=some (l,r)) :
  (Instr.sliceBounds isSlice len cap lov hiv none).run P w= .ok (l,r,cap) w∧l≤r∧r≤len:=by
 unfold Jt at e;cases hi with
 |none=>
  cases hiv with
  |some _=>cases hhi
  |none=>
   cases lo with
   |none=>
    cases lov with
    |some _=>cases hlo
    |none=>
     simp at e;obtain⟨rfl,rfl⟩:=e;exact⟨by simp[Instr.sliceBounds],by omega,Zl _⟩
   |some a=>
    cases lov with
    |none=>cases hlo
    |some v=>
     simp only at e;cases hi:Yct a with
     |none=>rw[hi]at e;cases e
     |some i=>
      rw[hi]at e;simp only at e;split at e
      ·rename_i hb;simp only[Zs,Zp]at e;obtain⟨rfl,rfl⟩:=e;obtain⟨k,rfl⟩:=Yel hlo hi;exact⟨by simp[Instr.sliceBounds,Instr.sliceBound,asIntOf,hb],by omega,Zl _⟩
      ·cases e
 |some b=>
  cases hiv with
  |none=>cases hhi
  |some u=>
   simp only at e;cases hi:Yct b with
   |none=>rw[hi]at e;cases e
   |some j=>
    rw[hi]at e;simp only at e;split at e
    ·rename_i hb;obtain⟨k,rfl⟩:=Yel hhi hi;have hcap:j≤(cap:Int):=by omega
     cases lo with
     |none=>
      cases lov with
      |some _=>cases hlo
      |none=>
       simp only[Zs,Zp]at e;obtain⟨rfl,rfl⟩:=e;exact⟨by simp[Instr.sliceBounds,Instr.sliceBound,asIntOf,hb,hcap],by omega,by omega⟩
     |some a=>
      cases lov with
      |none=>cases hlo
      |some v=>
       simp only at e;cases hi2:Yct a with
       |none=>rw[hi2]at e;cases e
       |some i=>
        rw[hi2]at e;simp only at e;split at e
        ·rename_i hb2;simp only[Zs,Zp]at e;obtain⟨rfl,rfl⟩:=e;obtain⟨k2,rfl⟩:=Yel hlo hi2;have h3:0≤j:=hb.1;have h4:i≤j:=hb2.2;have h5:0≤i:=hb2.1;have hmax:max j 0=j:=by omega
         exact⟨by simp[Instr.sliceBounds,Instr.sliceBound,asIntOf,h3,hcap,h4,h5,hmax],by omega,by omega⟩
        ·cases e
    ·cases e
theorem Yq7(sr:SR B w0 μ M h w){lo hi:Option AV}{lov hiv:Option Value}(hx:VR μ M x xv)(hlo:OptR μ M lo lov)(hhi:OptR μ M hi hiv)
  (e:Yfj P t x lo hi h n=some (v,h',n',lg)):h'=h∧n'=n∧∃cv,(Instr.sliceAt t xv lov hiv none).run P w= .ok cv w∧VR μ M v cv:=by
 obtain⟨m,hm⟩:∃m,m=Yfj P t x lo hi:=⟨_,rfl⟩;rw[←hm]at e;unfold Yfj at hm;split at hm
 ·rename_i nn el id off hu;subst hm;obtain⟨o,_,_,_,_,e1,f1,_⟩:=bind_some e;obtain⟨ho,rfl,rfl⟩:=Q6 e1;cases o with
  |map es=>exact(Yc f1).elim
  |cells cs=>
   cases hs:Kx P el with
   |none=>rw[hs]at f1;exact(Yc f1).elim
   |some s=>
    rw[hs]at f1;cases hb:Jt nn lo hi with
    |none=>rw[hb]at f1;exact(Yc f1).elim
    |some lr=>
     obtain⟨l,r⟩:=lr;rw[hb]at f1;simp only at f1;split at f1
     ·rename_i hle;obtain⟨rfl,rfl,rfl⟩:=Yh f1;cases hx with
      |ptr _ _ rg hr=>
       obtain⟨hbr,hlr,hrl⟩:=Ycx (P:=P) (w:=w) (isSlice:=false) hlo hhi (Zl nn) hb;obtain⟨rg',g1,_,_,g4,_⟩:=sr.cellsOf ho;rw[hr]at g1;cases g1;refine⟨rfl,rfl,.slice (some (if nn=l then(⟨rg.b,rg.o+off,none⟩:Addr) else(⟨rg.b,rg.o+off,none⟩:Addr).add (l*s))) (r-l) (nn-l),?_,?_⟩
       ·simp only[Instr.sliceAt,Sem.run_bind,run_underlying hu,Result.andThen_ok,Instr.sureAddr,Sem.run_pure,hbr,Xs hs]
       ·refine .sl id (off+l*s) (r-l) s (nn-l) rg _ hr (by omega) (fun hpos=>?_);rw[if_neg (by omega),Ya2];refine⟨by simp[Nat.add_assoc],?_⟩;rw[Nat.sub_mul];have:l*s≤nn*s:=Zr _ (by omega);omega
     ·exact(Yc f1).elim
 ·rename_i s hu;subst hm;cases hb:Jt s.length lo hi with
  |none=>rw[hb]at e;exact(Yc e).elim
  |some lr=>
   obtain⟨l,r⟩:=lr;rw[hb]at e;simp only at e;obtain⟨rfl,rfl,rfl⟩:=Yh e;have hxv:=hx.str_inv;subst hxv;have hsz:(⟨s.toArray⟩:ByteArray).size=s.length:=by simp[ByteArray.size]
   obtain⟨hbr,hlr,hrl⟩:=Ycx (P:=P) (w:=w) (isSlice:=false) hlo hhi (Zl s.length) hb;refine⟨rfl,rfl,.string ((⟨s.toArray⟩:ByteArray).extract l r),?_,?_⟩
   ·simp only[Instr.sliceAt,Sem.run_bind,run_underlying hu,Result.andThen_ok,Instr.slice,hsz];simp[hbr]
   ·have:=VR.str (μ:=μ) (M:=M) ((⟨s.toArray⟩:ByteArray).extract l r);simpa[drop_take]using this
 ·rename_i el hu;subst hm;cases hs:Kx P el with
  |none=>rw[hs]at e;exact(Yc e).elim
  |some s=>
   rw[hs]at e;cases hb:Jt 0 lo hi with
   |none=>rw[hb]at e;exact(Yc e).elim
   |some lr=>
    obtain⟨l,r⟩:=lr;rw[hb]at e;simp only at e;obtain⟨rfl,rfl,rfl⟩:=Yh e;cases hx;obtain⟨hbr,hlr,hrl⟩:=Ycx (P:=P) (w:=w) (isSlice:=true) hlo hhi (Zl 0) hb;refine⟨rfl,rfl,.slice none 0 0,?_,.nilsl⟩;have:l=0:=by omega
    subst this;have:r=0:=by omega
    subst this;simp only[Instr.sliceAt,Sem.run_bind,run_underlying hu,Result.andThen_ok,Instr.slice,hbr,Xs hs,Sem.run_pure];simp
 ·rename_i el id off len sz hu;subst hm;cases hb:Jt len lo hi with
  |none=>rw[hb]at e;exact(Yc e).elim
  |some lr=>
   obtain⟨l,r⟩:=lr;rw[hb]at e;simp only at e;split at e
   ·rename_i hs;obtain⟨rfl,rfl,rfl⟩:=Yh e;cases hx with
    |sl _ _ _ _ cap rg a hr hlc hcap=>
     obtain⟨hbr,hlr,hrl⟩:=Ycx (P:=P) (w:=w) (isSlice:=true) hlo hhi hlc hb;refine⟨rfl,rfl,.slice (some (if cap=l then a else a.add (l*sz))) (r-l) (cap-l),?_,?_⟩
     ·simp only[Instr.sliceAt,Sem.run_bind,run_underlying hu,Result.andThen_ok,Instr.slice,hbr,Xs hs,Sem.run_pure];by_cases hcl:cap=l<;>simp[hcl]
     ·refine .sl id (off+l*sz) (r-l) sz (cap-l) rg _ hr (by omega) (fun hpos=>?_);obtain⟨rfl,hext⟩:=hcap (by omega);rw[if_neg (by omega),Ya2];refine⟨by simp[Nat.add_assoc],?_⟩;rw[Nat.sub_mul];have:l*sz≤cap*sz:=Zr _ (by omega);omega
   ·exact(Yc e).elim
 ·rename_i el cs len hu;subst hm;cases hs:Kx P el with
  |none=>rw[hs]at e;exact(Yc e).elim
  |some s=>
   rw[hs]at e;cases hb:Jt len lo hi with
   |none=>rw[hb]at e;exact(Yc e).elim
   |some lr=>
    obtain⟨l,r⟩:=lr;rw[hb]at e;simp only at e;obtain⟨rfl,rfl,rfl⟩:=Yh e;cases hx with
    |tsl _ _ cap a vs hlc hsp hm hr=>
     obtain⟨hbr,hlr,hrl⟩:=Ycx (P:=P) (w:=w) (isSlice:=true) hlo hhi hlc hb;refine⟨rfl,rfl,.slice (some (if cap=l then a else a.add (l*s))) (r-l) (cap-l),?_,?_⟩
     ·simp only[Instr.sliceAt,Sem.run_bind,run_underlying hu,Result.andThen_ok,Instr.slice,hbr,Xs hs,Sem.run_pure];by_cases hcl:cap=l<;>simp[hcl]
     ·have hget:∀i c,((cs.take (r*s)).drop (l*s))[i]?=some c→cs[l*s+i]?=some c∧¬cap=l∧a.spot=none:=by
       intro i c hi;rw[getElem?_drop,getElem?_take]at hi;split at hi
       ·rename_i hlt;refine⟨hi,fun hcl=>?_,hsp (.inr (by intro hc;subst hc;simp at hi))⟩;have:r=l:=by omega
        subst this;omega
       ·cases hi
      refine .tsl _ (r-l) (cap-l) _ (fun i=>vs (l*s+i)) (by omega) ?_ ?_ ?_
      ·intro hne;have key:¬cap=l∧a.spot=none:=by
        rcases hne with hne|hne
        ·exact⟨by omega,hsp (.inl (by omega))⟩
        ·cases hd:(cs.take (r*s)).drop (l*s) with
         |nil=>exact absurd hd hne
         |cons c tl=>exact(hget 0 c (by rw[hd];rfl)).2
       rw[if_neg key.1];unfold Addr.add;split<;>simp[key.2]
      ·intro i c hi;obtain⟨h1,h2,h3⟩:=hget i c hi;rw[if_neg h2];obtain⟨ab,ao,asp⟩:=a;simp only at h3;subst h3;rw[Ya2];simp only[Nat.add_assoc];exact hm _ c h1
      ·intro i c hi;exact hr _ c (hget i c hi).1
 ·subst hm;exact(Yc e).elim
theorem Yqx{p:AV}{k:Nat}(hp:VR μ M p pv)(e:Yr4 p k=some v):∃b o,pv= .pointer (some ⟨b,o,none⟩)∧VR μ M v (.pointer (some ⟨b,o+k,none⟩)):=by
 cases hp<;>simp only[Yr4,reduceCtorEq,Zs]at e
 ·rename_i id off r hr;subst e;exact⟨_,_,rfl,by rw[Nat.add_assoc];exact .ptr _ _ _ hr⟩
 ·rename_i cs off b o vs h1 h2;subst e;exact⟨_,_,rfl,by rw[Nat.add_assoc];exact .tptr _ _ _ _ vs h1 h2⟩
theorem Yj7{p:AV}(hp:VR μ M p pv)(e:Ycv P t p i=some v):∃cv,(Instr.fieldAt t pv i).run P w= .ok cv w∧VR μ M v cv:=by
 unfold Ycv at e;split at e
 ·rename_i fs hu;split at e
  ·rename_i f hf;split at e
   ·rename_i k hs;obtain⟨b,o,rfl,hr⟩:=Yqx hp e;refine⟨_,?_,hr⟩;simp[Instr.fieldAt,run_underlying hu,hf,Instr.sureAddr,fieldPlace,Xs hs,Ya2]
   ·cases e
  ·cases e
 ·cases e
theorem Yj5{ix:AV}{iv:Value}(hx:VR μ M x xv)(hi:VR μ M ix iv)(e:J5 P t x ix=some v):∃cv,(Instr.indexAt t xv iv).run P w= .ok cv w∧VR μ M v cv:=by
 unfold J5 at e;split at e
 ·cases e
 ·rename_i i hix;obtain⟨k,rfl⟩:=Yel hi hix;split at e
  ·rename_i len el hu;split at e
   ·rename_i s hs;split at e
    ·rename_i hb;obtain⟨b,o,rfl,hr⟩:=Yqx hx e;refine⟨_,?_,hr⟩;simp[Instr.indexAt,asIntOf,run_underlying hu,Instr.sureAddr,hb,Xs hs,Ya2]
    ·cases e
   ·cases e
  ·rename_i el id off len sz hu;split at e
   ·rename_i hb;obtain⟨hs,hb1,hb2⟩:=hb;simp only[Zs]at e;subst e;cases hx with
    |sl _ _ _ _ cap rg a hr hlc hcap=>
     obtain⟨rfl,_⟩:=hcap (by omega);refine⟨.pointer (some ⟨rg.b,rg.o+(off+i.toNat*sz),none⟩),?_,.ptr _ _ _ hr⟩;simp[Instr.indexAt,asIntOf,run_underlying hu,hb1,hb2,Xs hs,Ya2,Nat.add_assoc]
   ·cases e
  ·rename_i el cs len hu;split at e
   ·rename_i s hs;split at e
    ·rename_i hb;obtain⟨hb1,hb2⟩:=hb;simp only[Zs]at e;subst e;cases hx with
     |tsl _ _ cap a vs hlc hsp hm hr=>
      have hsp':=hsp (.inl (by omega));obtain⟨ab,ao,asp⟩:=a;simp only at hsp' hm;subst hsp';refine⟨.pointer (some ⟨ab,ao+i.toNat*s,none⟩),?_,.tptr _ _ _ _ vs hm hr⟩;simp[Instr.indexAt,asIntOf,run_underlying hu,hb1,hb2,Xs hs,Ya2]
    ·cases e
   ·cases e
  ·cases e
end
section
variable {P:Program} {B:Nat} {w0:Anchor} {w:World} {μ:Mu} {M:Mem} {h h':Ya} {n n':Nat} {lg:Log}
theorem Ym2{cs:List AV}{vs:Array Value}{off:Nat}(hv:VRs μ M cs vs.toList)(e:Ym3 P t cs off=some v):∃cv,(part t vs off).run P w= .ok cv w∧VR μ M v cv:=by
 unfold Ym3 at e;split at e
 ·rename_i k ha hs;obtain⟨r,hr,rfl⟩:=Yjy e;have hl:=Jb hr;refine⟨.agg (vs.extract off (off+k)),by simp[part,Ye5 ha,Xs hs],?_⟩;have:=VR.agg' (Ye0 hr hv);have he:((vs.toList.drop off).take k).toArray=vs.extract off (off+k):=by
   apply Array.ext';simp[take_drop]
  rwa[he]at this
 ·rename_i k ha hs;obtain⟨y,hy,hr⟩:=hv.get e;refine⟨y,?_,hr⟩;have hy':vs[off]?=some y:=by simpa using hy
  simp[part,Ye5 ha,hy']
 ·cases e
theorem Yru(hx:VR μ M x xv)(e:Yn0 P t x i=some v):∃cv,(Instr.field t xv i).run P w= .ok cv w∧VR μ M v cv:=by
 unfold Yn0 at e;split at e
 ·rename_i fs cs hu;split at e
  ·rename_i f hf;cases hx with
   |agg _ vs h1 h2=>
    obtain⟨cv,hc,hr⟩:=Ym2 (w:=w) (vs:=vs) ⟨by simpa using h1,fun i a v ha hv=>h2 i a v ha (by simpa using hv)⟩ e;exact⟨cv,by simp[Instr.field,run_underlying hu,hf,asAgg,hc],hr⟩
  ·cases e
 ·cases e
theorem Yrp{ix:AV}{iv:Value}(hx:VR μ M x xv)(hi:VR μ M ix iv)(e:Ykv P t x ix=some v):∃cv,(Instr.index t xv iv).run P w= .ok cv w∧VR μ M v cv:=by
 unfold Ykv at e;split at e
 ·cases e
 ·rename_i i hix;obtain⟨k,rfl⟩:=Yel hi hix;split at e
  ·rename_i len el cs hu;split at e
   ·rename_i s hs;split at e
    ·rename_i hb;cases hx with
     |agg _ vs h1 h2=>
      obtain⟨cv,hc,hr⟩:=Ym2 (w:=w) (vs:=vs) ⟨by simpa using h1,fun i a v ha hv=>h2 i a v ha (by simpa using hv)⟩ e;exact⟨cv,by simp[Instr.index,asIntOf,run_underlying hu,hb,Xs hs,hc],hr⟩
    ·cases e
   ·cases e
  ·rename_i s hu;split at e
   ·rename_i hb;obtain⟨b,hb2,rfl⟩:=Yjy e;have hxv:=hx.str_inv;subst hxv;refine⟨.int .u8 b.toNat,?_,.int _ _⟩;have hlt:i.toNat<s.length:=(Zi.1 hb2).1;have hget:(⟨s.toArray⟩:ByteArray)[i.toNat]?=some b:=by
     have hsz:(⟨s.toArray⟩:ByteArray).size=s.length:=by simp[ByteArray.size]
     rw[getElem?_pos _ _ (by rw[hsz];exact hlt)];have:(⟨s.toArray⟩:ByteArray)[i.toNat]'(by rw[hsz];exact hlt)=s[i.toNat]:=rfl;rw[this];rw[Zg hlt]at hb2;exact hb2
    simp[Instr.index,asIntOf,run_underlying hu,hb,hget]
   ·cases e
  ·cases e
theorem lenA_sim(sr:SR B w0 μ M h w){ty:TypeId}{args:Array Value}(ht:ts[0]?=some t)(ha:args[0]?=some xv)(hx:VR μ M x xv)(e:lenA P t x h n=some (v,h',n',lg)) :
  h'=h∧n'=n∧∃cv,(Builtin.len_ ts ty args).run P w= .ok cv w∧VR μ M v cv:=by
 obtain⟨m,hm⟩:∃m,m=lenA P t x:=⟨_,rfl⟩;rw[←hm]at e;unfold lenA at hm;split at hm
 ·rename_i s hu;subst hm;obtain⟨rfl,rfl,rfl⟩:=Yh e;have hxv:=hx.str_inv;subst hxv;have hsz:(⟨s.toArray⟩:ByteArray).size=s.length:=by simp[ByteArray.size]
  exact⟨rfl,rfl,_,by simp[Builtin.len_,ht,ha,run_underlying hu,hsz,goInt],.int _ _⟩
 ·rename_i k el hu;subst hm;obtain⟨rfl,rfl,rfl⟩:=Yh e;refine⟨rfl,rfl,.int .i64 k,?_,.int _ _⟩;simp only[Builtin.len_,ht,ha,Sem.run_bind,run_underlying hu,Result.andThen_ok];cases xv<;>rfl
 ·rename_i el hu;subst hm;obtain⟨rfl,rfl,rfl⟩:=Yh e;cases hx;exact⟨rfl,rfl,_,by simp[Builtin.len_,ht,ha,run_underlying hu,goInt],.int _ _⟩
 ·rename_i el id off k sz hu;subst hm;obtain⟨rfl,rfl,rfl⟩:=Yh e;cases hx;exact⟨rfl,rfl,_,by simp[Builtin.len_,ht,ha,run_underlying hu,goInt],.int _ _⟩
 ·rename_i el cs k hu;subst hm;obtain⟨rfl,rfl,rfl⟩:=Yh e;cases hx;exact⟨rfl,rfl,_,by simp[Builtin.len_,ht,ha,run_underlying hu,goInt],.int _ _⟩
 ·rename_i k el hu;subst hm;obtain⟨rfl,rfl,rfl⟩:=Yh e;cases hx;exact⟨rfl,rfl,_,by simp[Builtin.len_,ht,ha,run_underlying hu,goInt],.int _ _⟩
 ·rename_i k el id hu;subst hm;obtain⟨o,_,_,_,_,e1,f1,_⟩:=bind_some e;obtain⟨ho,rfl,rfl⟩:=Q6 e1;cases o with
  |cells cs=>exact(Yc f1).elim
  |map es=>
   obtain⟨rfl,rfl,rfl⟩:=Yh f1;cases hx with
   |map _ r hr=>
    obtain⟨r',g1,_,_,_,_,en,cl,g2,g3,_⟩:=sr.live id _ ho;rw[hr]at g1;cases g1;refine⟨rfl,rfl,.int .i64 en.size,?_,by rw[g3];exact .int _ _⟩;simp[Builtin.len_,ht,ha,run_underlying hu,goInt,Go.getObj,Sem.run,g2]
 ·subst hm;exact(Yc e).elim
theorem Ykp{isMax:Bool}{xs:List AV}{vs:List Value}{ty:TypeId}(hx:VRs μ M xs vs)(e:Yhe P isMax xs=some v) :
  ∃cv,(if isMax then Builtin.max_ ts ty vs.toArray else Builtin.min_ ts ty vs.toArray).run P w= .ok cv w∧VR μ M v cv:=by
 unfold Yhe at e;split at e
 ·rename_i us hus;have huv:us=vs:=by
   have key:∀(xs:List AV) (vs us:List Value),VRs μ M xs vs→xs.mapM Yjn=some us→us=vs:=by
    intro xs
    induction xs with
    |nil=>
     intro vs us hv he;simp at he;subst he;have:=hv.1;cases vs with
     |nil=>rfl
     |cons _ _=>simp at this
    |cons a xs ih=>
     intro vs us hv he;cases vs with
     |nil=>have:=hv.1;simp at this
     |cons u vs=>
      rw[VRs.cons_iff]at hv;rw[mapM_cons]at he;simp only[Option.bind_eq_bind,Option.pure_def]at he;obtain⟨y,hy,he⟩:=Yho he;obtain⟨z,hz,he⟩:=Yho he;cases he;rw[Yl9 hy hv.1,ih vs z hv.2 hz]
   exact key xs vs us hx hus
  subst huv;obtain⟨r,h1,h2⟩:=Yho e;refine⟨r,?_,Ycl h2⟩;have:=Ylb h1 w;cases isMax
  ·simpa[Builtin.min_]using this
  ·simpa[Builtin.max_]using this
 ·cases e
theorem Yj0(sr:SR B w0 μ M h w)(hB:B≤w0.w.heap.size)(hfree:∀id,n≤id→id<n'→μ id=none){l c:AV}{lv cv:Value}(hl:VR μ M l lv)(hc:VR μ M c cv)
  (e:Ya7 P t l c h n=some (v,h',n',lg)):Step1 P B w0 μ M n n' h' w v (valS (Instr.makeSlice t lv cv)):=by
 unfold Ya7 at e;obtain⟨el,_,_,_,_,e1,f1,_⟩:=bind_some e;obtain⟨he,rfl,rfl⟩:=Ye e1;obtain⟨s,_,_,_,_,e2,f2,_⟩:=bind_some f1;obtain⟨hs,rfl,rfl⟩:=Ye e2;obtain⟨by_,_,_,_,_,e3,f3,_⟩:=bind_some f2;obtain⟨hby,rfl,rfl⟩:=Ye e3;obtain⟨z,_,_,_,_,e4,f4,_⟩:=bind_some f3;obtain⟨hz,rfl,rfl⟩:=Ye e4;obtain⟨zv,_,hzo,i,hi,hiz⟩:=K9 hz;obtain⟨i',hi',rfl⟩:=Yis hs;rw[hi]at hi';cases hi';obtain⟨i',hi',rfl⟩:=Yh1 hby;rw[hi]at hi';cases hi';have hzv:=Ycl (μ:=μ) (M:=M) hzo;obtain⟨a,_,_,_,_,e6,f6,_⟩:=bind_some f4;obtain⟨ha,rfl,rfl⟩:=Ye e6;obtain⟨b,_,_,_,_,e7,f7,_⟩:=bind_some f6;obtain⟨hb,rfl,rfl⟩:=Ye e7;have hi64:∀{x:AV} {xv:Value} {k:Int},VR μ M x xv→i64A x=some k→xv= .int .i64 k:=by
  intro x xv k hx hk;cases hx<;>try (simp[i64A]at hk;done)
  rename_i kk m;cases kk<;>simp[i64A]at hk
  rw[hk]
 rw[hi64 hl ha,hi64 hc hb];split at f7
 ·rename_i hcond;obtain⟨rfl,h0,hle,hpos,hzl,hz1⟩:=hcond;obtain⟨id,_,_,_,_,e5,f5,_⟩:=bind_some f7;obtain⟨rfl,rfl,rfl⟩:=Yaz e5;obtain⟨rfl,rfl,rfl⟩:=Yh f5;have hn:=hfree id (Zl _) (by omega);have hle1:a≤a*((i.bytes:Int)+1):=by
   have:a*1≤a*((i.bytes:Int)+1):=Int.mul_le_mul_of_nonneg_left (by omega) h0;omega
  have hle2:(i.bytes:Int)*a≤a*((i.bytes:Int)+1):=by
   rw[Int.mul_add,Int.mul_comm];omega
  have hrun:=run_make (P:=P) w t el i zv (Ydn he) hi hiz .i64 .i64 a a h0 (Int.le_refl _) (by omega) (by omega);have hlen:(X6 z.cells (a.toNat*i.size)).length=a.toNat*i.size:=by simp[X6]
  refine Step1.val hrun (sr.newCells (sr.le_size hB) hn _ _ _ _ (a.toNat*i.size) (by omega) (by simp[size_madeCells]) (by simp) ?_) (Ydv hn _) (Ks _) ?_
  ·rw[Zk (by simp[size_madeCells,hlen])];exact Yf2 hzv (by omega) _
  ·exact .sl id 0 a.toNat i.size a.toNat ⟨w.heap.size,0,a.toNat*i.size⟩ _ (by simp[upd]) (Zl _) (fun _=>⟨by simp,by simp⟩)
 ·exact(Yc f7).elim
theorem keyEq_now{P:Program}{e:AV}{ev:Value}(hd:P.underlying t=some d)(hkind:J3 P t k=true)(hk:VR μ M k kv)(he:VR μ M e ev)(hb:Yro k e=some b) :
  Instr.sameNow d kv ev=some b∧(b=true→Instr.sameBits 10000 ev kv=true):=by
 unfold J3 at hkind;rw[hd]at hkind;cases hk<;>cases d<;>simp at hkind<;>cases he<;>simp[Yro]at hb
 ·subst hb;exact⟨rfl,fun h=>by simp at h;subst h;simp[Instr.sameBits]⟩
 ·obtain⟨rfl,rfl⟩:=hb;refine⟨by simp[Instr.sameNow],fun h=>?_⟩;simp at h;subst h;simp[Instr.sameBits]
 ·rename_i s s';subst hb;refine⟨rfl,fun h=>?_⟩;have hd:s.data=s'.data:=beq_iff_eq.1 h;have:s=s':=by
   cases s;cases s';simp only at hd;rw[hd]
  subst this;exact h
theorem Yl2(hd:P.underlying t=some d)(hkind:J3 P t k=true)(hk:VR μ M k kv) :
  ∀{es:List (AV×AV)} {en:List MapEntry} {i:Nat} {r:Option (Nat×AV)},es.length=en.length→(∀(j:Nat) e x,es[j]?=some e→en[j]?=some x→VR μ M e.1 x.key∧VR μ M e.2 x.val)→Ygq k es i=some r→
  (r=none∧Instr.findNow d kv en i=some none)∨∃j v x,r=some (i+j,v)∧Instr.findNow d kv en i=some (some (i+j,x.val))∧en[j]?=some x∧VR μ M v x.val∧Instr.sameBits 10000 x.key kv=true
 |[],en,i,r,hl,_,e=>by
  cases en with
  |cons _ _=>simp at hl
  |nil=>simp[Ygq]at e;exact .inl ⟨e.symm,rfl⟩
 |q::es,en,i,r,hl,hr,e=>by
  cases en with
  |nil=>simp at hl
  |cons x en=>
   have h0:=hr 0 q x rfl rfl;unfold Ygq at e;cases hb:Yro k q.1 with
   |none=>rw[hb]at e;cases e
   |some b=>
    rw[hb]at e;obtain⟨h1,h2⟩:=keyEq_now hd hkind hk h0.1 hb;cases b with
    |true=>
     simp only[Zs]at e;exact .inr ⟨0,q.2,x,e.symm,by simp[Instr.findNow,h1],rfl,h0.2,h2 rfl⟩
    |false=>
     simp only at e;rcases Yl2 (i:=i+1) hd hkind hk (by simpa using hl) (fun j e x he hx=>hr (j+1) e x (by simpa using he) (by simpa using hx)) e with ⟨g1,g2⟩|⟨j,v,y,g1,g2,g3,g4,g5⟩
     ·exact .inl ⟨g1,by simp[Instr.findNow,h1,g2]⟩
     ·exact .inr ⟨j+1,v,y,by rw[g1];simp;omega,by simp[Instr.findNow,h1,g2];omega,by simpa using g3,g4,g5⟩
theorem Yh0(hkind:J3 P t k=true)(hk:VR μ M k kv):(Instr.checkKey b 10000 t kv).run P w= .ok () w:=by
 unfold J3 at hkind;cases hd:P.underlying t with
 |none=>rw[hd]at hkind;simp at hkind
 |some d=>
  rw[hd]at hkind;unfold Instr.checkKey;rw[Sem.run_bind,run_underlying hd];rw[Result.andThen_ok];cases d<;>first|(exfalso;revert hkind;simp;done)|skip
  all_goals (cases hk<;>first|rfl|(exfalso;revert hkind;simp;done))
theorem Yor(sr:SR B w0 μ M h w){ok:Bool}(hx:VR μ M x xv)(hk:VR μ M k kv)(e:Yhf P t x k ok h n=some (v,h',n',lg)) :
  h'=h∧n'=n∧∃cv,(Instr.lookup t xv kv ok).run P w= .ok cv w∧VR μ M v cv:=by
 unfold Yhf at e;cases hu:P.underlying t with
 |none=>rw[hu]at e;exact(Yc e).elim
 |some d=>
  rw[hu]at e;cases d with
  |map kt et=>
   simp only at e;split at e
   ·rename_i hkind;obtain⟨es,h1,n1,_,_,e1,f1,_⟩:=bind_some e;have hes:h1=h∧n1=n∧∃en:Array MapEntry,es.length=en.size∧(∀(i:Nat) e x,es[i]?=some e→en[i]?=some x→VR μ M e.1 x.key∧VR μ M e.2 x.val) ∧
      ((xv= .map none∧en = #[])∨∃r cl,xv= .map (some r)∧w.heap[r]?=some (.map en cl)):=by
     cases hx with
     |nilmap=>
      obtain⟨rfl,rfl,rfl⟩:=Yh e1;exact⟨rfl,rfl,#[],rfl,by simp,.inl ⟨rfl,rfl⟩⟩
     |map id r hr=>
      obtain⟨o,_,_,_,_,g1,g2,_⟩:=bind_some e1;obtain⟨ho,rfl,rfl⟩:=Q6 g1;cases o with
      |cells cs=>exact(Yc g2).elim
      |map es'=>
       obtain⟨rfl,rfl,rfl⟩:=Yh g2;obtain⟨r',q1,_,_,_,_,en,cl,q2,q3,q4⟩:=sr.live id _ ho;rw[hr]at q1;cases q1;exact⟨rfl,rfl,en,q3,q4,.inr ⟨r.b,cl,rfl,q2⟩⟩
     |_=>exact(Yc e1).elim
    obtain⟨rfl,rfl,en,hlen,hrel,hrun⟩:=hes;have hkd:∃d,P.underlying kt=some d:=by
     cases hd:P.underlying kt with
     |none=>unfold J3 at hkind;rw[hd]at hkind;simp at hkind
     |some d=>exact⟨d,rfl⟩
    obtain⟨d,hd⟩:=hkd;cases hf:Ygq k es 0 with
    |none=>rw[hf]at f1;exact(Yc f1).elim
    |some r=>
     rw[hf]at f1;cases hz:Q0 P et with
     |none=>rw[hz]at f1;cases r<;>exact(Yc f1).elim
     |some z=>
      rw[hz]at f1;obtain⟨zv,hzr,hzo,_⟩:=K9 hz;have hzv:=Ycl (μ:=μ) (M:=M) hzo;have hck:=fun b=>Yh0 (w:=w) (b:=b) hkind hk;rcases Yl2 hd hkind hk (en:=en.toList) (by simpa using hlen) (fun j e x he hx=>hrel j e x he (by simpa using hx)) hf with ⟨rfl,g2⟩|⟨j,u,y,rfl,g2,g3,g4,g5⟩
      ·simp only at f1;obtain⟨rfl,rfl,rfl⟩:=Yh f1;refine⟨rfl,rfl,if ok then .tuple #[zv,.bool false] else zv,?_,?_⟩
       ·rcases hrun with ⟨rfl,rfl⟩|⟨r,cl,rfl,hw⟩
        ·simp only[Instr.lookup,Sem.run_bind,run_underlying hu,Result.andThen_ok,Sem.run_pure,hck,Instr.findKey,run_underlying hd,g2,hzr]
        ·have hg:(Go.getObj r).run P w= .ok (.map en cl) w:=by simp[Go.getObj,Sem.run,hw]
         simp only[Instr.lookup,Sem.run_bind,run_underlying hu,Result.andThen_ok,hg,Sem.run_pure,hck,Instr.findKey,run_underlying hd,g2,hzr]
       ·cases ok
        ·exact hzv
        ·exact .tup _ _ rfl (fun i a v ha hv=>(VRs.cons hzv (.cons (.bool false) .nil)).2 i a v ha (by simpa using hv))
      ·simp only at f1;obtain⟨rfl,rfl,rfl⟩:=Yh f1;refine⟨rfl,rfl,if ok then .tuple #[y.val,.bool true] else y.val,?_,?_⟩
       ·rcases hrun with ⟨rfl,rfl⟩|⟨r,cl,rfl,hw⟩
        ·simp only[Instr.lookup,Sem.run_bind,run_underlying hu,Result.andThen_ok,Sem.run_pure,hck,Instr.findKey,run_underlying hd,g2]
        ·have hg:(Go.getObj r).run P w= .ok (.map en cl) w:=by simp[Go.getObj,Sem.run,hw]
         simp only[Instr.lookup,Sem.run_bind,run_underlying hu,Result.andThen_ok,hg,Sem.run_pure,hck,Instr.findKey,run_underlying hd,g2]
       ·cases ok
        ·exact g4
        ·exact .tup _ _ rfl (fun i a v ha hv=>(VRs.cons g4 (.cons (.bool true) .nil)).2 i a v ha (by simpa using hv))
   ·exact(Yc e).elim
  |_=>exact(Yc e).elim
end
section
variable {P:Program} {B:Nat} {w0:Anchor} {w:World} {μ:Mu} {M:Mem} {h h':Ya} {n n':Nat} {lg:Log}
theorem Yfn(sr:SR B w0 μ M h w){u:AV}{uv:Value}(hx:VR μ M x xv)(hk:VR μ M k kv)(hu:VR μ M u uv)(e:Ya6 P t x k u h n=some (v,h',n',lg)) :
  n'=n∧v= .undef∧∃w',(Instr.mapUpdate t xv kv uv).run P w= .ok () w'∧SR B w0 μ M h' w':=by
 unfold Ya6 at e;cases hut:P.underlying t with
 |none=>rw[hut]at e;exact(Yc e).elim
 |some d=>
  rw[hut]at e;cases d with
  |map kt et=>
   cases hx with
   |map id r hr=>
    simp only at e;split at e
    ·rename_i hkind;obtain⟨o,_,_,_,_,g1,g2,_⟩:=bind_some e;obtain⟨ho,rfl,rfl⟩:=Q6 g1;cases o with
     |cells cs=>exact(Yc g2).elim
     |map es=>
      obtain⟨r',q1,_,hlt,_,_,en,cl,q2,q3,q4⟩:=sr.live id _ ho;rw[hr]at q1;cases q1;have hkd:∃d,P.underlying kt=some d:=by
       cases hd:P.underlying kt with
       |none=>unfold J3 at hkind;rw[hd]at hkind;simp at hkind
       |some d=>exact⟨d,rfl⟩
      obtain⟨d,hd⟩:=hkd;have hck:=fun b=>Yh0 (w:=w) (b:=b) hkind hk;have hg:(Go.getObj r.b).run P w= .ok (.map en cl) w:=by simp[Go.getObj,Sem.run,q2]
      have hset:∀o,(Go.setObj r.b o).run P w= .ok () {w with heap:=w.heap.setIfInBounds r.b o}:=by intro o;simp[Go.setObj,Sem.run,q2]
      cases hf:Ygq k es 0 with
      |none=>simp only[hf]at g2;exact(Yc g2).elim
      |some fr=>
       simp only[hf]at g2;rcases Yl2 hd hkind hk (en:=en.toList) (by simpa using q3) (fun j e x he hx=>q4 j e x he (by simpa using hx)) hf with ⟨rfl,f2⟩|⟨j,u',y,rfl,f2,f3,f4,f5⟩
       ·simp only at g2;obtain⟨_,_,_,_,_,e5,f6,_⟩:=bind_some g2;obtain⟨rfl,rfl⟩:=Yld e5;obtain⟨rfl,rfl,rfl⟩:=Yh f6;refine⟨rfl,rfl,_,?_,sr.setMap ho hr (en.push {key:=kv,val:=uv,born:=cl}) (cl+1) (by simp[q3]) ?_⟩
        ·simp only[Instr.mapUpdate,Sem.run_bind,run_underlying hut,Result.andThen_ok,hg,hck,Instr.findKey,run_underlying hd,f2,Sem.run_pure,hset]
        ·intro i e x he hx;rw[Array.getElem?_push]at hx;rw[getElem?_append]at he;by_cases hi:i<es.length
         ·rw[if_pos hi]at he;rw[if_neg (by omega)]at hx;exact q4 i e x he hx
         ·rw[if_neg hi]at he;by_cases hi2:i=en.size
          ·rw[if_pos hi2]at hx;subst hi2;rw[q3,Nat.sub_self]at he;simp only[Zc,Zs]at he hx;subst he hx;exact⟨hk,hu⟩
          ·have:i-es.length≠0:=by omega
           obtain⟨m,hm⟩:=Nat.exists_eq_succ_of_ne_zero this;rw[hm]at he;simp at he
       ·simp only[Nat.zero_add]at g2 f2;obtain⟨_,_,_,_,_,e5,f6,_⟩:=bind_some g2;obtain⟨rfl,rfl⟩:=Yld e5;obtain⟨rfl,rfl,rfl⟩:=Yh f6;have hy:en[j]?=some y:=by simpa using f3
        refine⟨rfl,rfl,_,?_,sr.setMap ho hr (en.modify j fun e=>{e with key:=kv,val:=uv}) cl (by simp[q3]) ?_⟩
        ·have hks:(Instr.keyThatStays y.key kv).run P w= .ok kv w:=by simp[Instr.keyThatStays,f5]
         simp only[Instr.mapUpdate,Sem.run_bind,run_underlying hut,Result.andThen_ok,hg,hck,Instr.findKey,run_underlying hd,f2,Sem.run_pure,hy,Option.map_some,Option.getD_some,hks,hset]
        ·intro i e x he hx;rw[Array.getElem?_modify]at hx;rw[getElem?_set]at he;by_cases hi:j=i
         ·subst hi;rw[if_pos rfl]at hx;simp only[if_true]at he;rw[hy]at hx;simp only[Option.map_some,Zs]at hx;subst hx;split at he
          ·simp only[Zs]at he;subst he;exact⟨hk,hu⟩
          ·cases he
         ·rw[if_neg hi]at hx he;exact q4 i e x he hx
    ·exact(Yc e).elim
   |_=>exact(Yc e).elim
  |_=>exact(Yc e).elim
theorem Yla(sr:SR B w0 μ M h w){s:Nat}{y:AV}{yv:Value}{src:List AV×Nat}(hy:VR μ M y yv)(e:srcA s y h n=some (src,h',n',lg))(hl:src.1.length=src.2*s) :
  h'=h∧n'=n∧(∀w,(Builtin.lenOf yv).run P w= .ok src.2 w)∧∃news:List Value,VRs μ M src.1 news ∧
   (∀w',(∀a,w'.cell? a=w.cell? a)→(Builtin.firstCells s src.2 yv).run P w'= .ok news.toArray w') ∧
   (∀k,k≤src.2→∀w',(∀a,w'.cell? a=w.cell? a)→(Builtin.firstCells s k yv).run P w'= .ok (news.take (k*s)).toArray w'):=by
 suffices H:h'=h∧n'=n∧(∀w,(Builtin.lenOf yv).run P w= .ok src.2 w)∧∃news:List Value,VRs μ M src.1 news ∧
   (∀k,k≤src.2→∀w',(∀a,w'.cell? a=w.cell? a)→(Builtin.firstCells s k yv).run P w'= .ok (news.take (k*s)).toArray w') by
  obtain⟨a,b,c,news,d,f⟩:=H;refine⟨a,b,c,news,d,fun w' hw=>?_,f⟩;have:=f src.2 (Zl _) w' hw;rwa[Zk (by rw[←d.1,hl];exact Zl _)]at this
 obtain⟨m,hm⟩:∃m,m=srcA s y:=⟨_,rfl⟩;rw[←hm]at e;unfold srcA at hm;split at hm
 ·subst hm;obtain⟨rfl,rfl,rfl⟩:=Yh e;cases hy;exact⟨rfl,rfl,fun w=>by simp[Builtin.lenOf],[],.nil,fun k hk w' _=>by simp[Builtin.firstCells]⟩
 ·rename_i b;subst hm;obtain⟨rfl,rfl,rfl⟩:=Yh e;have hyv:=hy.str_inv;subst hyv;have hsz:(⟨b.toArray⟩:ByteArray).size=b.length:=by simp[ByteArray.size]
  refine⟨rfl,rfl,fun w=>by simp[Builtin.lenOf,hsz],b.map (fun c=>Value.int .u8 c.toNat),⟨by simp,?_⟩,fun k hk w' _=>?_⟩
  ·intro i a v ha hv;rw[getElem?_map]at ha hv;obtain⟨c,hc,rfl⟩:=Yjy ha;rw[hc]at hv;simp only[Option.map_some,Zs]at hv;subst hv;exact .int _ _
  ·simp only at hl hk;have hs1:b.length=0∨s=1:=by
    simp at hl;rcases Nat.eq_zero_or_pos b.length with h0|h0
    ·exact .inl h0
    ·right;have:b.length*1=b.length*s:=by omega
     exact(Nat.eq_of_mul_eq_mul_left h0 this).symm
   simp only[Builtin.firstCells,Sem.run_pure]
   congr 1
   apply Array.ext';rcases hs1 with h0|rfl
   ·have:b=[]:=length_eq_zero_iff.1 h0;subst this;simp
   ·simp[map_take]
 ·rename_i id off k sz;subst hm;split at e
  ·rename_i hsz;subst hsz;obtain⟨cs,_,_,_,_,e1,f1,_⟩:=bind_some e;obtain⟨rfl,rfl,rfl⟩:=Yh f1;cases hy with
   |sl _ _ _ _ cap rg a hr hlc hcap=>
    obtain⟨rfl,rfl,hlen,b,o,vs,hpv,hvs,hc⟩:=Ydr sr (.ptr id off rg hr) e1;simp only[Value.pointer.injEq,Zs,Addr.mk.injEq,and_true]at hpv;obtain⟨rfl,rfl⟩:=hpv;refine⟨rfl,rfl,fun w=>by simp[Builtin.lenOf],vs,hvs,fun j hj w' hw=>?_⟩;simp only at hj hl;rcases Nat.eq_zero_or_pos cap with h0|h0
    ·have:j=0:=by omega
     subst this;simp[Builtin.firstCells,loadCells,loadCellsFrom]
    ·obtain⟨rfl,_⟩:=hcap h0;have hvl:=hvs.1;have hle:j*sz≤vs.length:=by
      have:j*sz≤k*sz:=Zr _ hj;omega
     have:=Qu (P:=P) (w:=w') (b:=rg.b) (o:=rg.o+off) (vs:=vs.take (j*sz)) (by
      intro i v hv;rw[getElem?_take]at hv;split at hv
      ·rw[hw];exact hc i v hv
      ·cases hv)
     rw[length_take,Nat.min_eq_left hle]at this;simpa[Builtin.firstCells]using this
  ·exact(Yc e).elim
 ·rename_i cs k;subst hm;obtain⟨cs',_,_,_,_,e1,f1,_⟩:=bind_some e;obtain⟨hcs,rfl,rfl⟩:=Ye e1;obtain⟨rfl,rfl,rfl⟩:=Yh f1;cases hy with
  |tsl _ _ cap a vs hlc hsp hm hr=>
   have hlen:=Jb hcs;simp only at hl;refine⟨rfl,rfl,fun w=>by simp[Builtin.lenOf],(List.range (k*s)).map vs,⟨by simp[hl],?_⟩,fun j hj w' hw=>?_⟩
   ·intro i x y hx hy;have hi:i<k*s:=by rw[←hlen.1];exact(Zi.1 hx).1
    simp[hi]at hy;have:=Ye1 hcs hx;rw[Nat.zero_add]at this;exact hy▸hr i x this
   ·simp only at hj;have hle:j*s≤k*s:=Zr _ hj;rcases Nat.eq_zero_or_pos k with h0|h0
    ·have:j=0:=by omega
     subst this;simp[Builtin.firstCells,loadCells,loadCellsFrom]
    ·have hsp':=hsp (.inl h0);obtain⟨ab,ao,asp⟩:=a;simp only at hsp' hm;subst hsp';have:=Qu (P:=P) (w:=w') (b:=ab) (o:=ao) (vs:=((List.range (k*s)).map vs).take (j*s)) (by
      intro i v hv;rw[getElem?_take]at hv;split at hv
      ·rename_i hi;have hik:i<k*s:=by omega
       simp[hik]at hv;have hjc:i<cs.length:=by omega
       rw[hw,←hv];exact sr.mem _ _ _ (hm i _ (Zg hjc))
      ·cases hv)
     rw[length_take,length_map,length_range,Nat.min_eq_left hle]at this;simpa[Builtin.firstCells]using this
 ·subst hm;exact(Yc e).elim
end
end Go.Abs
