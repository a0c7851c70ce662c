import Derived.Test.YtibdecjfdpmfoaaGreatAbsOpsG
open Go.RowKit (Below)
namespace Go.Abs
open List hiding Mem cons map nil
variable {v x:AV} {ts:Array TypeId} {ty:TypeId} {xv yv:Value}
section
variable {P:Program} {B:Nat} {w0:Anchor} {w:World} {μ:Mu} {M:Mem} {h h':Ya} {n n':Nat} {lg:Log}
structure AppRun (P:Program) (w:World) (t u ty e:TypeId) (s by_:Nat) (zv yv:Value) (k:Nat) (news:List Value):Prop where
 room:∀(base:Option Addr) (sLen sCap:Nat),sLen+k≤sCap→∀w',(match base with|some a=>storeCells (a.add (sLen*s)) news|none=>pure ():Sem Unit).run P w= .ok () w'→
  (Builtin.append_ #[t,u] ty #[.slice base sLen sCap,yv]).run P w= .ok (.slice base (sLen+k) sCap) w'
 grow:∀(base:Option Addr) (sLen sCap:Nat) (olds:Array Value),sCap<sLen+k→(sLen+k)*(by_+1)≤2^44→(∀w',(∀a,w'.cell? a=w.cell? a)→(Builtin.firstCells s sLen (.slice base sLen sCap)).run P w'= .ok olds w')→
  (Builtin.append_ #[t,u] ty #[.slice base sLen sCap,yv]).run P w= .ok (.slice (some ⟨w.heap.size,0,none⟩) (sLen+k) (grownCap w (sLen+k) sCap e))
   (w.drew.alloc (.cells (olds++news.toArray++Builtin.zeroCells zv.cells (grownCap w (sLen+k) sCap e-(sLen+k))) e))
theorem Ydf{a b:Nat}(h:a*(b+1)≤2^44):a≤2^44∧a*b≤2^44:=by
 have h1:a*1≤a*(b+1):=Nat.mul_le_mul_left _ (by omega);have h2:a*b≤a*(b+1):=Nat.mul_le_mul_left _ (by omega);omega
theorem Ynf{need old by_:Nat}(h:old<need)(hb:need*(by_+1)≤2^44):Builtin.nextslicecap need old*by_≤281474976710656:=by
 have h1:=nextslicecap_le h;have h2:Builtin.nextslicecap need old*by_≤2*need*by_:=Zr _ h1;have h3:=(Ydf hb).2;have h4:2*need*by_=2*(need*by_):=Nat.mul_assoc _ _ _;omega
set_option maxHeartbeats 1000000 in
theorem Yh2 {t u ty e:TypeId} {i:TypeInfo} {zv yv:Value} {k:Nat} {news:List Value} {du:TypeDesc} (ht:P.underlying t=some (.slice e)) (hi:P.info? e=some i) (hz:i.zero=some zv)
  (hu:P.underlying u=some du) (hd:(∃x,du= .slice x)∨du= .string) (hl:∀w,(Builtin.lenOf yv).run P w= .ok k w)
  (hf:∀w',(∀a,w'.cell? a=w.cell? a)→(Builtin.firstCells i.size k yv).run P w'= .ok news.toArray w'):AppRun P w t u ty e i.size i.bytes zv yv k news:=by
 constructor
 ·intro base sLen sCap hroom w' hst;have hfw:=hf w (fun _=>rfl);rcases hd with ⟨x,rfl⟩|rfl<;>cases base <;>
   simp[Builtin.append_,run_underlying ht,run_underlying hu,sizeOf,typeInfo,hi,hl,hroom,hfw]at hst ⊢ <;> simp[hst]
 ·intro base sLen sCap olds hgrow hfit ho;have hn:¬(sLen+k≤sCap):=by omega
  have hb:=Ydf hfit;have h63:¬(9223372036854775807<((sLen:Int)+(k:Int))):=by omega
  have h48:¬(281474976710656<Builtin.nextslicecap (sLen+k) sCap*i.bytes):=by have:=Ynf hgrow hfit;omega
  have hfo:=ho w.drew (fun _=>rfl);have hfn:=hf w.drew (fun _=>rfl);rcases hd with ⟨x,rfl⟩|rfl <;>
   simp[Builtin.append_,run_underlying ht,run_underlying hu,sizeOf,typeInfo,zeroValue,hi,hz,hl,hn,h63,h48,Question.forced,hfo,hfn,newRow,grownCap]
set_option maxHeartbeats 1000000 in
theorem Ypa {t u ty e:TypeId} {i:TypeInfo} {zv:Value} {kk ku:IntKind} {m:Int} (ht:P.underlying t=some (.slice e)) (hi:P.info? e=some i) (hz:i.zero=some zv)
  (hu:P.underlying u=some (.int ku)) (h0:0≤m) (hm:m≤2^30) (hb:m*i.bytes≤281474976710656) :
  AppRun P w t u ty e i.size i.bytes zv (.int kk m) m.toNat (if m.toNat*i.size=0 then #[] else Builtin.zeroCells zv.cells m.toNat).toList:=by
 have wm:IntKind.i64.wrap m=m:=by rw[IntKind.wrap_i64];omega
 have n1:¬m<0:=by omega
 have n2:¬(281474976710656<m*(i.bytes:Int)):=by omega
 constructor
 ·intro base sLen sCap hroom w' hst;by_cases hk:m.toNat*i.size=0
  ·cases base<;>simp[hk]at hst ⊢ <;>
    simp[Builtin.append_,run_underlying ht,run_underlying hu,sizeOf,typeInfo,hi,asInt,asIntOf,wm,n1,n2,hroom,hk,hst]
  ·cases base<;>simp[hk]at hst ⊢ <;>
    simp[Builtin.append_,run_underlying ht,run_underlying hu,sizeOf,typeInfo,zeroValue,hz,hi,asInt,asIntOf,wm,n1,n2,hroom,hk,hst]
 ·intro base sLen sCap olds hgrow hfit ho;have hn:¬(sLen+m.toNat≤sCap):=by omega
  have hbb:=Ydf hfit;have h63:¬(9223372036854775807<((sLen:Int)+max m 0)):=by omega
  have h48:¬(281474976710656<Builtin.nextslicecap (sLen+m.toNat) sCap*i.bytes):=by have:=Ynf hgrow hfit;omega
  have hfo:=ho w.drew (fun _=>rfl);by_cases hk:m.toNat*i.size=0
  ·simp[Builtin.append_,run_underlying ht,run_underlying hu,sizeOf,typeInfo,zeroValue,hi,hz,asInt,asIntOf,wm,n1,n2,hn,h63,h48,Question.forced,hfo,hk,newRow,grownCap]
  ·simp[Builtin.append_,run_underlying ht,run_underlying hu,sizeOf,typeInfo,zeroValue,hi,hz,asInt,asIntOf,wm,n1,n2,hn,h63,h48,Question.forced,hfo,hk,newRow,grownCap]
theorem kill_sub(h:Ya)(id:Nat):∀j o,upd h id none j=some o→h j=some o:=by
 intro j o hj;unfold upd at hj;by_cases e:j=id
 ·rw[if_pos e]at hj;cases hj
 ·rwa[if_neg e]at hj
theorem Ynu(sr:SR B w0 μ M h w)(hB:B≤w0.w.heap.size){id:Nat}(hn:μ id=none){e:TypeId}{s:Nat}{z:AV}{zv:Value}(hz:VR μ M z zv)(hzl:z.cells.length=s)
  {old sc:List AV}{olds news:List Value}{l k g:Nat}(ho:VRs μ M old olds)(hs:VRs μ M sc news)(hol:old.length=l*s)(hsl:sc.length=k*s)(hg:l+k≤g) :
  SR B w0 (upd μ id (some ⟨w.heap.size,0,g*s⟩)) M (upd h id (some (.cells (old++sc)))) (w.drew.alloc (.cells (olds.toArray++news.toArray++Builtin.zeroCells zv.cells (g-(l+k))) e)):=by
 have hzs:zv.cells.size=s:=by have:=hz.cells.1;simp at this;omega
 have h1:=ho.1;have h2:=hs.1;have hsize:(olds.toArray++news.toArray++Builtin.zeroCells zv.cells (g-(l+k))).size=g*s:=by
  simp[Builtin.zeroCells,hzs,Nat.sub_mul,Nat.add_mul];have:(l+k)*s≤g*s:=Zr _ hg;rw[Nat.add_mul]at this;omega
 refine(sr.drew (sr.le_size hB)).newCells (sr.le_size hB) hn _ e (0,0) _ (g*s) ?_ (by omega) (by simp) ?_
 ·simp only[length_append];have:(l+k)*s≤g*s:=Zr _ hg;rw[Nat.add_mul]at this;omega
 ·have:(olds.toArray++news.toArray++Builtin.zeroCells zv.cells (g-(l+k))).toList.take (old++sc).length=olds++news:=by
   simp only[Array.toList_append,length_append];rw[take_append_of_le_length (by simp;omega),Zk (by simp;omega)]
  rw[this];exact ho.append hs
theorem Yev(sr:SR B w0 μ M h w)(hB:B≤w0.w.heap.size)(hfree:∀id,n≤id→id<n'→μ id=none){t u e:TypeId}{s by_:Nat}{z:AV}{zv:Value}{k l:Nat}{sc:List AV}{news:List Value}
  (ar:AppRun P w t u ty e s by_ zv yv k news)(hx:VR μ M x xv)(hz:VR μ M z zv)(hzl:z.cells.length=s)(hs:VRs μ M sc news)(hsl:sc.length=k*s)(hone:sc.all AV.one=true)
  (hlx:Yfo x=some l)(hfit:(l+k)*(by_+1)≤2^44)(ex:Qz s x sc k h n=some (v,h',n',lg)) :
  Step1 P B w0 μ M n n' h' w v (valS (Builtin.append_ #[t,u] ty #[xv,yv])):=by
 have hnl:=hs.1;unfold Qz at ex;by_cases hk:k=0
 ·rw[if_pos hk]at ex;obtain⟨rfl,rfl,rfl⟩:=Yh ex;subst hk;have hnews:news=[]:=by
   cases news with
   |nil=>rfl
   |cons _ _=>simp at hnl;omega
  subst hnews;have hxs:∃base sCap,xv= .slice base l sCap∧l≤sCap:=by
   cases hx<;>simp[Yfo]at hlx
   ·subst hlx;exact⟨none,0,rfl,Zl _⟩
   ·subst hlx;exact⟨_,_,rfl,by assumption⟩
   ·subst hlx;exact⟨_,_,rfl,by assumption⟩
  obtain⟨base,sCap,rfl,hle⟩:=hxs;have:=ar.room base l sCap (by omega) w (by cases base<;>rfl);exact Step1.same sr hx this
 ·rw[if_neg hk]at ex;cases hx with
  |nilsl=>
   simp only at ex;obtain⟨id,_,_,_,_,e1,f1,_⟩:=bind_some ex;obtain⟨rfl,rfl,rfl⟩:=Yaz e1;obtain⟨rfl,rfl,rfl⟩:=Yh f1;simp[Yfo]at hlx;subst hlx;have hn:=hfree id (Zl _) (by omega);have hg:=ar.grow none 0 0 #[] (by omega) hfit (fun w' _=>by simp[Builtin.firstCells]);have hge:=grownCap_ge w (0+k) 0 e;have hsr:=Ynu sr hB hn (e:=e) hz hzl (old:=[]) (olds:=[]) .nil hs (by simp) hsl hge;simp only[Nat.zero_add]at hg hge hsr;refine Step1.val hg (by simpa using hsr) (Ydv hn _) (Ks _) ?_;exact .sl id 0 k s _ ⟨w.heap.size,0,grownCap w k 0 e*s⟩ _ (by simp[upd]) hge (fun _=>⟨by simp,by simp⟩)
  |sl id off len sz cap rg a hr hlc hcap=>
   simp only at ex;simp[Yfo]at hlx;subst hlx;split at ex
   ·rename_i hsz;subst hsz;obtain⟨old,h1,n1,_,_,e1,f1,_⟩:=bind_some ex;obtain⟨_,_,_,_,_,e2,f2,_⟩:=bind_some f1;obtain⟨id',_,_,_,_,e3,f3,_⟩:=bind_some f2;obtain⟨rfl,rfl,hol,b,o,olds,hpv,hovs,hoc⟩:=Ydr sr (.ptr id off rg hr) e1;simp only[Value.pointer.injEq,Zs,Addr.mk.injEq,and_true]at hpv;obtain⟨rfl,rfl⟩:=hpv;obtain⟨rfl,rfl⟩:=Ycr e2;obtain⟨rfl,rfl,rfl⟩:=Yaz e3;obtain⟨rfl,rfl,rfl⟩:=Yh f3;have hn:=hfree id' (Zl _) (by omega);have hidlive:∃cs,h1 id=some (.cells cs)∧Yp cs off (len*sz)=some old:=by
     unfold Xt at e1;simp only at e1;obtain⟨o',_,_,_,_,g1,g2,_⟩:=bind_some e1;obtain⟨ho,rfl,rfl⟩:=Q6 g1;cases o' with
     |map es=>exact(Yc g2).elim
     |cells cs=>
      obtain⟨hsl',_,_⟩:=Ye g2;exact⟨cs,ho,hsl'⟩
    obtain⟨cs,hid,hsl'⟩:=hidlive;by_cases hroom:len+k≤cap
    ·obtain⟨rfl,hext⟩:=hcap (by omega);obtain⟨rg',g1,_,_,g4,g5,_⟩:=sr.cellsOf hid;rw[hr]at g1;cases g1;have hmul:(len+k)*sz≤cap*sz:=Zr _ hroom;rw[Nat.add_mul]at hmul;have hst:=run_storeCells_cells (P:=P) rg.b (rg.o+off+len*sz) news 0 w (fun j hj=>by
       have:=(g5 (off+len*sz+j) (by omega)).1;simpa[Nat.add_assoc]using this) (fun j hj=>by
       have:=(g5 (off+len*sz+j) (by omega)).2;simpa[Nat.add_assoc]using this) (hs.all_one hone)
     have hrun:=ar.room (some ⟨rg.b,rg.o+off,none⟩) len cap hroom (w.setCells rg.b (rg.o+off+len*sz) news) (by
      simp only[Ya2];simpa using hst)
     have hsr:=sr.inplace hid hr hn (off:=off) (old:=old) (by rw[hol];exact hsl') hs (by omega);rw[hol,←Nat.add_assoc]at hsr;refine Step1.val hrun hsr (Ydv hn _) (Ks _) ?_;exact .sl id' 0 (len+k) sz cap ⟨rg.b,rg.o+off,rg.ext-off⟩ _ (by simp[upd]) hroom (fun _=>⟨by simp,by simp only;omega⟩)
    ·have hfo:∀w',(∀a,w'.cell? a=w.cell? a)→(Builtin.firstCells sz len (.slice (some a) len cap)).run P w'= .ok olds.toArray w':=by
      intro w' hw;rcases Nat.eq_zero_or_pos cap with h0|h0
      ·have:len=0:=by omega
       subst this;have:olds=[]:=by
        have:=hovs.1;cases olds with
        |nil=>rfl
        |cons _ _=>simp at this;omega
       subst this;simp[Builtin.firstCells,loadCells,loadCellsFrom]
      ·obtain⟨rfl,_⟩:=hcap h0;have hvl:=hovs.1;have:=Qu (P:=P) (w:=w') (b:=rg.b) (o:=rg.o+off) (vs:=olds) (by
        intro i v hv;rw[hw];exact hoc i v hv)
       rw[←hvl,hol]at this;simpa[Builtin.firstCells]using this
     have hrun:=ar.grow (some a) len cap olds.toArray (by omega) hfit hfo;have hge:=grownCap_ge w (len+k) cap e;have hsr:=Ynu (sr.sub (kill_sub h1 id)) hB hn (e:=e) hz hzl hovs hs hol hsl hge;refine Step1.val hrun hsr (Ydv hn _) (Ks _) ?_;exact .sl id' 0 (len+k) sz _ ⟨w.heap.size,0,grownCap w (len+k) cap e*sz⟩ _ (by simp[upd]) hge (fun _=>⟨by simp,by simp⟩)
   ·exact(Yc ex).elim
  |_=>exact(Yc ex).elim
theorem Yo9(sr:SR B w0 μ M h w)(hB:B≤w0.w.heap.size)(hfree:∀id,n≤id→id<n'→μ id=none){y:AV}(hx:VR μ M x xv)(hy:VR μ M y yv)
  (ex:Ycd P ts.toList x y h n=some (v,h',n',lg)):Step1 P B w0 μ M n n' h' w v (valS (Builtin.append_ ts ty #[xv,yv])):=by
 obtain⟨tl,rfl⟩:∃tl:List TypeId,ts=tl.toArray:=⟨ts.toList,by simp⟩;simp only at ex;unfold Ycd at ex;cases tl with
 |nil=>exact(Yc ex).elim
 |cons t tl=>
  cases tl with
  |nil=>exact(Yc ex).elim
  |cons u tl=>
   cases tl with
   |cons _ _=>exact(Yc ex).elim
   |nil=>
    simp only at ex;obtain⟨e,_,_,_,_,e1,f1,_⟩:=bind_some ex;obtain⟨he,rfl,rfl⟩:=Ye e1;obtain⟨s,_,_,_,_,e2,f2,_⟩:=bind_some f1;obtain⟨hs,rfl,rfl⟩:=Ye e2;obtain⟨by_,_,_,_,_,e3,f3,_⟩:=bind_some f2;obtain⟨hby,rfl,rfl⟩:=Ye e3;obtain⟨z,_,_,_,_,e4,f4,_⟩:=bind_some f3;obtain⟨hz,rfl,rfl⟩:=Ye e4;obtain⟨zv,_,hzo,i,hi,hiz⟩:=K9 hz;obtain⟨i',hi',rfl⟩:=Yis hs;rw[hi]at hi';cases hi';obtain⟨i',hi',rfl⟩:=Yh1 hby;rw[hi]at hi';cases hi';have hzv:=Ycl (μ:=μ) (M:=M) hzo;split at f4
    ·rename_i hc;obtain⟨hc1,hc2,hc3⟩:=hc;obtain⟨src,h5,n5,_,_,e5,f5,_⟩:=bind_some f4;cases hlx:Yfo x with
     |none=>rw[hlx]at f5;exact(Yc f5).elim
     |some l=>
      rw[hlx]at f5;simp only at f5;split at f5
      ·rename_i hcond;obtain⟨hfit,hsl,hone⟩:=hcond;cases hu:P.underlying u with
       |none=>rw[hu]at e5;exact(Yc e5).elim
       |some du=>
        rw[hu]at e5;cases du with
        |slice el=>
         simp only at e5;obtain⟨rfl,rfl,hl,news,hvs,hf,_⟩:=Yla (P:=P) sr hy e5 hsl;exact Yev sr hB hfree (Yh2 (Ydn he) hi hiz hu (.inl ⟨_,rfl⟩) hl hf) hx hzv hc2 hvs hsl hone hlx hfit f5
        |string=>
         cases y with
         |str b=>
          simp only at e5;obtain⟨rfl,rfl,hl,news,hvs,hf,_⟩:=Yla (P:=P) sr hy e5 hsl;exact Yev sr hB hfree (Yh2 (Ydn he) hi hiz hu (.inr rfl) hl hf) hx hzv hc2 hvs hsl hone hlx hfit f5
         |_=>exact(Yc e5).elim
        |int ku=>
         cases hy with
         |int kk m=>
          simp only at e5;split at e5
          ·rename_i hm;obtain⟨rfl,rfl,rfl⟩:=Yh e5;simp only at hsl hone hfit f5;have hzs:zv.cells.size=i.size:=by have:=hzv.cells.1;simp at this;omega
           have hmb:m*i.bytes≤281474976710656:=by
            have h1:=(Ydf hfit).2;have h2:m.toNat*i.bytes≤(l+m.toNat)*i.bytes:=Zr _ (by omega);have h3:((m.toNat*i.bytes:Nat):Int)=m*i.bytes:=by
             rw[Int.natCast_mul,Int.toNat_of_nonneg hm.1]
            omega
           refine Yev sr hB hfree (Ypa (Ydn he) hi hiz hu hm.1 hm.2 hmb) hx hzv hc2 (sc:=X6 z.cells (m.toNat*i.size)) ?_ hsl hone hlx hfit f5;by_cases hk:m.toNat*i.size=0
           ·rw[hk];simp[X6];exact .nil
           ·rw[if_neg hk];have:=Yf2 hzv (by omega) (m.toNat*i.size);unfold Builtin.zeroCells;rw[hzs]at this ⊢;exact this
          ·exact(Yc e5).elim
         |_=>exact(Yc e5).elim
        |_=>exact(Yc e5).elim
      ·exact(Yc f5).elim
    ·exact(Yc f4).elim
theorem copyA_sim(sr:SR B w0 μ M h w){y:AV}(hx:VR μ M x xv)(hy:VR μ M y yv)
  (ex:Yry P ts.toList x y h n=some (v,h',n',lg)):n'=n∧∃cv w',(Builtin.copy_ ts ty #[xv,yv]).run P w= .ok cv w'∧SR B w0 μ M h' w'∧VR μ M v cv:=by
 obtain⟨tl,rfl⟩:∃tl:List TypeId,ts=tl.toArray:=⟨ts.toList,by simp⟩;simp only at ex;unfold Yry at ex;cases tl with
 |nil=>exact(Yc ex).elim
 |cons t tl=>
  simp only at ex;obtain⟨e,_,_,_,_,e1,f1,_⟩:=bind_some ex;obtain⟨he,rfl,rfl⟩:=Ye e1;obtain⟨s,_,_,_,_,e2,f2,_⟩:=bind_some f1;obtain⟨hs,rfl,rfl⟩:=Ye e2;cases hx with
  |sl id off len sz cap rg a hr hlc hcap=>
   simp only at f2;split at f2
   ·rename_i hc;obtain⟨rfl,hpos⟩:=hc;obtain⟨src,_,_,_,_,e3,f3,_⟩:=bind_some f2;split at f3
    ·rename_i hsl;obtain⟨u,_,_,_,_,e4,f4,_⟩:=bind_some f3;obtain⟨rfl,rfl,rfl⟩:=Yh f4;obtain⟨rfl,rfl,hl,news,hvs,hf,hfk⟩:=Yla (P:=P) sr hy e3 hsl;obtain⟨rfl,b,o,w',hpv,hrun,hsr⟩:=Yd6 (P:=P) sr (.ptr id off rg hr) (hvs.take (min src.2 len*sz)) e4;simp only[Value.pointer.injEq,Zs,Addr.mk.injEq,and_true]at hpv;obtain⟨rfl,rfl⟩:=hpv;refine⟨rfl,.int .i64 (min src.2 len:Nat),w',?_,hsr,.int _ _⟩;have hfc:=hfk (min src.2 len) (Nat.min_le_left _ _) w (fun _=>rfl);rcases Nat.eq_zero_or_pos cap with h0|h0
     ·have:len=0:=by omega
      subst this;have hw':w'=w:=by simpa[storeCells]using hrun.symm
      subst hw';simp only[Nat.min_zero,Nat.zero_mul,take_zero]at hfc;simp[Builtin.copy_,run_underlying (Ydn he),hl,Xs hs,hfc,storeCells,goInt]
     ·obtain⟨rfl,_⟩:=hcap h0;simp[Builtin.copy_,run_underlying (Ydn he),hl,Xs hs,hfc,hrun,goInt]
    ·exact(Yc f3).elim
   ·exact(Yc f2).elim
  |_=>exact(Yc f2).elim
end
end Go.Abs
