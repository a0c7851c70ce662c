import Derived.Test.YtibdecjfdpmfoaaGreatAbsRelB
import Derived.Laws.Entries
import GoSem.Dispatch
import Derived.Laws.AppendOwn
import Derived.Laws.IdiomStrings
import Derived.Laws.MakeOwn
open Go.RowKit (Below)
namespace Go.Abs
open List hiding Mem cons map nil
variable {o:AObj} {a p v z:AV} {w0:Anchor} {op:BinOp} {ps:List (Nat×AV)} {qs:List (Nat×Value)} {vs:List Value} {lg:Log} {M:Mem} {μ:Mu} {B id n n' n2:Nat} {k:NilK} {ev:Operand→Option AV} {ρ:Operand→Value} {P:Program} {S:Sem Value} {α β:Type} {t:TypeId} {cv pv xv:Value} {w:World} {h h' h2:Ya} {x:Option α} {b:β}
theorem bind_some{m:AM α}{f:α→AM β}(e:AM.bind m f h n=some (b,h2,n2,lg)) :
  ∃a h1 n1 l1 l2,m h n=some (a,h1,n1,l1)∧f a h1 n1=some (b,h2,n2,l2)∧lg=(l1.1++l2.1,l1.2++l2.2):=by
 unfold AM.bind at e;cases e1:m h n with
 |none=>rw[e1]at e;cases e
 |some x=>
  obtain⟨a,h1,n1,l1⟩:=x;rw[e1]at e;simp only at e;cases e2:f a h1 n1 with
  |none=>rw[e2]at e;cases e
  |some y=>
   obtain⟨b',h2',n2',l2⟩:=y;rw[e2]at e;simp only[Zs,Zp]at e;obtain⟨rfl,rfl,rfl,rfl⟩:=e;exact⟨a,h1,n1,l1,l2,rfl,e2,rfl⟩
theorem Ye{b:α}(e:AM.lift x h n=some (b,h2,n2,lg)) :
  x=some b∧h2=h∧n2=n:=by
 cases x with
 |none=>cases e
 |some a=>
  simp only[AM.lift,AM.pure,Zs,Zp]at e;obtain⟨rfl,rfl,rfl,_⟩:=e;exact⟨rfl,rfl,rfl⟩
theorem Yh{x:α}{b:α}(e:AM.pure x h n=some (b,h2,n2,lg)) :
  b=x∧h2=h∧n2=n:=by
 simp only[AM.pure,Zs,Zp]at e;obtain⟨rfl,rfl,rfl,_⟩:=e;exact⟨rfl,rfl,rfl⟩
theorem Yc{b:α}(e:(AM.fail:AM α) h n=some (b,h2,n2,lg)):False:=by cases e
theorem Q6{b:AObj}(e:AM.get id h n=some (b,h2,n2,lg)) :
  h id=some b∧h2=h∧n2=n:=by
 unfold AM.get at e;split at e
 ·rename_i o ho;simp only[Zs,Zp]at e;obtain⟨rfl,rfl,rfl,_⟩:=e;exact⟨ho,rfl,rfl⟩
 ·cases e
theorem Yld{b:Unit}(e:AM.set id o h n=some (b,h2,n2,lg)) :
  h2=upd h id (some o)∧n2=n:=by
 unfold AM.set at e;split at e
 ·simp only[Zs,Zp]at e;obtain⟨_,rfl,rfl,_⟩:=e;exact⟨rfl,rfl⟩
 ·cases e
theorem Ycr{b:Unit}(e:AM.kill id h n=some (b,h2,n2,lg)) :
  h2=upd h id none∧n2=n:=by
 unfold AM.kill at e;split at e
 ·simp only[Zs,Zp]at e;obtain⟨_,rfl,rfl,_⟩:=e;exact⟨rfl,rfl⟩
 ·cases e
theorem Yaz{b:Nat}(e:AM.new o h n=some (b,h2,n2,lg)) :
  b=n∧h2=upd h n (some o)∧n2=n+1:=by
 simp only[AM.new,Zs,Zp]at e;obtain⟨rfl,rfl,rfl,_⟩:=e;exact⟨rfl,rfl,rfl⟩
theorem Yho{f:α→Option β}(e:x.bind f=some b):∃a,x=some a∧f a=some b:=Option.bind_eq_some_iff.1 e
theorem Yjy{f:α→β}(e:x.map f=some b):∃a,x=some a∧f a=b:=Option.map_eq_some_iff.1 e
theorem Yis(h:Kx P t=some n):∃i,P.info? t=some i∧i.size=n:=Yjy h
theorem Yh1(h:Ybp P t=some n):∃i,P.info? t=some i∧i.bytes=n:=Yjy h
theorem Xs(h:Kx P t=some n)(w:World):(sizeOf t).run P w= .ok n w:=by
 obtain⟨i,hi,rfl⟩:=Yis h;simp[sizeOf,typeInfo,hi]
theorem Ye5{b:Bool}(h:Ymd P t=some b)(w:World):(isAgg t).run P w= .ok b w:=by
 unfold Ymd at h;simp only[isAgg];split at h
 ·rename_i fs e;cases h;simp[run_underlying e]
 ·rename_i l e' e;cases h;simp[run_underlying e]
 ·rename_i d h1 h2 e;cases h;rw[Sem.run_bind,run_underlying e];simp only[Result.andThen_ok];cases d<;>first|rfl|(exact absurd e (h1 _))|(exact absurd e (h2 _ _))
 ·cases h
theorem VR.str'(s:List UInt8):VR μ M (.str s) (.string ⟨s.toArray⟩):=by
 have:=VR.str (μ:=μ) (M:=M) ⟨s.toArray⟩;simpa using this
theorem VR.str_inv{s:List UInt8}{v:Value}(h:VR μ M (.str s) v):v= .string ⟨s.toArray⟩:=by
 cases h with
 |str b=>cases b;simp
theorem Yir{v v':Value}(h:Xj a=some v)(hr:VR μ M a v'):v'=v:=by
 cases a<;>simp only[Xj,Zs,reduceCtorEq]at h
 ·subst h;cases hr;rfl
 ·subst h;cases hr;rfl
 ·subst h;exact hr.str_inv
theorem Yhs:∀{l:List AV} {r vs:List Value},l.mapM Xj=some r→VRs μ M l vs→vs=r
 |[],r,vs,h,hv=>by
  simp at h;subst h;have:=hv.1;cases vs with
  |nil=>rfl
  |cons _ _=>simp at this
 |a::l,r,vs,h,hv=>by
  rw[mapM_cons]at h;cases vs with
  |nil=>have:=hv.1;simp at this
  |cons v vs=>
   rw[VRs.cons_iff]at hv;simp only[Option.bind_eq_bind,Option.pure_def]at h;obtain⟨x,hx,h⟩:=Yho h;obtain⟨y,hy,h⟩:=Yho h;cases h;rw[Yir hx hv.1,Yhs hy hv.2]
theorem Yl9{v v':Value}(h:Yjn a=some v)(hr:VR μ M a v'):v'=v:=by
 cases a with
 |agg cs=>
  simp only[Yjn]at h;obtain⟨l,hl,rfl⟩:=Yjy h;cases hr with
  |agg _ vs h1 h2=>
   have:vs.toList=l:=Yhs hl ⟨by simpa using h1,fun i x y hx hy=>h2 i x y hx (by simpa using hy)⟩;rw[←this]
 |_=>exact Yir (by simpa only[Yjn]using h) hr
theorem Yi5{v:Value}(h:Ygd v=some a):VR μ M a v:=by
 cases v<;>try (simp only[Ygd,Zs,reduceCtorEq]at h)
 ·subst h;exact .bool _
 ·subst h;exact .int _ _
 ·subst h;exact .str _
 ·rename_i p;cases p with
  |none=>simp only[Zs]at h;subst h;exact .nilptr
  |some _=>simp at h
 ·rename_i p l c;cases p with
  |none=>
   cases l<;>cases c<;>simp at h
   subst h;exact .nilsl
  |some _=>simp at h
 ·rename_i p;cases p with
  |none=>simp only[Zs]at h;subst h;exact .nilmap
  |some _=>simp at h
 ·subst h;exact .nilfn
 ·subst h;exact .nilifc
theorem Yhy:∀{vs:List Value} {l:List AV},vs.mapM Ygd=some l→VRs μ M l vs
 |[],l,h=>by simp at h;subst h;exact .nil
 |v::vs,l,h=>by
  rw[mapM_cons]at h;simp only[Option.bind_eq_bind,Option.pure_def]at h;obtain⟨x,hx,h⟩:=Yho h;obtain⟨y,hy,h⟩:=Yho h;cases h;exact .cons (Yi5 hx) (Yhy hy)
theorem Ycl{v:Value}(h:ofv v=some a):VR μ M a v:=by
 cases v with
 |agg cs=>
  simp only[ofv]at h;obtain⟨l,hl,rfl⟩:=Yjy h;have:=VR.agg' (Yhy (μ:=μ) (M:=M) hl);simpa using this
 |_=>exact Yi5 h
theorem Ylb{s:Sem α}{a:α}(h:spr P s=some a)(w:World):s.run P w= .ok a w:=by
 induction s with
 |pure b=>simp only[spr,Zs]at h;subst h;rfl
 |program k ih=>exact ih P h
 |mark m k ih=>exact ih h
 |_=>simp[spr]at h
theorem Ya2(b o j:Nat):(⟨b,o,none⟩:Addr).add j=⟨b,o+j,none⟩:=by
 unfold Addr.add;split
 ·rename_i e;simp[e]
 ·rfl
theorem Ydr{k:Nat}{cs:List AV}
  (s:SR B w0 μ M h w)(hp:VR μ M p pv)(e:Xt p k h n=some (cs,h',n',lg)) :
  h'=h∧n'=n∧cs.length=k∧∃b o vs,pv= .pointer (some ⟨b,o,none⟩)∧VRs μ M cs vs∧∀j v,vs[j]?=some v→w.cell? ⟨b,o+j,none⟩=some v:=by
 unfold Xt at e;cases hp with
 |ptr id off r hr=>
  simp only at e;obtain⟨o,h1,n1,l1,l2,e1,e2,_⟩:=bind_some e;obtain⟨ho,rfl,rfl⟩:=Q6 e1;cases o with
  |cells c=>
   obtain⟨hs,rfl,rfl⟩:=Ye e2;obtain⟨r',h1,h2,h3,h4,h5,vs,h6,h7⟩:=s.cellsOf ho;rw[hr]at h1;cases h1;refine⟨rfl,rfl,(Jb hs).1,r.b,r.o+off,_,rfl,Ye0 hs h6,?_⟩;intro j v hv;rw[getElem?_take]at hv;split at hv
   ·rw[getElem?_drop]at hv;rw[Nat.add_assoc];exact h7 _ v hv
   ·cases hv
  |map es=>exact(Yc e2).elim
 |tptr c off b o vs h1 h2=>
  simp only at e;obtain⟨hs,rfl,rfl⟩:=Ye e;have hl:=Jb hs;refine⟨rfl,rfl,hl.1,b,o+off,(List.range k).map (fun j=>vs (off+j)),rfl,⟨by simp[hl.1],?_⟩,?_⟩
  ·intro i a v ha hv;have hi:i<k:=by rw[←hl.1];exact(Zi.1 ha).1
   simp[hi]at hv;exact hv▸h2 _ a (Ye1 hs ha)
  ·intro j v hv;have hj:j<k:=by
    rcases Nat.lt_or_ge j k with h|h
    ·exact h
    ·simp[h]at hv
   simp[hj]at hv;have hlt:off+j<c.length:=by omega
   rw[←hv,Nat.add_assoc];exact s.mem b _ _ (h1 (off+j) _ (Zg hlt))
 |_=>exact(Yc e).elim
theorem Qu{b o:Nat}(h:∀j v,vs[j]?=some v→w.cell? ⟨b,o+j,none⟩=some v) :
  (loadCells ⟨b,o,none⟩ vs.length).run P w= .ok vs.toArray w:=
 run_loadCells_list w _ vs fun j v hv=>by rw[Ya2];exact h j v hv
theorem Yja 
  (s:SR B w0 μ M h w)(hp:VR μ M p pv)(e:Kq P t p h n=some (v,h',n',lg)) :
  h'=h∧n'=n∧∃b o cv,pv= .pointer (some ⟨b,o,none⟩)∧VR μ M v cv∧(loadVar t ⟨b,o,none⟩).run P w= .ok cv w:=by
 unfold Kq at e;obtain⟨agg,h1,n1,_,_,e1,f1,_⟩:=bind_some e;obtain⟨ha,rfl,rfl⟩:=Ye e1;obtain⟨sz,h2,n2,_,_,e2,f2,_⟩:=bind_some f1;obtain⟨hz,rfl,rfl⟩:=Ye e2;obtain⟨cs,h3,n3,_,_,e3,f3,_⟩:=bind_some f2;obtain⟨hs,rfl,rfl⟩:=Ye f3;obtain⟨rfl,rfl,hl,b,o,vs,hpv,hvs,hc⟩:=Ydr s hp e3;refine⟨rfl,rfl,b,o,?_⟩;have hlen:=hvs.1;cases agg with
 |true=>
  simp only[if_true]at hl;simp only[X9,if_true,Zs]at hs;subst hs;refine⟨.agg vs.toArray,hpv,VR.agg' hvs,?_⟩;have:=Qu (P:=P) hc;rw[←hlen,hl]at this;simp[loadVar,Ye5 ha,Xs hz,this]
 |false=>
  simp only[Zf,if_false]at hl;simp only[X9,Zf,if_false]at hs;cases cs with
  |nil=>cases hs
  |cons a l=>
   cases l with
   |cons _ _=>cases hs
   |nil=>
    simp only[Zs]at hs;subst hs;cases vs with
    |nil=>simp at hlen
    |cons u vs=>
     rw[VRs.cons_iff]at hvs;have hcell:=hc 0 u rfl;simp only[Nat.add_zero]at hcell;refine⟨u,hpv,hvs.1,?_⟩;simp[loadVar,Ye5 ha,hcell]
theorem Yd7{l vs r:List α}{off:Nat}(h:Ql l off vs=some r):r=l.take off++vs++l.drop (off+vs.length)∧off+vs.length≤l.length:=by
 unfold Ql at h;split at h
 ·rename_i c;simp only[Zs]at h;exact⟨h.symm,c⟩
 ·cases h
theorem Yd6{as:List AV}{u:Unit}
  (s:SR B w0 μ M h w)(hp:VR μ M p pv)(hv:VRs μ M as vs)(e:Yaa p as h n=some (u,h',n',lg)) :
  n'=n∧∃b o w',pv= .pointer (some ⟨b,o,none⟩)∧(storeCells ⟨b,o,none⟩ vs).run P w= .ok () w'∧SR B w0 μ M h' w':=by
 unfold Yaa at e;cases hp with
 |ptr id off r hr=>
  simp only at e;obtain⟨o,h1,n1,l1,l2,e1,e2,_⟩:=bind_some e;obtain⟨ho,rfl,rfl⟩:=Q6 e1;cases o with
  |map es=>exact(Yc e2).elim
  |cells c=>
   obtain⟨c',h3,n3,_,_,e3,e4,_⟩:=bind_some e2;obtain⟨hc,rfl,rfl⟩:=Ye e3;obtain⟨rfl,rfl⟩:=Yld e4;split at hc
   ·rename_i hone;obtain⟨rfl,hle⟩:=Yd7 hc;obtain⟨r',h1,h2,h3,h4,h5,_⟩:=s.cellsOf ho;rw[hr]at h1;cases h1;have hl:=hv.1;refine⟨rfl,r.b,r.o+off,_,rfl,?_,s.write ho hr hv hle⟩;have:=run_storeCells_cells (P:=P) r.b (r.o+off) vs 0 w (fun j hj=>by
      have:=(h5 (off+j) (by omega)).1;simpa[Nat.add_assoc]using this) (fun j hj=>by
      have:=(h5 (off+j) (by omega)).2;simpa[Nat.add_assoc]using this) (hv.all_one hone)
    simpa using this
   ·cases hc
 |_=>exact(Yc e).elim
theorem Yji(off:Nat):∀(v:List Value) (k:Nat) (cells:Array Value),off+k+v.length≤cells.size→
  ((v.zipIdx k).foldl (fun cs (x:Value×Nat)=>cs.setIfInBounds (off+x.2) x.1) cells).toList=cells.toList.take (off+k)++v++cells.toList.drop (off+k+v.length)
 |[],k,cells,_=>by simp
 |a::v,k,cells,h=>by
  simp only[zipIdx_cons,foldl_cons];rw[Yji off v (k+1) _ (by simp;simp at h;omega)];simp only[Array.toList_setIfInBounds,length_cons]at h ⊢;have hlt:off+k<cells.toList.length:=by simp;omega
  rw[show off+(k+1)=off+k+1 by omega,take_set,take_succ_eq_append_getElem hlt,drop_set_of_lt (by omega)];have hset:(cells.toList.take (off+k)++[cells.toList[off+k]]).set (off+k) a=cells.toList.take (off+k)++[a]:=by
   rw[set_append_right _ _ (by simp;omega)];simp[show min (off+k) cells.size=off+k by simp at hlt;omega]
  rw[hset];simp[Nat.add_assoc,Nat.add_comm 1]
theorem Yil{place:Nat→Option (Nat×Nat)}:∀{ps:List (Nat×AV)} {qs:List (Nat×Value)} {cs cs':List AV} {vs:Array Value},
  ps.length=qs.length→(∀(i:Nat) p q,ps[i]?=some p→qs[i]?=some q→p.1=q.1∧VR μ M p.2 q.2)→VRs μ M cs vs.toList→Ygs place cs ps=some cs'→
  ∃vs',Instr.fill place vs qs=some vs'∧VRs μ M cs' vs'.toList
 |[],qs,cs,cs',vs,hl,_,hv,h=>by
  simp[Ygs]at h;subst h;cases qs with
  |nil=>exact⟨vs,rfl,hv⟩
  |cons _ _=>simp at hl
 |(i,a)::ps,qs,cs,cs',vs,hl,hpq,hv,h=>by
  cases qs with
  |nil=>simp at hl
  |cons q qs=>
   obtain⟨j,x⟩:=q;have h0:=hpq 0 (i,a) (j,x) rfl rfl;obtain⟨e1,hax⟩:=h0;simp only at e1 hax;subst e1;unfold Ygs at h;cases hp:place i with
   |none=>rw[hp]at h;cases h
   |some os=>
    obtain⟨off,size⟩:=os;rw[hp]at h;simp only at h;split at h
    ·rename_i hsz;cases hs:Ql cs off a.cells with
     |none=>rw[hs]at h;cases h
     |some c2=>
      rw[hs]at h;simp only at h;obtain⟨rfl,hle⟩:=Yd7 hs;have hc:=hax.cells;have hcl:a.cells.length=x.cells.size:=by simpa using hc.1
      have hvl:cs.length=vs.size:=by simpa using hv.1
      have hf:=Yji off x.cells.toList 0 vs (by simp;omega);have hf':(x.cells.zipIdx.foldl (fun cs (c,j)=>cs.setIfInBounds (off+j) c) vs).toList=vs.toList.take off++x.cells.toList++vs.toList.drop (off+x.cells.size):=by
       rw[←Array.foldl_toList,Array.toList_zipIdx];simpa using hf
      obtain⟨vs',h1,h2⟩:=Yil (place:=place) (ps:=ps) (qs:=qs) (cs':=cs') (vs:=x.cells.zipIdx.foldl (fun cs (c,j)=>cs.setIfInBounds (off+j) c) vs)
       (by simpa using hl) (fun k p q hp hq=>hpq (k+1) p q (by simpa using hp) (by simpa using hq))
       (by rw[hf',←hcl];exact((hv.take off).append hc).append (hv.drop _)) h
      refine⟨vs',?_,h2⟩;unfold Instr.fill;rw[hp];simp only;rw[if_neg (by simp only[Bool.or_eq_true,decide_eq_true_eq,not_or];omega)];exact h1
    ·cases h
def Step1 (P:Program) (B:Nat) (w0:Anchor) (μ:Mu) (M:Mem) (n n':Nat) (h':Ya) (w:World) (v:AV) (s:Sem Next):Prop:=
 ∃μ' w' nx cv,s.run P w= .ok nx w'∧(nx= .value cv∨(nx= .skip∧cv=undef))∧SR B w0 μ' M h' w'∧μ.le μ'∧(∀id,¬(n≤id∧id<n')→μ' id=μ id)∧VR μ' M v cv
section
variable {P:Program} {B:Nat} {w0:Anchor} {w:World} {μ:Mu} {M:Mem} {h:Ya} {n:Nat}
theorem SR.newCells(s:SR B w0 μ M h w)(hB:B≤w.heap.size)(hn:μ id=none)(arr:Array Value)(e:TypeId)(fr:Nat×Nat)(cs:List AV)(ext:Nat)(hle:cs.length≤ext)(hext:ext≤arr.size)
  (hfr:fr.1=fr.2∨arr.size≤fr.1)(hv:VRs μ M cs (arr.toList.take cs.length)) :
  SR B w0 (upd μ id (some ⟨w.heap.size,0,ext⟩)) M (upd h id (some (.cells cs))) (w.alloc (.cells arr e fr)):=by
 have hnew:=heap_alloc_new w (.cells arr e fr);have hcell:∀j,(w.alloc (.cells arr e fr)).cell? ⟨w.heap.size,j,none⟩=arr[j]?:=by
  intro j;simp only[World.cell?,hnew];rfl
 refine s.add hB ((Below.refl _ _).alloc (Zl _) _) (fun b hb c t lo hi e0=>?_) id hn ⟨w.heap.size,0,ext⟩ rfl (by simp) _ ⟨hle,?_,?_⟩
 ·have hlt:b<(w.alloc (.cells arr e fr)).heap.size:=(Array.getElem?_eq_some_iff.1 e0).1;obtain rfl:b=w.heap.size:=by simp at hlt;omega
  rw[hnew]at e0;simp only[Zs,Obj.cells.injEq]at e0;obtain⟨rfl,_,rfl⟩:=e0;exact hfr
 ·intro j hj;simp only[Nat.zero_add];simp only at hj;refine⟨by rw[hcell];simp;omega,?_⟩;simp only[World.frozen?,hnew];obtain⟨f1,f2⟩:=fr;simp only at hfr ⊢;simp only[Bool.and_eq_false_iff,decide_eq_false_iff_not];omega
 ·intro i a ha;obtain⟨v,hv1,hv2⟩:=hv.get ha;simp only[Nat.zero_add];refine⟨v,?_,hv2.mono (Ydv hn _) (.refl _)⟩;rw[hcell];rw[getElem?_take]at hv1;split at hv1
  ·simpa using hv1
  ·cases hv1
theorem SR.drew(s:SR B w0 μ M h w)(hB:B≤w.heap.size):SR B w0 μ M h w.drew:=
 s.grow ⟨rfl,rfl,rfl,Zl _,fun _ _=>rfl⟩ hB (fun b hb c t lo hi e0=>by
  have:=(Array.getElem?_eq_some_iff.1 e0).1;exact absurd (show b<w.heap.size from this) (by omega))
theorem Ks(r:Option Rng):∀id,¬(n≤id∧id<n+1)→upd μ n r id=μ id:=fun id hid=>by
 unfold upd;rw[if_neg (by omega)]
def EvR (μ:Mu) (M:Mem) (ev:Operand→Option AV) (ρ:Operand→Value):Prop:=∀x v,ev x=some v→VR μ M v (ρ x)
theorem Yhk(hev:EvR μ M ev ρ):∀{l:List Operand} {r:List AV},evs ev l=some r→VRs μ M r (l.map ρ)
 |[],r,e=>by simp[evs]at e;subst e;exact .nil
 |x::l,r,e=>by
  unfold evs at e;cases hx:ev x with
  |none=>rw[hx]at e;cases e
  |some v=>
   rw[hx]at e;obtain⟨r',hr',rfl⟩:=Yjy e;exact .cons (hev x v hx) (Yhk hev hr')
theorem Yfw(hev:EvR μ M ev ρ):∀{l:List (Nat×Operand)} {r:List (Nat×AV)},J7 ev l=some r→
  r.length=(l.map fun x=>(x.1,ρ x.2)).length∧∀(i:Nat) p q,r[i]?=some p→(l.map fun x=>(x.1,ρ x.2))[i]?=some q→p.1=q.1∧VR μ M p.2 q.2
 |[],r,e=>by simp[J7]at e;subst e;simp
 |(j,x)::l,r,e=>by
  unfold J7 at e;cases hx:ev x with
  |none=>rw[hx]at e;cases e
  |some v=>
   rw[hx]at e;obtain⟨r',hr',rfl⟩:=Yjy e;obtain⟨h1,h2⟩:=Yfw hev hr';refine⟨by simpa using h1,?_⟩;intro i p q hp hq;cases i with
   |zero=>simp at hp hq;subst hp hq;exact⟨rfl,hev x v hx⟩
   |succ i=>exact h2 i p q (by simpa using hp) (by simpa using hq)
theorem K9(e:Q0 P t=some z):∃zv,(∀w,(zeroValue t).run P w= .ok zv w)∧ofv zv=some z∧∃i,P.info? t=some i∧i.zero=some zv:=by
 unfold Q0 at e;obtain⟨zv,h1,h2⟩:=Yho e;obtain⟨i,hi,hz⟩:=Yho h1;exact⟨zv,fun w=>by simp[zeroValue,typeInfo,hi,hz],h2,i,hi,hz⟩
theorem Yrc(fs:List Field)(hs:∀f∈fs,(Kx P f.type).isSome=true) :
  (fs.mapM (fun f=>do pure (f.offset,←sizeOf f.type):Field→Sem (Nat×Nat))).run P w= .ok (fs.map fun f=>(f.offset,(Kx P f.type).getD 0)) w:=by
 induction fs with
 |nil=>rfl
 |cons f fs ih=>
  obtain⟨s,hs'⟩:=Option.isSome_iff_exists.1 (hs f (by simp));rw[mapM_cons];simp only[Sem.run_bind,Xs hs',Result.andThen_ok,Sem.run_pure,ih (fun g hg=>hs g (by simp[hg])),map_cons,hs',Option.getD_some]
theorem build_sim(hl:ps.length=qs.length)
  (hpq:∀(i:Nat) p q,ps[i]?=some p→qs[i]?=some q→p.1=q.1∧VR μ M p.2 q.2)(e:Yn6 P t ps=some v) :
  ∃cv,(Instr.build t qs.toArray).run P w= .ok cv w∧VR μ M v cv:=by
 unfold Yn6 at e;split at e
 ·rename_i z fs hz hu;obtain⟨zv,hzr,hzo,_⟩:=K9 hz;split at e
  ·rename_i hall;obtain⟨cs,hf,rfl⟩:=Yjy e;have hzv:=(Ycl (μ:=μ) (M:=M) hzo).cells;have hsz:∀f∈fs.toList,(Kx P f.type).isSome=true:=fun f hf=>by
    rw[Array.all_eq_true]at hall;obtain⟨i,hi,rfl⟩:=getElem_of_mem hf;simpa using hall i (by simpa using hi)
   have hplace:(fun i=>(fs.toList.map fun f=>(f.offset,(Kx P f.type).getD 0)).toArray[i]?)=Ydk P fs:=by
    funext i;unfold Ydk;cases hi:fs[i]? with
    |none=>simp[hi]
    |some f=>
     obtain⟨s,hs⟩:=Option.isSome_iff_exists.1 (hsz f (by rw[Array.mem_toList_iff];exact Array.mem_of_getElem? hi));simp[hi,hs]
   obtain⟨vs',h1,h2⟩:=Yil hl hpq hzv hf;refine⟨.agg vs',?_,by simpa using VR.agg' h2⟩;simp only[Instr.build,Sem.run_bind,hzr,Result.andThen_ok,run_underlying hu,Array.mapM_eq_mapM_toList,Sem.run_map,Yrc _ hsz,hplace];simp[h1]
  ·cases e
 ·rename_i z l el hz hu;obtain⟨zv,hzr,hzo,_⟩:=K9 hz;split at e
  ·rename_i s hs;obtain⟨cs,hf,rfl⟩:=Yjy e;have hzv:=(Ycl (μ:=μ) (M:=M) hzo).cells;obtain⟨vs',h1,h2⟩:=Yil hl hpq hzv hf;refine⟨.agg vs',?_,by simpa using VR.agg' h2⟩;simp only[Instr.build,Sem.run_bind,hzr,Result.andThen_ok,run_underlying hu,Xs hs];simp[h1]
  ·cases e
 ·cases e
theorem Yf2{zv:Value}(hz:VR μ M z zv)(hpos:0<z.cells.length)(k:Nat):VRs μ M (X6 z.cells k) ((Array.range k).map fun i=>zv.cells[i%zv.cells.size]!).toList:=by
 have hc:=hz.cells;have hl:z.cells.length=zv.cells.size:=by simpa using hc.1
 refine⟨by simp[X6],?_⟩;intro i a v ha hv;have hi:i<k:=by
  have:=(Zi.1 ha).1;simpa[X6]using this
 simp[X6,hi]at ha hv;have hlt:i%z.cells.length<z.cells.length:=Nat.mod_lt _ hpos;refine hc.2 (i%z.cells.length) a v ?_ ?_
 ·rw[Zg hlt]at ha ⊢;simpa using ha
 ·rw[←hv,hl];have:i%zv.cells.size<zv.cells.size:=by rw[←hl];exact hlt
  simp[getElem!_pos,this]
end
section
variable {P:Program} {B:Nat} {w0:Anchor} {w:World} {μ:Mu} {M:Mem} {h h':Ya} {n n':Nat} {lg:Log}
def valS (S:Sem Value):Sem Next:=do pure (.value (←S))
theorem Step1.val{w':World}{μ':Mu}(e:S.run P w= .ok cv w')(sr:SR B w0 μ' M h' w')(hl:μ.le μ')(ho:∀id,¬(n≤id∧id<n')→μ' id=μ id)(hr:VR μ' M v cv) :
  Step1 P B w0 μ M n n' h' w v (valS S):=
 ⟨μ',w',_,cv,by simp[valS,e],.inl rfl,sr,hl,ho,hr⟩
theorem Step1.same(sr:SR B w0 μ M h w)(hr:VR μ M v cv)(e:S.run P w= .ok cv w):Step1 P B w0 μ M n n h w v (valS S):=
 Step1.val e sr (.refl _) (fun _ _=>rfl) hr
theorem Ydn{e:TypeId}(he:Xb P t=some e):P.underlying t=some (.slice e):=by
 unfold Xb at he;split at he
 ·rename_i x hx;cases he;exact hx
 ·cases he
theorem Yj8(sr:SR B w0 μ M h w)(hB:B≤w0.w.heap.size)(hfree:∀id,n≤id→id<n'→μ id=none){len:Nat}(hl:ps.length=qs.length)
  (hpq:∀(i:Nat) p q,ps[i]?=some p→qs[i]?=some q→p.1=q.1∧VR μ M p.2 q.2)(e:J9 P t len ps h n=some (v,h',n',lg)) :
  Step1 P B w0 μ M n n' h' w v (valS (Instr.buildSlice t len qs.toArray)):=by
 unfold J9 at e;obtain⟨el,_,_,_,_,e1,f1,_⟩:=bind_some e;obtain⟨he,rfl,rfl⟩:=Ye e1;obtain⟨s,_,_,_,_,e2,f2,_⟩:=bind_some f1;obtain⟨hs,rfl,rfl⟩:=Ye e2;obtain⟨z,_,_,_,_,e3,f3,_⟩:=bind_some f2;obtain⟨hz,rfl,rfl⟩:=Ye e3;split at f3
 ·rename_i hc;obtain⟨hc1,hc2,hc3,hc4⟩:=hc;obtain⟨cs,_,_,_,_,e4,f4,_⟩:=bind_some f3;obtain⟨hf,rfl,rfl⟩:=Ye e4;split at f4
  ·obtain⟨id,_,_,_,_,e5,f5,_⟩:=bind_some f4;obtain⟨rfl,rfl,rfl⟩:=Yaz e5;obtain⟨rfl,rfl,rfl⟩:=Yh f5;obtain⟨zv,hzr,hzo,_⟩:=K9 hz;have hzv:=Ycl (μ:=μ) (M:=M) hzo;have hn:=hfree id (Zl _) (by omega);obtain⟨vs',h1,h2⟩:=Yil hl hpq (Yf2 hzv (by omega) (len*s)) hf;have hsize:=h2.1;have hvl:vs'.size=cs.length:=by simpa using hsize.symm
   refine Step1.val (w':=w.alloc (.cells vs' el)) (μ':=upd μ id (some ⟨w.heap.size,0,cs.length⟩)) (cv:= .slice (some ⟨w.heap.size,0,none⟩) len len) ?_
    (sr.newCells (sr.le_size hB) hn vs' el (0,0) cs cs.length (Zl _) (by omega) (by simp) (by rw[Zk (by simp;omega)];exact h2))
    (Ydv hn _) (Ks _) ?_
   ·have hlen:¬(16777216<len*s):=by omega
    simp only[Instr.buildSlice,Sem.run_bind,run_underlying (Ydn he),Result.andThen_ok,Xs hs];simp only[gt_iff_lt,Nat.reducePow,if_neg hlen];by_cases h0:len*s=0
    ·have:len=0:=by
      rcases Nat.mul_eq_zero.1 h0 with h|h<;>omega
     subst this;have hr0:Array.range 0 = #[]:=rfl;rw[Nat.zero_mul,hr0,Array.map_empty]at h1;rw[Nat.zero_mul,hr0];simp[h1,newRow]
    ·simp only[if_neg h0,Sem.run_bind,hzr,Result.andThen_ok,Sem.run_pure];simp only[h1];simp[newRow]
   ·refine .sl id 0 len s len ⟨w.heap.size,0,cs.length⟩ ⟨w.heap.size,0,none⟩ (by simp[upd]) (Zl _) (fun _=>⟨by simp,?_⟩);have hfl:∀{ps:List (Nat×AV)} {cs cs':List AV},Ygs (fun i=>some (i*s,s)) cs ps=some cs'→cs'.length=cs.length:=by
     intro ps
     induction ps with
     |nil=>intro cs cs' h;simp[Ygs]at h;rw[h]
     |cons p ps ih=>
      intro cs cs' h;unfold Ygs at h;simp only at h;split at h
      ·split at h
       ·rename_i c2 hs2;obtain⟨rfl,hle⟩:=Yd7 hs2;rw[ih h];simp;omega
       ·cases h
      ·cases h
    have:=hfl hf;simp[X6]at this;simp;omega
  ·exact(Yc f4).elim
 ·exact(Yc f3).elim
theorem Yq1(sr:SR B w0 μ M h w){x:AV}(hp:VR μ M p pv)(hx:VR μ M x xv)(e:Ykb P t p x h n=some (v,h',n',lg)) :
  n'=n∧v= .undef∧∃w',(Instr.storeAt t pv xv).run P w= .ok () w'∧SR B w0 μ M h' w':=by
 unfold Ykb at e;obtain⟨s,_,_,_,_,e1,f1,_⟩:=bind_some e;obtain⟨hs,rfl,rfl⟩:=Ye e1;split at f1
 ·rename_i hc;obtain⟨u,_,_,_,_,e2,f2,_⟩:=bind_some f1;obtain⟨rfl,rfl,rfl⟩:=Yh f2;obtain⟨rfl,b,o,w',rfl,hr,hsr⟩:=Yd6 (P:=P) sr hp hx.cells e2;refine⟨rfl,rfl,w',?_,hsr⟩;have hl:xv.cells.size=s:=by
   have:=hx.cells.1;simp at this;omega
  simp[Instr.storeAt,Instr.sureAddr,storeVar,Xs hs,hl,hr]
 ·exact(Yc f1).elim
theorem nilEq_run{x:AV}{nv:Value}{b:Bool}(hx:VR μ M x xv)(hn:VR μ M (.nil k) nv)(hb:Yak x=some b)(ht:Yde P t k x=true) :
  (Op.equal t xv nv).run P w= .ok b w∧(Op.equal t nv xv).run P w= .ok b w:=by
 unfold Yde at ht;simp only[Za,beq_iff_eq]at ht;obtain⟨ht1,ht2⟩:=ht;cases hu:P.underlying t with
 |none=>rw[hu]at ht2;cases ht2
 |some d=>
  rw[hu]at ht2;unfold Op.equal Op.maxDepth Op.equalIn;rw[Sem.run_bind,Sem.run_bind,run_underlying hu];simp only[Result.andThen_ok];cases k<;>cases d<;>try (simp at ht2;done)
  all_goals (cases hx<;>simp[Yox]at ht1<;>cases hn<;>simp[Yak]at hb<;>subst hb<;>constructor<;>rfl)
theorem Ydm{x:AV}{ox oy:Operand}{a b:Value}(hx:VR μ M x a)(hy:VR μ M (.nil k) b)(hb:∃c,Yak x=some c) :
  (eqGuard op t ox oy a b).run P w= .ok () w∧(eqGuard op t ox oy b a).run P w= .ok () w:=by
 obtain⟨c,hc⟩:=hb;cases hx<;>simp[Yak]at hc<;>cases hy<;>constructor<;>(simp only[eqGuard];split<;>rfl)
theorem Ygw{x:AV}{a b:Value}{c:Bool}(ho:op= .eql∨op= .neq)(hx:VR μ M x a)(hy:VR μ M (.nil k) b)(hc:Yak x=some c)(ht:Yde P t k x=true) :
  (binOp op t a b).run P w= .ok (.bool (if op= .eql then c else !c)) w∧(binOp op t b a).run P w= .ok (.bool (if op= .eql then c else !c)) w:=by
 obtain⟨h1,h2⟩:=nilEq_run (w:=w) hx hy hc ht;rcases ho with rfl|rfl
 ·cases hx<;>simp[Yak]at hc<;>cases hy<;>simp[binOp,h1,h2]
 ·cases hx<;>simp[Yak]at hc<;>cases hy<;>simp[binOp,h1,h2]
theorem binA_sim{ox oy:Operand}{x y:AV}{yv:Value}(_sr:SR B w0 μ M h w)(hx:VR μ M x xv)(hy:VR μ M y yv)(e:Yk6 P op t ox oy x y=some v) :
  ∃cv,(do eqGuard op t ox oy xv yv;binOp op t xv yv:Sem Value).run P w= .ok cv w∧VR μ M v cv:=by
 unfold Yk6 at e;split at e
 ·rename_i a b ha hb;obtain⟨r,h1,h2⟩:=Yho e;rw[Yl9 ha hx,Yl9 hb hy];exact⟨r,Ylb h1 w,Ycl h2⟩
 ·split at e
  ·split at e
   ·rename_i hf;obtain⟨c,hc,rfl⟩:=Yjy e;obtain⟨g1,_⟩:=Ydm (P:=P) (w:=w) (op:= .eql) (t:=t) (ox:=ox) (oy:=oy) hx hy ⟨c,hc⟩;obtain⟨b1,_⟩:=Ygw (w:=w) (op:= .eql) (.inl rfl) hx hy hc hf;refine⟨_,?_,.bool _⟩;simp[g1,b1]
   ·cases e
  ·split at e
   ·rename_i hf;obtain⟨c,hc,rfl⟩:=Yjy e;obtain⟨g1,_⟩:=Ydm (P:=P) (w:=w) (op:= .neq) (t:=t) (ox:=ox) (oy:=oy) hx hy ⟨c,hc⟩;obtain⟨b1,_⟩:=Ygw (w:=w) (op:= .neq) (.inr rfl) hx hy hc hf;refine⟨_,?_,.bool _⟩;simp[g1,b1]
   ·cases e
  ·split at e
   ·rename_i hf;obtain⟨c,hc,rfl⟩:=Yjy e;obtain⟨_,g1⟩:=Ydm (P:=P) (w:=w) (op:= .eql) (t:=t) (ox:=ox) (oy:=oy) hy hx ⟨c,hc⟩;obtain⟨_,b1⟩:=Ygw (w:=w) (op:= .eql) (.inl rfl) hy hx hc hf;refine⟨_,?_,.bool _⟩;simp[g1,b1]
   ·cases e
  ·split at e
   ·rename_i hf;obtain⟨c,hc,rfl⟩:=Yjy e;obtain⟨_,g1⟩:=Ydm (P:=P) (w:=w) (op:= .neq) (t:=t) (ox:=ox) (oy:=oy) hy hx ⟨c,hc⟩;obtain⟨_,b1⟩:=Ygw (w:=w) (op:= .neq) (.inr rfl) hy hx hc hf;refine⟨_,?_,.bool _⟩;simp[g1,b1]
   ·cases e
  ·cases e
end
section
variable {P:Program} {B:Nat} {w0:Anchor} {w:World} {μ:Mu} {M:Mem} {h h':Ya} {n n':Nat} {lg:Log}
theorem Yds:∀{cs:List AV} {r:List UInt8} {vs:List Value},Yae cs=some r→VRs μ M cs vs→∃ns:List Int,vs=ns.map (Value.int .u8)∧r=ns.map (fun n=>UInt8.ofNat n.toNat)
 |[],r,vs,e,hv=>by
  simp[Yae]at e;subst e;have:=hv.1;cases vs with
  |nil=>exact⟨[],rfl,rfl⟩
  |cons _ _=>simp at this
 |a::cs,r,vs,e,hv=>by
  cases vs with
  |nil=>have:=hv.1;simp at this
  |cons v vs=>
   rw[VRs.cons_iff]at hv;unfold Yae at e;split at e
   ·rename_i heq;cases heq
   ·rename_i k r' heq;cases heq;obtain⟨r2,h2,rfl⟩:=Yjy e;obtain⟨ns,rfl,rfl⟩:=Yds h2 hv.2;cases hv.1;exact⟨k::ns,rfl,rfl⟩
   ·cases e
theorem Yeo:∀(ns:List Int) (s:ByteArray),ns.foldl (fun r n=>r.push (UInt8.ofNat n.toNat)) s=⟨s.data++(ns.map (fun n=>UInt8.ofNat n.toNat)).toArray⟩
 |[],s=>by simp
 |n::ns,s=>by
  simp only[foldl_cons];rw[Yeo ns];simp[ByteArray.push]
theorem Yek{e:TypeId}(hb:J4 P e=true):P.underlying e=some (.int .u8):=by
 unfold J4 at hb;split at hb
 ·assumption
 ·cases hb
theorem Yn4(sr:SR B w0 μ M h w)(hB:B≤w0.w.heap.size)(hfree:∀id,n≤id→id<n'→μ id=none){s d:TypeId}{x:AV}(hx:VR μ M x xv)(e:K3 P s d x h n=some (v,h',n',lg)) :
  Step1 P B w0 μ M n n' h' w v (valS (convert s d xv)):=by
 obtain⟨m,hm⟩:∃m,m=K3 P s d x:=⟨_,rfl⟩;rw[←hm]at e;unfold K3 at hm;split at hm
 ·subst hm;obtain⟨h1,rfl,rfl⟩:=Ye e;obtain⟨r,h2,h3⟩:=Yho h1;cases hx;exact Step1.same sr (Ycl h3) (Ylb h2 w)
 ·rename_i ds s' hs hd;subst hm;obtain⟨rfl,rfl,rfl⟩:=Yh e;have hxv:=hx.str_inv;subst hxv;refine Step1.same sr (VR.str' _) ?_;simp only[convert,Sem.run_bind,run_underlying hs,run_underlying hd,Result.andThen_ok];cases ds<;>rfl
 ·rename_i el s' hs hd;subst hm;split at e
  ·rename_i hb;obtain⟨id,_,_,_,_,e1,f1,_⟩:=bind_some e;obtain⟨rfl,rfl,rfl⟩:=Yaz e1;obtain⟨rfl,rfl,rfl⟩:=Yh f1;have hxv:=hx.str_inv;subst hxv;have hn:=hfree id (Zl _) (by omega);have hrun:(convert s d (.string ⟨s'.toArray⟩)).run P w= .ok (.slice (some ⟨w.heap.size,0,none⟩) s'.length (grownCap w s'.length 0 el))
     (w.drew.alloc (.cells (bytesRow ⟨s'.toArray⟩ (grownCap w s'.length 0 el)) el ((bytesRow ⟨s'.toArray⟩ (grownCap w s'.length 0 el)).size,(bytesRow ⟨s'.toArray⟩ (grownCap w s'.length 0 el)).size+1))):=by
    have hsz:(⟨s'.toArray⟩:ByteArray).size=s'.length:=by simp[ByteArray.size]
    have:=run_bytes_of_string (P:=P) w s d el ⟨s'.toArray⟩ hs hd (Yek hb);rwa[hsz]at this
   have hrow:(bytesRow ⟨s'.toArray⟩ (grownCap w s'.length 0 el)).size=grownCap w s'.length 0 el:=by
    have hsz:(⟨s'.toArray⟩:ByteArray).size=s'.length:=by simp[ByteArray.size]
    simp[bytesRow,hsz];have:=grownCap_ge w s'.length 0 el;omega
   refine Step1.val hrun (((sr.drew (sr.le_size hB)).newCells (sr.le_size hB) hn _ _ _ _ (grownCap w s'.length 0 el) ?_ ?_ ?_ ?_)) (Ydv hn _) (Ks _) ?_
   ·simp;exact grownCap_ge w s'.length 0 el
   ·rw[hrow];exact Zl _
   ·exact .inr (Zl _)
   ·refine⟨by simp[bytesRow],?_⟩;intro i a v ha hv;rw[getElem?_map]at ha;obtain⟨b,hb1,rfl⟩:=Yjy ha;rw[getElem?_take]at hv;have hi:i<s'.length:=(Zi.1 hb1).1;simp only[length_map,hi,if_true,bytesRow,Array.toList_append]at hv;rw[getElem?_append_left (by simpa using hi)]at hv;simp[hb1]at hv;subst hv;exact .int _ _
   ·refine .sl id 0 s'.length 1 _ ⟨w.heap.size,0,grownCap w s'.length 0 el⟩ ⟨w.heap.size,0,none⟩ ?_ (grownCap_ge w s'.length 0 el) (fun _=>⟨by simp,by simp⟩);simp[upd]
  ·exact(Yc e).elim
 ·rename_i el hs hd;subst hm;split at e
  ·rename_i hb;obtain⟨rfl,rfl,rfl⟩:=Yh e;cases hx;refine Step1.same sr (cv:= .string .empty) (VR.str' []) ?_;rw[run_convert_bytes_string w s d el none 0 0 hs (Yek hb) hd];rfl
  ·exact(Yc e).elim
 ·rename_i el id off len sz hs hd;subst hm;split at e
  ·rename_i hb;obtain⟨rfl,hb⟩:=hb;obtain⟨cs,_,_,_,_,e1,f1,_⟩:=bind_some e;obtain⟨hl,rfl,rfl⟩:=Ye f1;cases hx with
   |sl _ _ _ _ cap r a hr hlc hcap=>
    obtain⟨rfl,rfl,hlen,b,o,vs,hpv,hvs,hc⟩:=Ydr sr (.ptr id off r hr) e1;obtain⟨bs,hbs,rfl⟩:=Yjy hl;obtain⟨ns,rfl,rfl⟩:=Yds hbs hvs;simp only[Value.pointer.injEq,Zs,Addr.mk.injEq,and_true]at hpv;obtain⟨rfl,rfl⟩:=hpv;refine Step1.same sr (cv:= .string ⟨(ns.map (fun n=>UInt8.ofNat n.toNat)).toArray⟩) (VR.str' _) ?_;rw[run_convert_bytes_string w s d el (some a) len cap hs (Yek hb) hd];have hnl:ns.length=len:=by
     have:=hvs.1;simp at this;omega
    rw[run_bytesToString w a len cap ns,Yeo]
    ·simp
    ·rcases Nat.eq_zero_or_pos cap with h0|h0
     ·have:len=0:=by omega
      subst this;cases ns with
      |nil=>rfl
      |cons _ _=>simp at hnl
     ·obtain⟨rfl,_⟩:=hcap h0;have:=Qu (P:=P) hc;simpa[hnl]using this
  ·exact(Yc e).elim
 ·rename_i el cs len hs hd;subst hm;split at e
  ·rename_i hb;obtain⟨cs',_,_,_,_,e1,f1,_⟩:=bind_some e;obtain⟨hcs,rfl,rfl⟩:=Ye e1;obtain⟨hl,rfl,rfl⟩:=Ye f1;cases hx with
   |tsl _ _ cap a vs hlc hsp hm hr=>
    obtain⟨bs,hbs,rfl⟩:=Yjy hl;have hlen:=Jb hcs;have hvs:VRs μ M cs' ((List.range len).map vs):=by
     refine⟨by simp[hlen.1],?_⟩;intro i x y hx hy;have hi:i<len:=by rw[←hlen.1];exact(Zi.1 hx).1
     simp[hi]at hy;have:=Ye1 hcs hx;rw[Nat.zero_add]at this;exact hy▸hr i x this
    obtain⟨ns,hns,rfl⟩:=Yds hbs hvs;refine Step1.same sr (cv:= .string ⟨(ns.map (fun n=>UInt8.ofNat n.toNat)).toArray⟩) (VR.str' _) ?_;rw[run_convert_bytes_string w s d el (some a) len cap hs (Yek hb) hd];have hnl:ns.length=len:=by
     have:=congrArg List.length hns;simp at this;omega
    rw[run_bytesToString w a len cap ns,Yeo]
    ·simp
    ·rcases Nat.eq_zero_or_pos len with h0|h0
     ·subst h0;cases ns with
      |nil=>rfl
      |cons _ _=>simp at hnl
     ·have hsp':=hsp (.inl h0);obtain⟨ab,ao,asp⟩:=a;simp only at hsp';subst hsp';have:=Qu (P:=P) (w:=w) (b:=ab) (o:=ao) (vs:=ns.map (Value.int .u8)) (by
       intro j v hv;have hj:j<len:=by
        have:=(Zi.1 hv).1;simp at this;omega
       rw[←hns]at hv;simp[hj]at hv;have hjc:j<cs.length:=by omega
       rw[←hv];exact sr.mem _ _ _ (hm j _ (Zg hjc)))
      simpa[hnl]using this
  ·exact(Yc e).elim
 ·rename_i el0 el id off len sz hs hd;subst hm;split at e
  ·rename_i hb;obtain⟨hsd,hby,hlen,rfl⟩:=hb;obtain⟨cs,_,_,_,_,e1,f1,_⟩:=bind_some e;obtain⟨rfl,rfl,rfl⟩:=Yh f1;cases hx with
   |sl _ _ _ _ cap r a hr hlc hcap=>
    obtain⟨ob,_,_,_,_,e2,f2,_⟩:=bind_some e1;obtain⟨hob,rfl,rfl⟩:=Q6 e2;cases ob with
    |map es=>exact(Yc f2).elim
    |cells cs0=>
     obtain⟨hsl,rfl,rfl⟩:=Ye f2;have hcl:=Jb hsl;obtain⟨r',g1,g2,_,g4⟩:=sr.live id _ hob;rw[hr]at g1;cases g1;obtain⟨o1,o2,_⟩:=g4;obtain⟨rfl,_⟩:=hcap (by omega);have hle:off+len≤cs0.length:=by
      unfold Yp at hsl;split at hsl
      ·assumption
      ·cases hsl
     have hcell:=(o2 off (by omega)).1;obtain⟨c,t,lo,hi,hblk⟩:∃c t lo hi,w.heap[r.b]?=some (.cells c t (lo,hi)):=by
      unfold World.cell? at hcell;simp only at hcell;split at hcell
      ·rename_i c t f hh;exact⟨c,t,f.1,f.2,hh⟩
      ·simp at hcell
     have hrun:(convert s d (.slice (some ⟨r.b,r.o+off,none⟩) len cap)).run P w= .ok (.slice (some ⟨r.b,r.o+off,none⟩) len cap) (w.freeze ⟨r.b,c.size,none⟩ 1):=by
      simp only[convert,Sem.run_bind,run_underlying hs,run_underlying hd,run_underlying (Yek hby),Result.andThen_ok,hsd];simp[markStringish,World.shape?,hblk]
     exact Step1.val hrun (sr.mark g2 hblk) (.refl _) (fun _ _=>rfl) (.sl id off len 1 cap r _ hr hlc hcap)
  ·exact(Yc e).elim
 ·subst hm;exact(Yc e).elim
end
end Go.Abs
