import Derived.Test.YtibdecjfdpmfoaaGreatAbsLocalB
import Derived.Laws.Sem
import Derived.Laws.World
import Derived.Laws.Cells
import Derived.Laws.IdiomCopy
import Derived.Laws.Append
open Go.RowKit (Below)
namespace Go.Abs
open List hiding Mem map
variable {a as cs l:List AV} {v:List Value} {B b id n o off:Nat} {α:Type} {w w':World} {h:Ya}
structure Rng where
 b:Nat
 o:Nat
 ext:Nat
variable {r:Rng}
def Rng.has (r:Rng) (b o:Nat):Prop:=b=r.b∧r.o≤o∧o<r.o+r.ext
def Rng.apart (r s:Rng):Prop:=∀b o,¬(r.has b o∧s.has b o)
abbrev Mu:=Nat→Option Rng
variable {μ μ':Mu}
abbrev Mem:=Nat→Nat→Option Value
variable {M M':Mem}
inductive VR (μ:Mu) (M:Mem):AV→Value→Prop where
 |bool (b:Bool):VR μ M (.bool b) (.bool b)
 |int (k:IntKind) (n:Int):VR μ M (.int k n) (.int k n)
 |str (s:ByteArray):VR μ M (.str s.data.toList) (.string s)
 |nilptr:VR μ M (.nil .ptr) (.pointer none)
 |nilsl:VR μ M (.nil .sl) (.slice none 0 0)
 |nilfn:VR μ M (.nil .fn) .nilFunc
 |nilmap:VR μ M (.nil .map) (.map none)
 |nilifc:VR μ M (.nil .ifc) .nilIface
 |ptr (id off:Nat) (r:Rng):μ id=some r→VR μ M (.ptr id off) (.pointer (some ⟨r.b,r.o+off,none⟩))
 |tptr (cs:List AV) (off b o:Nat) (vs:Nat→Value):(∀i a,cs[i]?=some a→M b (o+i)=some (vs i))→
   (∀i a,cs[i]?=some a→VR μ M a (vs i))→VR μ M (.tptr cs off) (.pointer (some ⟨b,o+off,none⟩))
 |sl (id off len sz cap:Nat) (r:Rng) (a:Addr):μ id=some r→len≤cap→(0<cap→a=⟨r.b,r.o+off,none⟩∧off+cap*sz≤r.ext)→
   VR μ M (.sl id off len sz) (.slice (some a) len cap)
 |tsl (cs:List AV) (len cap:Nat) (a:Addr) (vs:Nat→Value):len≤cap→(0<len∨cs≠[]→a.spot=none)→(∀i c,cs[i]?=some c→M a.block (a.off+i)=some (vs i))→
   (∀i c,cs[i]?=some c→VR μ M c (vs i))→VR μ M (.tsl cs len) (.slice (some a) len cap)
 |map (id:Nat) (r:Rng):μ id=some r→VR μ M (.map id) (.map (some r.b))
 |fn (f:Nat) (first cap:List AV) (fv cv:Array Value):first.length=fv.size→cap.length=cv.size→
   (∀(i:Nat) a v,first[i]?=some a→fv[i]?=some v→VR μ M a v)→(∀(i:Nat) a v,cap[i]?=some a→cv[i]?=some v→VR μ M a v)→
   VR μ M (.fn f first cap) (.func (.func f) fv cv)
 |agg (cs:List AV) (vs:Array Value):cs.length=vs.size→(∀(i:Nat) a v,cs[i]?=some a→vs[i]?=some v→VR μ M a v)→VR μ M (.agg cs) (.agg vs)
 |tup (cs:List AV) (vs:Array Value):cs.length=vs.size→(∀(i:Nat) a v,cs[i]?=some a→vs[i]?=some v→VR μ M a v)→VR μ M (.tup cs) (.tuple vs)
 |ifc (t:Nat) (a:AV) (v:Value):VR μ M a v→VR μ M (.ifc t a) (.iface t v)
def Mu.le (μ μ':Mu):Prop:=∀id r,μ id=some r→μ' id=some r
def Mem.le (M M':Mem):Prop:=∀b o v,M b o=some v→M' b o=some v
theorem Mu.le.refl(μ:Mu):μ.le μ:=fun _ _ h=>h
theorem Mem.le.refl(M:Mem):M.le M:=fun _ _ _ h=>h
theorem Mu.le.trans{a b c:Mu}(h:a.le b)(k:b.le c):a.le c:=fun _ _ e=>k _ _ (h _ _ e)
theorem Mem.le.trans{a b c:Mem}(h:a.le b)(k:b.le c):a.le c:=fun _ _ _ e=>k _ _ _ (h _ _ _ e)
theorem VR.mono(hμ:μ.le μ')(hM:M.le M'){a:AV}{v:Value}(h:VR μ M a v):VR μ' M' a v:=by
 induction h with
 |bool b=>exact .bool b
 |int k n=>exact .int k n
 |str s=>exact .str s
 |nilptr=>exact .nilptr
 |nilsl=>exact .nilsl
 |nilfn=>exact .nilfn
 |nilmap=>exact .nilmap
 |nilifc=>exact .nilifc
 |ptr id off r h=>exact .ptr id off r (hμ _ _ h)
 |tptr cs off b o vs h1 _ ih=>exact .tptr cs off b o vs (fun i a e=>hM _ _ _ (h1 i a e)) ih
 |sl id off len sz cap r a h1 h2 h3=>exact .sl id off len sz cap r a (hμ _ _ h1) h2 h3
 |tsl cs len cap a vs h1 h2 h3 _ ih=>exact .tsl cs len cap a vs h1 h2 (fun i a e=>hM _ _ _ (h3 i a e)) ih
 |map id r h=>exact .map id r (hμ _ _ h)
 |fn f a b fv cv h1 h2 _ _ ih1 ih2=>exact .fn f a b fv cv h1 h2 ih1 ih2
 |agg cs vs h1 _ ih=>exact .agg cs vs h1 ih
 |tup cs vs h1 _ ih=>exact .tup cs vs h1 ih
 |ifc t a v _ ih=>exact .ifc t a v ih
def VRs (μ:Mu) (M:Mem) (cs:List AV) (vs:List Value):Prop:=cs.length=vs.length∧∀(i:Nat) a v,cs[i]?=some a→vs[i]?=some v→VR μ M a v
theorem VRs.mono(hμ:μ.le μ')(hM:M.le M')(h:VRs μ M a v):VRs μ' M' a v:=
 ⟨h.1,fun i a v ha hv=>(h.2 i a v ha hv).mono hμ hM⟩
theorem VRs.nil:VRs μ M [] []:=⟨rfl,by simp⟩
theorem VRs.cons{a:AV}{v:Value}{r:List Value}(h:VR μ M a v)(hr:VRs μ M l r):VRs μ M (a::l) (v::r):=by
 refine⟨by simp[hr.1],?_⟩;intro i x y hx hy;cases i with
 |zero=>simp at hx hy;subst hx hy;exact h
 |succ i=>simp at hx hy;exact hr.2 i x y hx hy
theorem VRs.cons_iff{a:AV}{v:Value}{r:List Value}:VRs μ M (a::l) (v::r)↔VR μ M a v∧VRs μ M l r:=by
 constructor
 ·intro h;refine⟨h.2 0 a v rfl rfl,by simpa using h.1,fun i x y hx hy=>h.2 (i+1) x y (by simpa using hx) (by simpa using hy)⟩
 ·exact fun h=> .cons h.1 h.2
theorem VRs.append{b:List AV}{u:List Value}(h:VRs μ M a v)(k:VRs μ M b u):VRs μ M (a++b) (v++u):=by
 refine⟨by simp[h.1,k.1],?_⟩;intro i x y hx hy;rw[getElem?_append]at hx hy;rw[h.1]at hx;split at hx
 ·rename_i hlt;rw[if_pos hlt]at hy;exact h.2 i x y hx hy
 ·rename_i hlt;rw[if_neg hlt]at hy;exact k.2 _ x y hx hy
theorem VRs.take(n:Nat)(h:VRs μ M a v):VRs μ M (a.take n) (v.take n):=by
 refine⟨by simp[h.1],?_⟩;intro i x y hx hy;rw[getElem?_take]at hx hy;split at hx
 ·rename_i hlt;rw[if_pos hlt]at hy;exact h.2 i x y hx hy
 ·cases hx
theorem VRs.drop(n:Nat)(h:VRs μ M a v):VRs μ M (a.drop n) (v.drop n):=by
 refine⟨by simp[h.1],?_⟩;intro i x y hx hy;rw[getElem?_drop]at hx hy;exact h.2 _ x y hx hy
theorem VRs.get(h:VRs μ M a v){i:Nat}{x:AV}(hx:a[i]?=some x):∃y,v[i]?=some y∧VR μ M x y:=by
 have hlt:i<a.length:=(Zi.1 hx).1;have hlt':i<v.length:=h.1▸hlt;exact⟨v[i],Zg hlt',h.2 i x _ hx (Zg hlt')⟩
theorem VR.cells{a:AV}{v:Value}(h:VR μ M a v):VRs μ M a.cells v.cells.toList:=by
 have one:∀{a:AV} {v:Value},VR μ M a v→VRs μ M [a] [v]:=fun h=> .cons h .nil;cases h with
 |agg cs vs h1 h2=>exact⟨by simpa[AV.cells,Value.cells]using h1,fun i x y hx hy=>h2 i x y hx (by simpa[Value.cells]using hy)⟩
 |bool b=>exact one (.bool b)
 |int k n=>exact one (.int k n)
 |str s=>exact one (.str s)
 |nilptr=>exact one .nilptr
 |nilsl=>exact one .nilsl
 |nilfn=>exact one .nilfn
 |nilmap=>exact one .nilmap
 |nilifc=>exact one .nilifc
 |ptr id off r h=>exact one (.ptr id off r h)
 |tptr cs off b o vs h1 h2=>exact one (.tptr cs off b o vs h1 h2)
 |sl id off len sz cap r a h1 h2 h3=>exact one (.sl id off len sz cap r a h1 h2 h3)
 |tsl cs len cap a vs h1 h2 h3 h4=>exact one (.tsl cs len cap a vs h1 h2 h3 h4)
 |map id r h=>exact one (.map id r h)
 |fn f a b fv cv h1 h2 h3 h4=>exact one (.fn f a b fv cv h1 h2 h3 h4)
 |tup cs vs h1 h2=>exact one (.tup cs vs h1 h2)
 |ifc t a v h=>exact one (.ifc t a v h)
theorem VR.one{a:AV}{v:Value}(h:VR μ M a v)(ho:a.one=true):v.oneCell'=true:=by
 cases h<;>first|rfl|(simp[AV.one]at ho)
theorem VR.agg'{vs:List Value}(h:VRs μ M cs vs):VR μ M (.agg cs) (.agg vs.toArray):=
 .agg cs vs.toArray (by simpa using h.1) (fun i a v ha hv=>h.2 i a v ha (by simpa using hv))
theorem VRs.all_one{vs:List Value}(h:VRs μ M cs vs)(ho:cs.all AV.one=true):∀v∈vs,v.oneCell'=true:=by
 intro v hv;obtain⟨i,hi,rfl⟩:=getElem_of_mem hv;have hi':i<cs.length:=h.1▸hi;refine(h.2 i cs[i] _ (Zg hi') (Zg hi)).one ?_;rw[all_eq_true]at ho;exact ho _ (getElem_mem hi')
structure KeptAt (w w':World) (r:Rng):Prop where
 cell:∀o,r.has r.b o→w'.cell? ⟨r.b,o,none⟩=w.cell? ⟨r.b,o,none⟩
 frozen:∀o,r.has r.b o→w'.frozen? ⟨r.b,o,none⟩=w.frozen? ⟨r.b,o,none⟩
 obj:r.has r.b 0→∀en cl,w.heap[r.b]?=some (.map en cl)→w'.heap[r.b]?=some (.map en cl)
structure Anchor where
 w:World
 fs:Rng→Prop
 wf:World
variable {w0:Anchor}
def ObjR (μ:Mu) (M:Mem) (w:World) (r:Rng):AObj→Prop
 |.cells cs=>cs.length≤r.ext∧(∀j,j<r.ext→(w.cell? ⟨r.b,r.o+j,none⟩).isSome=true∧w.frozen? ⟨r.b,r.o+j,none⟩=false) ∧
   ∀i a,cs[i]?=some a→∃v,w.cell? ⟨r.b,r.o+i,none⟩=some v∧VR μ M a v
 |.map es=>r.o=0∧r.ext=1∧∃entries clock,w.heap[r.b]?=some (.map entries clock)∧es.length=entries.size ∧
   ∀(i:Nat) e x,es[i]?=some e→entries[i]?=some x→VR μ M e.1 x.key∧VR μ M e.2 x.val
def Ymf (w:World) (b:Nat):Prop:=∀c t lo hi,w.heap[b]?=some (.cells c t (lo,hi))→lo=hi∨c.size≤lo
structure SR (B:Nat) (w0:Anchor) (μ:Mu) (M:Mem) (h:Ya) (w:World):Prop where
 below:Below B w0.w w
 mem:∀b o v,M b o=some v→w.cell? ⟨b,o,none⟩=some v
 live:∀id obj,h id=some obj→∃r,μ id=some r∧B≤r.b∧r.b<w.heap.size∧ObjR μ M w r obj
 apart:∀i j ri rj,i≠j→h i≠none→h j≠none→μ i=some ri→μ j=some rj→ri.apart rj
 memApart:∀id r b o,h id≠none→μ id=some r→M b o≠none→¬r.has b o
 kept:∀r,w0.fs r→KeptAt w0.wf w r
 fsBlock:∀r,w0.fs r→r.b<w.heap.size
 fsApart:∀r,w0.fs r→∀id q,h id≠none→μ id=some q→r.apart q
 fsMem:∀r,w0.fs r→∀b o,M b o≠none→¬r.has b o
 /- no cell of a block of our own is frozen; what must stay holds cells, or is a map -/
 clean:∀b,B≤b→Ymf w b
 fsCell:∀r,w0.fs r→∀o,r.has r.b o→(w0.wf.cell? ⟨r.b,o,none⟩).isSome=true∨∃en cl,w0.wf.heap[r.b]?=some (.map en cl)∧o=0
theorem KeptAt.trans{a b c:World}(h:KeptAt a b r)(k:KeptAt b c r):KeptAt a c r:=
 ⟨fun o ho=>(k.cell o ho).trans (h.cell o ho),fun o ho=>(k.frozen o ho).trans (h.frozen o ho),fun h0 en cl he=>k.obj h0 en cl (h.obj h0 en cl he)⟩
theorem ObjR.mono(hμ:μ.le μ')(hM:M.le M'):∀{o:AObj},ObjR μ M w r o→ObjR μ' M' w r o
 |.cells _,⟨h1,h2,h3⟩=>⟨h1,h2,fun i a ha=>let⟨v,hv,hr⟩:=h3 i a ha;⟨v,hv,hr.mono hμ hM⟩⟩
 |.map _,⟨h1,h2,en,cl,h3,h4,h5⟩=>⟨h1,h2,en,cl,h3,h4,fun i e x he hx=>let⟨a,b⟩:=h5 i e x he hx;⟨a.mono hμ hM,b.mono hμ hM⟩⟩
theorem ObjR.kept(k:KeptAt w w' r):∀{o:AObj},ObjR μ M w r o→ObjR μ M w' r o
 |.cells cs,⟨h1,h2,h3⟩=>by
  refine⟨h1,fun j hj=>?_,fun i a ha=>?_⟩
  ·rw[k.cell _ ⟨rfl,by omega,by omega⟩,k.frozen _ ⟨rfl,by omega,by omega⟩];exact h2 j hj
  ·have hi:i<cs.length:=(Zi.1 ha).1;rw[k.cell _ ⟨rfl,by omega,by omega⟩];exact h3 i a ha
 |.map _,⟨h1,h2,en,cl,h3,h4,h5⟩=>⟨h1,h2,en,cl,k.obj ⟨rfl,by omega,by omega⟩ _ _ h3,h4,h5⟩
theorem KeptAt.of_block(h:w'.heap[r.b]?=w.heap[r.b]?):KeptAt w w' r:=
 ⟨fun _ _=>by simp[World.cell?,h],fun _ _=>by simp[World.frozen?,h],fun _ _ _ he=>h.trans he⟩
theorem SR.sub{h':Ya}(s:SR B w0 μ M h w)(hs:∀id o,h' id=some o→h id=some o):SR B w0 μ M h' w:=by
 have hne:∀id,h' id≠none→h id≠none:=fun id hid=>by
  cases he:h' id with
  |none=>exact absurd he hid
  |some o=>rw[hs id o he];simp
 exact⟨s.below,s.mem,fun id o ho=>s.live id o (hs id o ho),fun i j ri rj hij hi hj=>s.apart i j ri rj hij (hne i hi) (hne j hj),
  fun id r b o hid=>s.memApart id r b o (hne id hid),s.kept,s.fsBlock,fun r hr id q hid=>s.fsApart r hr id q (hne id hid),s.fsMem,s.clean,s.fsCell⟩
theorem SR.grow(s:SR B w0 μ M h w)(hb:Below w.heap.size w w')(hB:B≤w.heap.size)
  (hc:∀b,w.heap.size≤b→Ymf w' b):SR B w0 μ M h w':=by
 refine⟨s.below.trans (hb.mono hB),?_,?_,s.apart,s.memApart,fun r hr=>(s.kept r hr).trans (.of_block (hb.block r.b (s.fsBlock r hr))),fun r hr=>Nat.lt_of_lt_of_le (s.fsBlock r hr) hb.size,s.fsApart,s.fsMem,?_,s.fsCell⟩
 ·intro b o v hv;have hc:=s.mem b o v hv;have hlt:b<w.heap.size:=World.block_lt_of_cell? w ⟨b,o,none⟩ hc;rw[←hc];simp[World.cell?,hb.block b hlt]
 ·intro id obj ho;obtain⟨r,h1,h2,h3,h4⟩:=s.live id obj ho;exact⟨r,h1,h2,Nat.lt_of_lt_of_le h3 hb.size,h4.kept (.of_block (hb.block r.b h3))⟩
 ·intro b hb0;rcases Nat.lt_or_ge b w.heap.size with hlt|hge
  ·intro c t lo hi e;rw[hb.block b hlt]at e;exact s.clean b hb0 c t lo hi e
  ·exact hc b hge
theorem SR.le_size(s:SR B w0 μ M h w)(hB:B≤w0.w.heap.size):B≤w.heap.size:=Nat.le_trans hB s.below.size
theorem SR.add(s:SR B w0 μ M h w)(hB:B≤w.heap.size)(hb:Below w.heap.size w w')
  (hc:∀b,w.heap.size≤b→Ymf w' b)
  (id:Nat)(hid:μ id=none)(r:Rng)(hr:r.b=w.heap.size)(hlt:r.b<w'.heap.size)(obj:AObj)(ho:ObjR (upd μ id (some r)) M w' r obj) :
  SR B w0 (upd μ id (some r)) M (upd h id (some obj)) w':=by
 have hle:μ.le (upd μ id (some r)):=fun j q hj=>by
  unfold upd;by_cases e:j=id
  ·rw[e,hid]at hj;cases hj
  ·rw[if_neg e];exact hj
 have s':=s.grow hb hB hc;have hsep:∀j q,j≠id→h j≠none→μ j=some q→q.b<w.heap.size:=fun j q _ hj hq=>by
  cases he:h j with
  |none=>exact absurd he hj
  |some o=>
   obtain⟨q',h1,_,h3,_⟩:=s.live j o he;rw[hq]at h1;cases h1;exact h3
 refine⟨s'.below,s'.mem,?_,?_,?_,s'.kept,s'.fsBlock,?_,s'.fsMem,s'.clean,s'.fsCell⟩;rotate_left 3
 ·intro q hq j rj hj hrj;unfold upd at hj hrj;by_cases e:j=id
  ·rw[if_pos e]at hrj;cases hrj;have:=s.fsBlock q hq;rintro b o ⟨⟨hb1,_⟩,⟨hb2,_⟩⟩;omega
  ·rw[if_neg e]at hj hrj;exact s.fsApart q hq j rj hj hrj
 ·intro j o hj;unfold upd at hj;by_cases e:j=id
  ·rw[if_pos e]at hj;cases hj;exact⟨r,by simp[upd,e],by omega,hlt,ho⟩
  ·rw[if_neg e]at hj;obtain⟨q,h1,h2,h3,h4⟩:=s'.live j o hj;exact⟨q,hle _ _ h1,h2,h3,h4.mono hle (.refl _)⟩
 ·intro i j ri rj hij hi hj hri hrj;unfold upd at hi hj hri hrj;by_cases ei:i=id
  ·rw[if_pos ei]at hri;cases hri;by_cases ej:j=id
   ·exact absurd (ei.trans ej.symm) hij
   ·rw[if_neg ej]at hj hrj;have:=hsep j rj ej hj hrj;rintro b o ⟨⟨hb1,_⟩,⟨hb2,_⟩⟩;omega
  ·rw[if_neg ei]at hi hri;by_cases ej:j=id
   ·rw[if_pos ej]at hrj;cases hrj;have:=hsep i ri ei hi hri;rintro b o ⟨⟨hb1,_⟩,⟨hb2,_⟩⟩;omega
   ·rw[if_neg ej]at hj hrj;exact s.apart i j ri rj hij hi hj hri hrj
 ·intro j q b o hj hq hm;unfold upd at hj hq;by_cases e:j=id
  ·rw[if_pos e]at hq;cases hq;rintro⟨hb1,_⟩;cases hm':M b o with
   |none=>exact hm hm'
   |some v=>
    have hc:=s.mem b o v hm';have:b<w.heap.size:=World.block_lt_of_cell? w ⟨b,o,none⟩ hc;omega
  ·rw[if_neg e]at hj hq;exact s.memApart j q b o hj hq hm
theorem Ydv(hid:μ id=none)(r:Option Rng):μ.le (upd μ id r):=fun j q hj=>by
 unfold upd;by_cases e:j=id
 ·rw[e,hid]at hj;cases hj
 ·rw[if_neg e];exact hj
theorem SR.fsNow(s:SR B w0 μ M h w)(hr:w0.fs r)(ho:r.has r.b o) :
  (w.cell? ⟨r.b,o,none⟩).isSome=true∨∃en cl,w.heap[r.b]?=some (.map en cl)∧o=0:=by
 have k:=s.kept r hr;rcases s.fsCell r hr o ho with h1|⟨en,cl,h1,rfl⟩
 ·left;rw[k.cell o ho];exact h1
 ·right;exact⟨en,cl,k.obj ho en cl h1,rfl⟩
theorem SR.liveNow(s:SR B w0 μ M h w)(hid:h id≠none)(hr:μ id=some r)(ho:r.has r.b o) :
  (w.cell? ⟨r.b,o,none⟩).isSome=true∨∃en cl,w.heap[r.b]?=some (.map en cl)∧o=0:=by
 cases he:h id with
 |none=>exact absurd he hid
 |some obj=>
  obtain⟨q,q1,_,_,q4⟩:=s.live id obj he;rw[hr]at q1;cases q1;cases obj with
  |cells cs=>
   left;obtain⟨_,h2,_⟩:=q4;have:=(h2 (o-r.o) (by have:=ho.2;omega)).1;rwa[show r.o+(o-r.o)=o by have:=ho.2;omega]at this
  |map es=>
   right;obtain⟨h1,h2,en,cl,h3,_⟩:=q4;exact⟨en,cl,h3,by have:=ho.2;omega⟩
theorem Yjf(w:World)(a:Addr)(v:Value)(k:Nat)(h:k≠a.block):(w.setCell a v).heap[k]?=w.heap[k]?:=by
 simp only[World.setCell,Array.getElem?_modify];rw[if_neg (fun e=>h e.symm)]
theorem Yh7(w:World)(a:Addr)(v:Value)(k:Nat){en:Array MapEntry}{cl:Nat}(h:w.heap[k]?=some (.map en cl)):(w.setCell a v).heap[k]?=some (.map en cl):=by
 simp only[World.setCell,Array.getElem?_modify,h];split<;>simp
theorem Ycu(b:Nat):∀(vs:List Value) (o:Nat) (w:World) (k:Nat) {en:Array MapEntry} {cl:Nat},w.heap[k]?=some (.map en cl)→(w.setCells b o vs).heap[k]?=some (.map en cl)
 |[],_,_,_,_,_,h=>h
 |v::r,o,w,k,_,_,h=>by rw[World.setCells];exact Ycu b r _ _ k (Yh7 _ _ _ k h)
theorem Q3(b:Nat):∀(vs:List Value) (o:Nat) (w:World),(w.setCells b o vs).heap.size=w.heap.size
 |[],_,_=>rfl
 |v::r,o,w=>by rw[World.setCells,Q3 b r,World.size_setCell]
theorem Ycc(hB:B≤b):∀(vs:List Value) (o:Nat) (w:World),Below B w (w.setCells b o vs)
 |[],_,w=>Below.refl B w
 |v::r,o,w=>by
  rw[World.setCells];refine Below.trans (b:=w.setCell ⟨b,o,none⟩ v) ⟨rfl,rfl,rfl,?_,?_⟩ (Ycc hB r _ _)
  ·rw[World.size_setCell];exact Zl _
  ·intro k hk;exact Yjf _ _ _ k (by simp;omega)
theorem Jo{vs:List Value}(h:∀x,r.has b x→¬(o≤x∧x<o+vs.length)):KeptAt w (w.setCells b o vs) r:=by
 refine⟨fun x hx=>?_,fun x hx=>World.frozen?_setCells b vs o w _,fun _ en cl he=>Ycu b vs o w r.b he⟩;refine World.cell?_setCells_out b vs o w ⟨r.b,x,none⟩ (fun h1 _=>?_);simp only at h1;have:=h x (h1▸hx);simp only;omega
theorem SR.cellsOf(s:SR B w0 μ M h w)(hid:h id=some (.cells cs)) :
  ∃r,μ id=some r∧B≤r.b∧r.b<w.heap.size∧cs.length≤r.ext∧(∀j,j<r.ext→(w.cell? ⟨r.b,r.o+j,none⟩).isSome=true∧w.frozen? ⟨r.b,r.o+j,none⟩=false) ∧
   ∃vs:List Value,VRs μ M cs vs∧∀i v,vs[i]?=some v→w.cell? ⟨r.b,r.o+i,none⟩=some v:=by
 obtain⟨r,h1,h2,h3,h4,h5,h6⟩:=s.live id _ hid;refine⟨r,h1,h2,h3,h4,h5,(List.range cs.length).map (fun i=>(w.cell? ⟨r.b,r.o+i,none⟩).getD undef),⟨by simp,?_⟩,?_⟩
 ·intro i a v ha hv;obtain⟨u,hu,hr⟩:=h6 i a ha;have hi:i<cs.length:=(Zi.1 ha).1;simp[hi,hu]at hv;exact hv▸hr
 ·intro i v hv;rw[getElem?_map]at hv;by_cases hi:i<cs.length
  ·simp[hi]at hv;obtain⟨u,hu,_⟩:=h6 i _ (Zg hi);rw[hu]at hv ⊢;simpa using hv
  ·simp[hi]at hv
theorem Ye1{l r:List α}{i:Nat}{a:α}(h:Yp l off n=some r)(hi:r[i]?=some a):l[off+i]?=some a:=by
 unfold Yp at h;by_cases c:off+n≤l.length
 ·rw[if_pos c]at h;simp only[Zs]at h;subst h;rw[getElem?_take]at hi;by_cases c2:i<n
  ·rw[if_pos c2,getElem?_drop]at hi;exact hi
  ·rw[if_neg c2]at hi;cases hi
 ·rw[if_neg c]at h;cases h
theorem Jb{l r:List α}(h:Yp l off n=some r):r.length=n∧off+n≤l.length:=by
 unfold Yp at h;by_cases c:off+n≤l.length
 ·rw[if_pos c]at h;simp only[Zs]at h;subst h;exact⟨by simp;omega,c⟩
 ·rw[if_neg c]at h;cases h
theorem Ye0{r:List AV}{vs:List Value}(h:Yp l off n=some r)(hv:VRs μ M l vs):VRs μ M r ((vs.drop off).take n):=by
 unfold Yp at h;by_cases c:off+n≤l.length
 ·rw[if_pos c]at h;simp only[Zs]at h;subst h;exact(hv.drop off).take n
 ·rw[if_neg c]at h;cases h
theorem Ygm{b0:Nat}:∀{vs:List Value} {o0:Nat} {w:World} {b:Nat} {c':Array Value} {t:TypeId} {f:Nat×Nat},(w.setCells b0 o0 vs).heap[b]?=some (.cells c' t f)→∃c,w.heap[b]?=some (.cells c t f)∧c.size=c'.size
 |[],o0,w,b,c',t,f,h=>⟨c',h,rfl⟩
 |v::vs,o0,w,b,c',t,f,h=>by
  obtain⟨c,h1,h2⟩:=Ygm (vs:=vs) h;simp only[World.setCell,Array.getElem?_modify]at h1;split at h1
  ·rename_i e;subst e;cases hw:w.heap[b0]? with
   |none=>rw[hw]at h1;cases h1
   |some o=>
    rw[hw]at h1;cases o with
    |cells c0 t0 f0=>
     simp only[Option.map_some,Zs,Obj.cells.injEq]at h1;obtain⟨rfl,rfl,rfl⟩:=h1;refine⟨c0,rfl,?_⟩;rw[←h2];split<;>simp
    |_=>simp at h1
  ·exact⟨c,h1,h2⟩
theorem SR.clean_set(s:SR B w0 μ M h w){b0 o0:Nat}{vs:List Value}:∀b,B≤b→Ymf (w.setCells b0 o0 vs) b:=by
 intro b hb c t lo hi e;obtain⟨c0,h1,h2⟩:=Ygm e;have:=s.clean b hb c0 t lo hi h1;omega
theorem Y9{x:Option α}{a:α}(h:x=some a):x≠none:=by rw[h];simp
theorem SR.write(s:SR B w0 μ M h w)(hid:h id=some (.cells cs))(hr:μ id=some r)
 {vs:List Value}(ha:VRs μ M as vs)(hoff:off+as.length≤cs.length) :
  SR B w0 μ M (upd h id (some (.cells (cs.take off++as++cs.drop (off+as.length))))) (w.setCells r.b (r.o+off) vs):=by
 obtain⟨r',h1,h2,h3,h4,h5,vs0,h6,h7⟩:=s.cellsOf hid;rw[hr]at h1;cases h1;have hl:=ha.1;have hne:∀j,upd h id (some (.cells (cs.take off++as++cs.drop (off+as.length)))) j≠none→h j≠none:=fun j hj=>by
  unfold upd at hj;by_cases e:j=id
  ·rw[e,hid];simp
  ·rwa[if_neg e]at hj
 refine⟨s.below.trans (Ycc h2 _ _ _),?_,?_,?_,?_,fun q hq=>(s.kept q hq).trans (Jo fun x hx hin=>s.fsApart q hq id r (Y9 hid) hr r.b x ⟨hx,⟨rfl,by omega,by omega⟩⟩),
  fun q hq=>by rw[Q3];exact s.fsBlock q hq,fun q hq j rj hj=>s.fsApart q hq j rj (hne j hj),s.fsMem,s.clean_set,s.fsCell⟩
 ·intro b o v hv;rw[World.cell?_setCells_out r.b vs _ w ⟨b,o,none⟩ (fun hb _=>?_)]
  ·exact s.mem b o v hv
  ·have:=s.memApart id r b o (Y9 hid) hr (Y9 hv);simp only[Rng.has]at this;simp only at hb ⊢;omega
 ·intro j obj hj;unfold upd at hj;by_cases e:j=id
  ·rw[if_pos e]at hj;cases hj;subst e;refine⟨r,hr,h2,by rw[Q3];exact h3,?_,?_,?_⟩
   ·simp;omega
   ·intro k hk;rw[World.frozen?_setCells];refine⟨?_,(h5 k hk).2⟩;by_cases hin:off≤k∧k<off+vs.length
    ·have:=World.cell?_setCells_in r.b vs (r.o+off) w (fun j hj=>by
      have:=(h5 (off+j) (by omega)).1;rwa[←Nat.add_assoc]at this) (k-off) (by omega)
     rw[show r.o+k=r.o+off+(k-off) by omega,this];rfl
    ·rw[World.cell?_setCells_out r.b vs _ w _ (fun _ _=>by simp only;omega)];exact(h5 k hk).1
   ·intro i a hia;by_cases hin:off≤i∧i<off+vs.length
    ·have hget:=World.cell?_setCells_in r.b vs (r.o+off) w (fun j hj=>by
      have:=(h5 (off+j) (by omega)).1;rwa[←Nat.add_assoc]at this) (i-off) (by omega)
     refine⟨_,by rw[show r.o+i=r.o+off+(i-off) by omega];exact hget,?_⟩;have hia':as[i-off]?=some a:=by
      rw[append_assoc,getElem?_append_right (by simp;omega),getElem?_append_left (by simp;omega)]at hia;simpa[show min off cs.length=off by omega]using hia
     exact ha.2 _ a _ hia' (Zg (by omega))
    ·have hia':cs[i]?=some a:=by
      rcases Nat.lt_or_ge i off with hlt|hge
      ·rw[append_assoc,getElem?_append_left (by simp;omega),getElem?_take,if_pos hlt]at hia;exact hia
      ·rw[getElem?_append_right (by simp;omega),getElem?_drop]at hia;simp only[length_append,length_take]at hia;rw[show off+as.length+(i-(min off cs.length+as.length))=i by omega]at hia;exact hia
     obtain⟨u,hu,hru⟩:=h6.get hia';refine⟨u,?_,hru⟩;rw[World.cell?_setCells_out r.b vs _ w _ (fun _ _=>by simp only;omega)];exact h7 i u hu
  ·rw[if_neg e]at hj;obtain⟨q,q1,q2,q3,q4⟩:=s.live j obj hj;refine⟨q,q1,q2,by rw[Q3];exact q3,q4.kept (Jo fun x hx hin=>?_)⟩;exact s.apart j id q r e (Y9 hj) (Y9 hid) q1 hr r.b x ⟨hx,⟨rfl,by omega,by omega⟩⟩
 ·intro i j ri rj hij hi hj hri hrj;refine s.apart i j ri rj hij ?_ ?_ hri hrj
  ·unfold upd at hi;by_cases e:i=id
   ·rw[e,hid];simp
   ·rwa[if_neg e]at hi
  ·unfold upd at hj;by_cases e:j=id
   ·rw[e,hid];simp
   ·rwa[if_neg e]at hj
 ·intro j q b o hj hq hm;refine s.memApart j q b o ?_ hq hm;unfold upd at hj;by_cases e:j=id
  ·rw[e,hid];simp
  ·rwa[if_neg e]at hj
theorem SR.inplace(s:SR B w0 μ M h w){old:List AV}(hid:h id=some (.cells cs))(hr:μ id=some r)
  (hn:μ n=none)(hold:Yp cs off old.length=some old){vs:List Value}(ha:VRs μ M as vs)(hoff:off+(old.length+as.length)≤r.ext) :
  SR B w0 (upd μ n (some ⟨r.b,r.o+off,r.ext-off⟩)) M (upd (upd h id none) n (some (.cells (old++as)))) (w.setCells r.b (r.o+(off+old.length)) vs):=by
 obtain⟨r',h1,h2,h3,h4,h5,vs0,h6,h7⟩:=s.cellsOf hid;rw[hr]at h1;cases h1;have hl:=ha.1;have hle:=Ydv hn (some ⟨r.b,r.o+off,r.ext-off⟩);have hnid:n≠id:=fun e=>by rw[e,hr]at hn;cases hn
 have hlive:∀j,j≠n→(upd (upd h id none) n (some (.cells (old++as)))) j≠none→j≠id∧h j≠none:=by
  intro j hj hne;unfold upd at hne;rw[if_neg hj]at hne;by_cases e:j=id
  ·rw[if_pos e]at hne;exact absurd rfl hne
  ·rw[if_neg e]at hne;exact⟨e,hne⟩
 have hsub:∀b x,(⟨r.b,r.o+off,r.ext-off⟩:Rng).has b x→r.has b x:=by
  rintro b x ⟨e1,e2,e3⟩;simp only at e1 e2 e3;exact⟨e1,by omega,by omega⟩
 refine⟨s.below.trans (Ycc h2 _ _ _),?_,?_,?_,?_,fun q hq=>(s.kept q hq).trans (Jo fun x hx hin=>s.fsApart q hq id r (Y9 hid) hr r.b x ⟨hx,⟨rfl,by omega,by omega⟩⟩),
  fun q hq=>by rw[Q3];exact s.fsBlock q hq,?_,s.fsMem,s.clean_set,s.fsCell⟩
 rotate_left 4
 ·intro q hq j rj hj hrj;by_cases e:j=n
  ·have hrj':rj=⟨r.b,r.o+off,r.ext-off⟩:=by simpa[upd,e]using hrj.symm
   rintro b x ⟨hx,hy⟩;exact s.fsApart q hq id r (Y9 hid) hr b x ⟨hx,hsub b x (hrj'▸hy)⟩
  ·obtain⟨e2,hne⟩:=hlive j e hj;have hrj':μ j=some rj:=by unfold upd at hrj;rwa[if_neg e]at hrj
   exact s.fsApart q hq j rj hne hrj'
 ·intro b o v hv;rw[World.cell?_setCells_out r.b vs _ w ⟨b,o,none⟩ (fun hb _=>?_)]
  ·exact s.mem b o v hv
  ·have:=s.memApart id r b o (Y9 hid) hr (Y9 hv);simp only[Rng.has]at this;simp only at hb ⊢;omega
 ·intro j obj hj;by_cases e:j=n
  ·unfold upd at hj;rw[if_pos e]at hj;cases hj;refine⟨⟨r.b,r.o+off,r.ext-off⟩,by simp[upd,e],h2,by rw[Q3];exact h3,?_,?_,?_⟩
   ·simp;omega
   ·intro k hk;simp only at hk ⊢;rw[World.frozen?_setCells];refine⟨?_,by have:=(h5 (off+k) (by omega)).2;rwa[←Nat.add_assoc]at this⟩;by_cases hin:old.length≤k∧k<old.length+vs.length
    ·have:=World.cell?_setCells_in r.b vs (r.o+(off+old.length)) w (fun j hj=>by
      have:=(h5 (off+old.length+j) (by omega)).1;rwa[←Nat.add_assoc]at this) (k-old.length) (by omega)
     rw[show r.o+off+k=r.o+(off+old.length)+(k-old.length) by omega,this];rfl
    ·rw[World.cell?_setCells_out r.b vs _ w _ (fun _ _=>by simp only;omega)];have:=(h5 (off+k) (by omega)).1;rwa[←Nat.add_assoc]at this
   ·intro i a hia;simp only;rcases Nat.lt_or_ge i old.length with hlt|hge
    ·rw[getElem?_append_left hlt]at hia;have hcs:cs[off+i]?=some a:=Ye1 hold hia;obtain⟨u,hu,hru⟩:=h6.get hcs;refine⟨u,?_,hru.mono hle (.refl _)⟩;rw[World.cell?_setCells_out r.b vs _ w _ (fun _ _=>by simp only;omega),Nat.add_assoc];exact h7 _ u hu
    ·rw[getElem?_append_right hge]at hia;have hi:i-old.length<as.length:=(Zi.1 hia).1;have hget:=World.cell?_setCells_in r.b vs (r.o+(off+old.length)) w (fun j hj=>by
      have:=(h5 (off+old.length+j) (by omega)).1;rwa[←Nat.add_assoc]at this) (i-old.length) (by omega)
     refine⟨_,by rw[show r.o+off+i=r.o+(off+old.length)+(i-old.length) by omega];exact hget,?_⟩;exact(ha.2 _ a _ hia (Zg (by omega))).mono hle (.refl _)
  ·obtain⟨e2,hne⟩:=hlive j e (Y9 hj);unfold upd at hj;rw[if_neg e,if_neg e2]at hj;obtain⟨q,q1,q2,q3,q4⟩:=s.live j obj hj;refine⟨q,hle _ _ q1,q2,by rw[Q3];exact q3,(q4.kept (Jo fun x hx hin=>?_)).mono hle (.refl _)⟩;exact s.apart j id q r e2 (Y9 hj) (Y9 hid) q1 hr r.b x ⟨hx,⟨rfl,by omega,by omega⟩⟩
 ·intro i j ri rj hij hi hj hri hrj;by_cases ei:i=n
  ·have hri':ri=⟨r.b,r.o+off,r.ext-off⟩:=by simpa[upd,ei]using hri.symm
   have ej:j≠n:=fun e=>hij (ei.trans e.symm);obtain⟨e2,hne⟩:=hlive j ej hj;have hrj':μ j=some rj:=by unfold upd at hrj;rwa[if_neg ej]at hrj
   rintro b x ⟨hx,hy⟩;exact s.apart id j r rj (fun e=>e2 e.symm) (Y9 hid) hne hr hrj' b x ⟨hsub b x (hri'▸hx),hy⟩
  ·obtain⟨e2,hne⟩:=hlive i ei hi;have hri':μ i=some ri:=by unfold upd at hri;rwa[if_neg ei]at hri
   by_cases ej:j=n
   ·have hrj':rj=⟨r.b,r.o+off,r.ext-off⟩:=by simpa[upd,ej]using hrj.symm
    rintro b x ⟨hx,hy⟩;exact s.apart i id ri r e2 hne (Y9 hid) hri' hr b x ⟨hx,hsub b x (hrj'▸hy)⟩
   ·obtain⟨e3,hne'⟩:=hlive j ej hj;have hrj':μ j=some rj:=by unfold upd at hrj;rwa[if_neg ej]at hrj
    exact s.apart i j ri rj hij hne hne' hri' hrj'
 ·intro j q b o hj hq hm;by_cases e:j=n
  ·have hq':q=⟨r.b,r.o+off,r.ext-off⟩:=by simpa[upd,e]using hq.symm
   intro hx;exact s.memApart id r b o (Y9 hid) hr hm (hsub b o (hq'▸hx))
  ·obtain⟨e2,hne⟩:=hlive j e hj;have hq':μ j=some q:=by unfold upd at hq;rwa[if_neg e]at hq
   exact s.memApart j q b o hne hq' hm
theorem SR.setMap(s:SR B w0 μ M h w){es0 es:List (AV×AV)}(hid:h id=some (.map es0))(hr:μ id=some r)
  (en:Array MapEntry)(cl:Nat)(hl:es.length=en.size)(hv:∀(i:Nat) e x,es[i]?=some e→en[i]?=some x→VR μ M e.1 x.key∧VR μ M e.2 x.val) :
  SR B w0 μ M (upd h id (some (.map es))) {w with heap:=w.heap.setIfInBounds r.b (.map en cl)}:=by
 obtain⟨r',h1,h2,h3,h4,h5,en0,cl0,h6,_⟩:=s.live id _ hid;rw[hr]at h1;cases h1;have hne:∀k,k≠r.b→({w with heap:=w.heap.setIfInBounds r.b (.map en cl)}:World).heap[k]?=w.heap[k]?:=fun k hk=>by
  simp only;exact Array.getElem?_setIfInBounds_ne (fun e=>hk e.symm)
 have hbne:∀b o v,w.cell? ⟨b,o,none⟩=some v→b≠r.b:=by
  intro b o v hv e;subst e;simp[World.cell?,h6]at hv
 have hlive:∀j,upd h id (some (.map es)) j≠none→h j≠none:=by
  intro j hj;unfold upd at hj;by_cases e:j=id
  ·rw[e,hid];simp
  ·rwa[if_neg e]at hj
 refine⟨s.below.trans ⟨rfl,rfl,rfl,by simp,fun k hk=>hne k (by omega)⟩,?_,?_,?_,?_,fun q hq=>(s.kept q hq).trans ?_,fun q hq=>by simpa using s.fsBlock q hq,fun q hq j rj hj=>s.fsApart q hq j rj (hlive j hj),s.fsMem,?_,s.fsCell⟩;rotate_left 4
 ·by_cases hb:q.b=r.b
  ·have hmap:∀o,w.cell? ⟨q.b,o,none⟩=none:=fun o=>by simp[World.cell?,hb,h6]
   have hfz:∀o,w.frozen? ⟨q.b,o,none⟩=false:=fun o=>by simp[World.frozen?,hb,h6]
   refine⟨fun o _=>?_,fun o _=>?_,fun h0=>?_⟩
   ·rw[hmap];simp[World.cell?,hb,h3]
   ·rw[hfz];simp[World.frozen?,hb,h3]
   ·exact absurd ⟨h0,⟨hb,by omega,by omega⟩⟩ (s.fsApart q hq id r (Y9 hid) hr q.b 0)
  ·exact .of_block (hne q.b hb)
 ·intro b hb c t lo hi e0;by_cases e:b=r.b
  ·subst e;simp[h3]at e0
  ·rw[hne b e]at e0;exact s.clean b hb c t lo hi e0
 ·intro b o v hm;have hc:=s.mem b o v hm;rw[←hc];simp only[World.cell?,hne b (hbne b o v hc)]
 ·intro j obj hj;unfold upd at hj;by_cases e:j=id
  ·rw[if_pos e]at hj;cases hj;subst e;refine⟨r,hr,h2,by simpa using h3,h4,h5,en,cl,?_,hl,hv⟩;simp[h3]
  ·rw[if_neg e]at hj;obtain⟨q,q1,q2,q3,q4⟩:=s.live j obj hj;refine⟨q,q1,q2,by simpa using q3,?_⟩;cases obj with
   |map es'=>
    obtain⟨o1,o2,en',cl',o3,o4,o5⟩:=q4;have hb:q.b≠r.b:=fun hb=>by
     refine s.apart j id q r e (Y9 hj) (Y9 hid) q1 hr r.b 0 ⟨⟨hb.symm,by omega,by omega⟩,⟨rfl,by omega,by omega⟩⟩
    exact⟨o1,o2,en',cl',(hne q.b hb).trans o3,o4,o5⟩
   |cells cs=>
    obtain⟨o1,o2,o3⟩:=q4;have hcell:∀o,(w.cell? ⟨q.b,o,none⟩).isSome=true→q.b≠r.b:=fun o hs=>by
     obtain⟨v,hv⟩:=Option.isSome_iff_exists.1 hs;exact hbne q.b o v hv
    refine⟨o1,fun k hk=>?_,fun i a ha=>?_⟩
    ·have hb:=hcell _ (o2 k hk).1;simp only[World.cell?,World.frozen?,hne q.b hb];exact o2 k hk
    ·obtain⟨v,hv,hrv⟩:=o3 i a ha;have hb:=hbne _ _ _ hv;refine⟨v,?_,hrv⟩;rw[←hv];simp only[World.cell?,hne q.b hb]
 ·intro i j ri rj hij hi hj;exact s.apart i j ri rj hij (hlive i hi) (hlive j hj)
 ·intro j q b o hj;exact s.memApart j q b o (hlive j hj)
def Ycz (M:Mem) (w:World) (r:Rng) (n:Nat):Mem:=fun b o=>if b=r.b∧r.o≤o∧o<r.o+n then w.cell? ⟨b,o,none⟩ else M b o
theorem SR.freeze(s:SR B w0 μ M h w)(hid:h id=some (.cells cs))(hr:μ id=some r) :
  SR B w0 μ (Ycz M w r cs.length) (upd h id none) w∧M.le (Ycz M w r cs.length):=by
 obtain⟨r',h1,h2,h3,h4,h5,vs0,h6,h7⟩:=s.cellsOf hid;rw[hr]at h1;cases h1;have hle:M.le (Ycz M w r cs.length):=by
  intro b o v hv;unfold Ycz;rw[if_neg]
  ·exact hv
  ·rintro⟨e1,e2,e3⟩;exact s.memApart id r b o (Y9 hid) hr (Y9 hv) ⟨e1,e2,by omega⟩
 have hlive:∀j,upd h id none j≠none→j≠id∧h j≠none:=by
  intro j hj;unfold upd at hj;by_cases e:j=id
  ·rw[if_pos e]at hj;exact absurd rfl hj
  ·rw[if_neg e]at hj;exact⟨e,hj⟩
 refine⟨⟨s.below,?_,?_,?_,?_,s.kept,s.fsBlock,fun q hq j rj hj=>s.fsApart q hq j rj (hlive j hj).2,?_,s.clean,s.fsCell⟩,hle⟩;rotate_left 4
 ·intro q hq b o hm hx;unfold Ycz at hm;split at hm
  ·rename_i hc;exact s.fsApart q hq id r (Y9 hid) hr b o ⟨hx,⟨hc.1,hc.2.1,by omega⟩⟩
  ·exact s.fsMem q hq b o hm hx
 ·intro b o v hv;unfold Ycz at hv;split at hv
  ·exact hv
  ·exact s.mem b o v hv
 ·intro j obj hj;obtain⟨e,_⟩:=hlive j (Y9 hj);unfold upd at hj;rw[if_neg e]at hj;obtain⟨q,q1,q2,q3,q4⟩:=s.live j obj hj;exact⟨q,q1,q2,q3,q4.mono (.refl _) hle⟩
 ·intro i j ri rj hij hi hj;exact s.apart i j ri rj hij (hlive i hi).2 (hlive j hj).2
 ·intro j q b o hj hq hm hx;obtain⟨e,hne⟩:=hlive j hj;unfold Ycz at hm;split at hm
  ·rename_i hc;exact s.apart j id q r e hne (Y9 hid) hq hr b o ⟨hx,⟨hc.1,hc.2.1,by omega⟩⟩
  ·exact s.memApart j q b o hne hq hm hx
theorem SR.mark(s:SR B w0 μ M h w){c:Array Value}{t:TypeId}{lo hi:Nat}(hb:B≤b)(hc:w.heap[b]?=some (.cells c t (lo,hi))) :
  SR B w0 μ M h (w.freeze ⟨b,c.size,none⟩ 1):=by
 have hcl:=s.clean b hb c t lo hi hc;have hlt:b<w.heap.size:=(Array.getElem?_eq_some_iff.1 hc).1;obtain⟨lo',hi',hnew,hcl'⟩:∃lo' hi',(w.freeze ⟨b,c.size,none⟩ 1).heap[b]?=some (.cells c t (lo',hi'))∧c.size≤lo':=by
  simp only[World.freeze,Nat.one_ne_zero,if_false,Array.getElem?_modify,if_true,hc,Option.map_some];by_cases e:lo=hi
  ·refine⟨c.size,c.size+1,?_,Zl _⟩;simp[e]
  ·refine⟨min lo c.size,max hi (c.size+1),?_,by omega⟩;simp[e]
 have hother:∀k,k≠b→(w.freeze ⟨b,c.size,none⟩ 1).heap[k]?=w.heap[k]?:=by
  intro k hk;simp only[World.freeze,Nat.one_ne_zero,if_false,Array.getElem?_modify];rw[if_neg (fun e=>hk e.symm)]
 have hcell:∀k o,(w.freeze ⟨b,c.size,none⟩ 1).cell? ⟨k,o,none⟩=w.cell? ⟨k,o,none⟩:=by
  intro k o;by_cases e:k=b
  ·subst e;simp only[World.cell?,hnew,hc]
  ·simp only[World.cell?,hother k e]
 have hkept:∀r:Rng,(∀o,r.has r.b o→(w.cell? ⟨r.b,o,none⟩).isSome=true∨∃en cl,w.heap[r.b]?=some (.map en cl)∧o=0)→KeptAt w (w.freeze ⟨b,c.size,none⟩ 1) r:=by
  intro r hr;refine⟨fun o _=>hcell _ _,fun o ho=>?_,fun _ en cl he=>?_⟩
  ·by_cases e:r.b=b
   ·rcases hr o ho with h1|⟨en,cl,h1,_⟩
    ·have hsz:o<c.size:=by
      rw[e]at h1;simp only[World.cell?,hc]at h1;obtain⟨v,hv⟩:=Option.isSome_iff_exists.1 h1;exact(Array.getElem?_eq_some_iff.1 hv).1
     rw[e];simp only[World.frozen?,hnew,hc];have e1:(decide (lo'≤o)&&decide (o<hi'))=false:=by
      rw[Zx (by omega)];rfl
     have e2:(decide (lo≤o)&&decide (o<hi))=false:=by
      rcases hcl with h|h
      ·by_cases hx:lo≤o
       ·rw[Zx (show ¬(o<hi) by omega),Bool.and_false]
       ·rw[Zx hx];rfl
      ·rw[Zx (by omega)];rfl
     rw[e1,e2]
    ·rw[e,hc]at h1;cases h1
   ·simp only[World.frozen?,hother r.b e]
  ·have e:r.b≠b:=fun e=>by rw[e,hc]at he;cases he
   rw[hother r.b e];exact he
 have hsize:(w.freeze ⟨b,c.size,none⟩ 1).heap.size=w.heap.size:=by simp[World.freeze]
 refine⟨s.below.trans ⟨rfl,rfl,rfl,by rw[hsize];exact Zl _,fun k hk=>hother k (by omega)⟩,fun b' o v hv=>by rw[hcell];exact s.mem b' o v hv,?_,s.apart,s.memApart,fun r hr=>(s.kept r hr).trans (hkept r fun o ho=>s.fsNow hr ho),
  fun r hr=>by rw[hsize];exact s.fsBlock r hr,s.fsApart,s.fsMem,?_,s.fsCell⟩
 ·intro id obj ho;obtain⟨r,q1,q2,q3,q4⟩:=s.live id obj ho;exact⟨r,q1,q2,by rw[hsize];exact q3,q4.kept (hkept r fun o hx=>s.liveNow (by rw[ho];simp) q1 hx)⟩
 ·intro k hk c' t' lo2 hi2 e0;by_cases e:k=b
  ·subst e;rw[hnew]at e0;simp only[Zs,Obj.cells.injEq,Zp]at e0;obtain⟨rfl,_,rfl,_⟩:=e0;exact .inr hcl'
  ·rw[hother k e]at e0;exact s.clean k hk c' t' lo2 hi2 e0
end Go.Abs
