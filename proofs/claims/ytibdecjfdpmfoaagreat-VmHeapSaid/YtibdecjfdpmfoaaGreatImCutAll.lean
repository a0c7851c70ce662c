import Derived.Test.YtibdecjfdpmfoaaGreatImEqM
import Derived.Test.YtibdecjfdpmfoaaGreatAbsLs
section
open Go Go.Abs Go.Proofs.SlimCode Go.Img
set_option maxRecDepth 100000
namespace Go.Proofs
open List hiding cons nil
open Go.Proofs.Tryz
variable {o:AObj} {v:AV} {cs:List AV} {i n s:Nat} {G g h:Ya}
def X4 (i:Nat):Cls:=⟨[67,UInt8.ofNat (97+i)],-1,-1,if i=10 then 2 else 0,if i=10 then 0 else -1,decide (0<i)&&decide (i<10),[],[(i:Int)],[],[]⟩
def small:Image:=⟨(List.range 11).map X4,[⟨0,0,0,false,[(46,0,0,0)],[]⟩],0,-1,(List.range 10).map (fun i:Nat=>(i:Int)),[0,0,10,1,1],[4],[5,3],[false,true]⟩
theorem Yb1{n:Int}(h1 : -9223372036854775808≤n)(h2:n≤9223372036854775807):I64 n:=⟨h1,h2⟩
theorem smallC_WF(hi:i<11):(X4 i).WF:=by
 have l:∀{α:Type},Len ([]:List α):=Nat.zero_le _;have m1:I64 (-1):=Yb1 (by decide) (by decide);refine⟨by simp[X4],m1,m1,?_,?_,l,⟨by simp[X4,Len],fun n h=>?_⟩,⟨l,fun _ h=>nomatch h⟩,⟨l,fun _ h=>nomatch h⟩⟩
 ·unfold X4 I64;simp only;split<;>omega
 ·unfold X4 I64;simp only;split<;>omega
 ·obtain rfl:=Zm.1 h;exact Yb1 (by omega) (by omega)
theorem Qh:small.WF:=by
 have l:∀{α:Type},Len ([]:List α):=Nat.zero_le _;refine⟨⟨by simp[small,Len],fun c h=>?_⟩,⟨by simp[small,Len],fun c h=>?_⟩,Yb1 (by decide) (by decide),Yb1 (by decide) (by decide),⟨by simp[small,Len],fun n h=>?_⟩,⟨by simp[small,Len],fun n h=>?_⟩,⟨by simp[small,Len],fun n h=>?_⟩,⟨by simp[small,Len],fun n h=>?_⟩,by simp[small,Len]⟩
 ·obtain⟨i,hi,rfl⟩:=mem_map.1 h;exact smallC_WF (mem_range.1 hi)
 ·obtain rfl:=Zm.1 h;refine⟨Yb1 (by decide) (by decide),Yb1 (by decide) (by decide),Yb1 (by decide) (by decide),⟨by simp[Len],fun p hp=>?_⟩,⟨l,fun _ h=>nomatch h⟩⟩;obtain rfl:=Zm.1 hp;exact⟨Yb1 (by decide) (by decide),Yb1 (by decide) (by decide),Yb1 (by decide) (by decide),Yb1 (by decide) (by decide)⟩
 ·obtain⟨i,hi,rfl⟩:=mem_map.1 h;have:=mem_range.1 hi;exact Yb1 (by omega) (by omega)
 ·have:n∈[(0:Int),0,10,1,1]:=h;unfold I32;simp only[mem_cons,not_mem_nil,or_false]at this;omega
 ·have:n∈[(4:Int)]:=h;obtain rfl:=Zm.1 this;exact Yb1 (by decide) (by decide)
 ·have:n∈[(5:Int),3]:=h;unfold I32;simp only[mem_cons,not_mem_nil,or_false]at this;omega
theorem Yab{α:Type}{f:Nat→α}{k:Nat}:(List.range (k+1)).map f=(List.range k).map f++[f k]:=by rw[range_succ,map_append];rfl
structure SmO (g G:Ya) (vc vg:AV) (cs:List AV) (i:Nat):Prop where
 c:OSl g 10 vc cs i G
 d:OSl g 1 vg ((List.range (min i 10)).map fun k:Nat=>I k) (min i 10) G
 k:Chunks (RCls g) 10 cs ((List.range i).map X4)
 j:∀x∈Qm vc,x∉Qm vg
theorem SmO.up{G':Ya}{vc vg:AV}(H:SmO g G vc vg cs i)(hx:Ext G G'):SmO g G' vc vg cs i:=⟨H.c.upE hx,H.d.upE hx,H.k,H.j⟩
theorem OSl.grow{q:Nat}(H:OSl g s v cs n G)(hq:G q=none):OSl (upd g q (some o)) s v cs n (upd G q (some o)):=by
 refine⟨fun id x e=>?_,H.own.imp id fun⟨i,h1,h2,h3,h4⟩=>?_⟩
 ·unfold upd at e ⊢;split
  ·rename_i he;rw[if_pos he]at e;exact e
  ·rename_i he;rw[if_neg he]at e;exact H.ext _ _ e
 ·have:i≠q:=fun e=>by rw[e,hq]at h3;cases h3
  exact⟨i,h1,by rw[Ys this];exact h2,by rw[Ys this];exact h3,h4⟩
theorem SmO.add{vc vg:AV}{q:Nat}(H:SmO g G vc vg cs i)(hq:G q=none):SmO (upd g q (some o)) (upd G q (some o)) vc vg cs i:=by
 have hg:g q=none:=by
  cases e:g q with
  |none=>rfl
  |some x=>rw[H.c.ext _ _ e]at hq;cases hq
 exact⟨OSl.grow H.c hq,OSl.grow H.d hq,H.k.imp fun c a=>RCls.mono _ _ c a (.upd hg),H.j⟩
theorem OSl.beside{hb h1:Ya}{vx:AV}(H:OSl g s v cs n hb)(hg:Ext g (Ya0 hb vx))(hx:Ext (Ya0 hb vx) h1)(hj:∀i∈Qm v,i∉Qm vx):OSl g s v cs n h1:=by
 refine⟨hg.trans hx,H.own.imp id fun⟨i,h1,h2,h3,h4⟩=>⟨i,h1,h2,hx _ _ ?_,h4⟩⟩;subst h1;have:=hj i (.head _);cases vx with
 |sl k _ _ _=>exact(Ys fun e=>this (by rw[e];exact .head _)).trans h3
 |_=>exact h3
theorem OSl.fresh{hb h1:Ya}{vx w:AV}{cs':List AV}{s' n':Nat}(O:OSl (Ya0 hb vx) s v cs n h1)(H:OSl g s' w cs' n' hb)(hj:∀i∈Qm w,i∉Qm vx):∀i∈Qm w,i∉Qm v:=by
 intro i hi hv;rcases O.own with ⟨rfl,_⟩|⟨j,rfl,h1,_⟩
 ·cases hv
 obtain rfl:=Zm.1 hv;rcases H.own with ⟨rfl,_⟩|⟨k,rfl,_,h3,_⟩
 ·cases hi
 obtain rfl:=Zm.1 hi;have:=hj _ (.head _);cases vx with
 |sl k _ _ _=>
  have e:=(Ys fun e=>this (by rw[e];exact .head _)).symm.trans (h1:upd hb k none i=none);rw[h3]at e;cases e
 |_=>exact absurd ((show hb i=none from h1).symm.trans h3) (by simp)
abbrev W5c:List AV:=[.int .i32 0,.int .i32 0,.int .i32 10,.int .i32 1,.int .i32 1]
abbrev SmL (b0 b1 o8:Nat) (vc vm vg vr vs vf:AV) (J:List (Nat×AObj)):List (Nat×AObj):=(b1,.cells [vc,vm,I 0,I (-1),vg,.sl o8 0 5 1,vr,vs,vf])::(o8,.cells W5c)::(b0,.cells [.nil .sl,.nil .sl,I 0,I 0,.nil .sl,.nil .sl,.nil .sl,.nil .sl,.nil .sl])::J
abbrev Yd0 (i q:Nat) (a e:Int):List AV:=[.str [67,UInt8.ofNat (97+i)],I (-1),I (-1),.nil .sl,.sl q 0 1 1,.nil .sl,.nil .sl,I a,I e,.bool (decide (0<i)&&decide (i<10))]
set_option maxHeartbeats 1000000 in
theorem p27s {h:Ya}:HCallC prog ann 20 [] h fun v h'=>∃G o8 vc vm vg vr vs vf,v= .agg [vc,vm,I 0,I (-1),vg,.sl o8 0 5 1,vr,vs,vf]∧Ext h G∧G o8=none∧h'=upd G o8 (some (.cells W5c))∧RImg G [vc,vm,I 0,I (-1),vg,.nil .sl,vr,vs,vf] {small with words:=[]}:=by
 refine Yf7 rfl func20 Zw rfl ?_;refine tS ?_;show Yu _ _ _ _ _ _ _ _ [] (hset h []) _;apply Kc Yfy rfl;intro b0 hD;refine tW ?_;apply Ydw (cs:=[I 46,I 0,I 0,I 0]) hD rfl rfl rfl;intro o5 hn hD;have x5:Ext h (upd h o5 (some (.cells [I 46,I 0,I 0,I 0]))):= .upd hn;have e5:upd h o5 (some (.cells [I 46,I 0,I 0,I 0])) o5=some (.cells [I 46,I 0,I 0,I 0]):=upd_same;generalize upd h o5 (some (.cells [I 46,I 0,I 0,I 0]))=g5 at x5 e5 hD ⊢;refine tW ?_;apply Ydw (cs:=[I 0,I 0,I 0,.bool false,.sl o5 0 1 4,.nil .sl]) hD rfl rfl rfl;intro o7 hn hD;have x7:Ext g5 (upd g5 o7 (some (.cells [I 0,I 0,I 0,.bool false,.sl o5 0 1 4,.nil .sl]))):= .upd hn;have e7:upd g5 o7 (some (.cells [I 0,I 0,I 0,.bool false,.sl o5 0 1 4,.nil .sl])) o7=some (.cells [I 0,I 0,I 0,.bool false,.sl o5 0 1 4,.nil .sl]):=upd_same;generalize upd g5 o7 (some (.cells [I 0,I 0,I 0,.bool false,.sl o5 0 1 4,.nil .sl]))=g7 at x7 e7 hD ⊢;have hm:Sl RMth 6 g7 (.sl o7 0 1 6) [⟨0,0,0,false,[(46,0,0,0)],[]⟩]:=⟨_,.sl o7 0 1 _ _ e7 rfl,.one rfl ⟨_,_,rfl,⟨_,.sl o5 0 1 _ _ (x7 _ _ e5) rfl,.one rfl rfl⟩,.nil⟩⟩;clear hn e5 e7;apply Ykm (cs:=W5c) hD rfl rfl rfl;intro o8 hD;apply Ydw (cs:=[I 4]) hD rfl rfl rfl;intro o9 hn hD;have x9:Ext g7 (upd g7 o9 (some (.cells [I 4]))):= .upd hn;have hr:Sl (RN .i64) 1 (upd g7 o9 (some (.cells [I 4]))) (.sl o9 0 1 1) [4]:=⟨_,.sl o9 0 1 _ _ upd_same rfl,.one rfl rfl⟩;generalize upd g7 o9 (some (.cells [I 4]))=g9 at x9 hr hD ⊢;apply Ydw (cs:=[.int .i32 5,.int .i32 3]) hD rfl rfl rfl;intro o10 hn hD;have x10:Ext g9 (upd g9 o10 (some (.cells [.int .i32 5,.int .i32 3]))):= .upd hn;have hs:Sl (RN .i32) 1 (upd g9 o10 (some (.cells [.int .i32 5,.int .i32 3]))) (.sl o10 0 2 1) [5,3]:=⟨_,.sl o10 0 2 _ _ upd_same rfl,.cons (c:=[_]) rfl rfl (.one rfl rfl)⟩;generalize upd g9 o10 (some (.cells [.int .i32 5,.int .i32 3]))=g10 at x10 hs hD ⊢;apply Ydw (cs:=[.bool false,.bool true]) hD rfl rfl rfl;intro o11 hn hD;have x11:Ext g10 (upd g10 o11 (some (.cells [.bool false,.bool true]))):= .upd hn;have hf:Sl RB 1 (upd g10 o11 (some (.cells [.bool false,.bool true]))) (.sl o11 0 2 1) [false,true]:=⟨_,.sl o11 0 2 _ _ upd_same rfl,.cons (c:=[_]) rfl rfl (.one rfl rfl)⟩;generalize upd g10 o11 (some (.cells [.bool false,.bool true]))=g0 at x11 hf hD ⊢;replace hs:=hs.mono RN.mono x11;replace hr:=hr.mono RN.mono (x10.trans x11);replace hm:=hm.mono RMth.mono (x9.trans (x10.trans x11));have hx:Ext h g0:=x5.trans (x7.trans (x9.trans (x10.trans x11)));clear x5 x7 x9 x10 x11 hn;refine tW ?_;apply Kc hD rfl;intro b1 hD;apply Ju (v:= .agg [.nil .sl,.sl o7 0 1 6,I 0,I (-1),.nil .sl,.sl o8 0 5 1,.sl o9 0 1 1,.sl o10 0 2 1,.sl o11 0 2 1]) (cs':=[.nil .sl,.sl o7 0 1 6,I 0,I (-1),.nil .sl,.sl o8 0 5 1,.sl o9 0 1 1,.sl o10 0 2 1,.sl o11 0 2 1]) 0 hD rfl rfl rfl rfl rfl rfl rfl (Yn rfl);intro hD;change Dis g0 (SmL b0 b1 o8 (.nil .sl) (.sl o7 0 1 6) (.nil .sl) (.sl o9 0 1 1) (.sl o10 0 2 1) (.sl o11 0 2 1) []) at hD;generalize AV.sl o7 0 1 6=vm at hm hD ⊢;generalize AV.sl o9 0 1 1=vr at hr hD ⊢;generalize AV.sl o10 0 2 1=vs at hs hD ⊢;generalize AV.sl o11 0 2 1=vf at hf hD ⊢;show Yu _ _ _ _ _ _ _ _ [b1,b0] (hset g0 (SmL b0 b1 o8 (.nil .sl) vm (.nil .sl) vr vs vf [])) _;refine tA ?_;refine Kg (fun s:Nat×List (Nat×AObj)×AV×AV×List AV=>[(0,.ptr b0 0),(1,.ptr b1 0),(2,I s.1)]) (fun s=>s.2.1.map Prod.fst++[b1,b0]) (fun s h'=>s.1≤11∧∃g G,h'=hset G (SmL b0 b1 o8 s.2.2.1 vm s.2.2.2.1 vr vs vf s.2.1)∧Dis G (SmL b0 b1 o8 s.2.2.1 vm s.2.2.2.1 vr vs vf s.2.1)∧Ext g0 g∧SmO g G s.2.2.1 s.2.2.2.1 s.2.2.2.2 s.1) (fun s=>11-s.1) (0,[],.nil .sl,.nil .sl,[]) tU rfl ⟨by simp,g0,g0,rfl,hD,.refl,.nil .refl,.nil .refl,.nil,fun _ h=>by cases h⟩ ?_;clear hD;rintro⟨i,J,vc,vg,cs⟩ _ ⟨hi,g,G,rfl,hD,hgg,H⟩;simp only at hi hD H ⊢;refine tA ?_;refine oI (i<11) (fun H1=>?_) (fun H1=>?_);rotate_left
 ·obtain rfl:i=11:=by omega
  have hgG:=H.c.ext;have hG:=hgg.trans hgG;have hR:RImg G [vc,vm,I 0,I (-1),vg,.nil .sl,vr,vs,vf] {small with words:=[]}:=⟨_,_,_,_,_,_,_,rfl,⟨_,H.c.view,H.k.imp fun c a=>RCls.mono _ _ c a hgG⟩,hm.mono RMth.mono hG,⟨_,H.d.view,by
   have:∀l:List Nat,Chunks (RN .i64 G) 1 (l.map fun k:Nat=>I k) (l.map fun k:Nat=>(k:Int)):=fun l=>by
    induction l with
    |nil=>exact .nil
    |cons a l ih=>exact .cons (c:=[I a]) rfl rfl ih
   exact this (List.range 10)⟩,.nil,hr.mono RN.mono hG,hs.mono RN.mono hG,hf.mono RB.mono hG⟩
  have hone:=hR.one;refine tA ?_;apply Yed 0 hD rfl rfl rfl rfl rfl;apply Ju (v:= .agg [vc,vm,I 0,I (-1),vg,.sl o8 0 5 1,vr,vs,vf]) (cs':=[vc,vm,I 0,I (-1),vg,.sl o8 0 5 1,vr,vs,vf]) 2 hD rfl rfl rfl rfl rfl rfl (show _=true from hone) (Yn rfl);intro hD;refine tA ?_;refine Ynt (vs:=[.agg [vc,vm,I 0,I (-1),vg,.sl o8 0 5 1,vr,vs,vf]]) (.cells (m:=9) rfl (by kernel_rfl) (Xp (k:=2) hD rfl) rfl .nil) rfl ?_ (fun ht=>by simp[Yx,AV.tree,AV.trees]at ht);refine⟨G,o8,vc,vm,vg,vr,vs,vf,rfl,hx.trans hG,Ybo hD _ (.tail _ (.head _)),?_,hR⟩;change Dis G ((b1,.cells [vc,vm,I 0,I (-1),vg,.sl o8 0 5 1,vr,vs,vf])::(o8,.cells W5c)::(b0,.cells [vc,vm,I 0,I (-1),vg,.sl o8 0 5 1,vr,vs,vf])::J) at hD;show Yv _ (hset G ((b1,.cells [vc,vm,I 0,I (-1),vg,.sl o8 0 5 1,vr,vs,vf])::(o8,.cells W5c)::(b0,.cells [vc,vm,I 0,I (-1),vg,.sl o8 0 5 1,vr,vs,vf])::J))=_;obtain⟨p1,p2⟩:=X5 (List.Perm.swap _ _ _) hD;rw[p1];have hno:=(nodup_cons.1 (Yap p2)).1;funext id;show(if _ then none else upd _ o8 _ id)=upd G o8 _ id;by_cases e:id=o8
  ·subst e;rw[if_neg,upd_same,upd_same];intro hc;exact hno (by simp at hc ⊢;rcases hc with h|h|h<;>simp[h])
  ·rw[Ys e,Ys e];by_cases hc:id∈((b1,AObj.cells [vc,vm,I 0,I (-1),vg,.sl o8 0 5 1,vr,vs,vf])::(b0,AObj.cells [vc,vm,I 0,I (-1),vg,.sl o8 0 5 1,vr,vs,vf])::J).map Prod.fst
   ·rw[if_pos (by simp at hc ⊢;rcases hc with h|h|h<;>simp[h])];exact(Ybo p2.2 _ hc).symm
   ·rw[if_neg fun h=>hc (by simp at h ⊢;rcases h with h|h|h<;>simp[h])];exact Kz hc
 refine tv ?_;refine tv ?_;refine tv ?_;refine tv ?_;refine tv ?_;refine tv ?_;refine tv ?_;refine Yg9 (σ:=Nat×Nat×Ya×Ya) (fun s=>[(0,.ptr b0 0),(1,.ptr b1 0),(2,I i),(3,.ptr s.1 0)]) (fun s=>s.1::(J.map Prod.fst++[b1,b0])) (fun s h'=>h'=hset s.2.2.2 ((s.1,.cells (Yd0 i s.2.1 0 (-1)))::SmL b0 b1 o8 vc vm vg vr vs vf J)∧Dis s.2.2.2 ((s.1,.cells (Yd0 i s.2.1 0 (-1)))::SmL b0 b1 o8 vc vm vg vr vs vf J)∧Ext g0 s.2.2.1∧SmO s.2.2.1 s.2.2.2 vc vg cs i∧s.2.2.1 s.2.1=some (.cells [I i])) ?_ ?_
 ·refine tV ?_
  (refine tG ?_;(with_reducible apply Yko (a:=97) (b:=i));exact rfl;exact rfl;exact rfl;exact w64 (by omega) (by omega))
  apply Y1 rfl rfl trivial (cvb (97+i));apply Ydw (cs:=ubs [67,UInt8.ofNat (97+i)]) hD rfl rfl rfl;intro o20 hn hD;have hg:Ext G (upd G o20 (some (.cells (ubs [67,UInt8.ofNat (97+i)])))):= .upd hn;have e20:upd G o20 (some (.cells (ubs [67,UInt8.ofNat (97+i)]))) o20=some (.cells (ubs [67,UInt8.ofNat (97+i)])):=upd_same;replace H:=H.up hg;generalize upd G o20 (some (.cells (ubs [67,UInt8.ofNat (97+i)])))=Ga at e20 hD H ⊢;apply Ynd (bs:=[67,UInt8.ofNat (97+i)]) rfl rfl (.sl o20 0 2 _ _ (Yr hD _ _ e20) rfl) (fun h=>by omega);refine tV ?_;apply Ydw (cs:=[I i]) hD rfl rfl rfl;intro q hn2 hD;have hnq:g q=none:=by
   cases e:g q with
   |none=>rfl
   |some x=>rw[H.c.ext _ _ e]at hn2;cases hn2
  replace H:=H.add (o:= .cells [I i]) hn2;have hq:upd g q (some (.cells [I i])) q=some (.cells [I i]):=upd_same;have hgq:Ext g0 (upd g q (some (.cells [I i]))):=hgg.trans (.upd hnq);refine tV ?_;refine oI (0<i) (fun H2=>?_) (fun H2=>?_)
  ·refine tV ?_;refine oI (i<10) (fun H3=>?_) (fun H3=>?_)
   ·refine tV ?_;have hb:(decide (0<i)&&decide (i<10))=true:=by simp;omega
    apply Y1 (w:= .agg (Yd0 i q 0 (-1))) rfl rfl trivial (by unfold Yd0;rw[hb]);apply Kc hD rfl;intro b3 hD;apply Ju (v:= .agg (Yd0 i q 0 (-1))) (cs':=Yd0 i q 0 (-1)) 0 hD rfl rfl rfl rfl rfl rfl rfl (Yn rfl);intro hD;refine tA ?_;exact⟨(b3,q,_,_),tU,rfl,rfl,hD,hgq,H,hq⟩
   ·refine tV ?_;have hb:(decide (0<i)&&decide (i<10))=false:=by simp;omega
    apply Y1 (w:= .agg (Yd0 i q 0 (-1))) rfl rfl trivial (by unfold Yd0;rw[hb]);apply Kc hD rfl;intro b3 hD;apply Ju (v:= .agg (Yd0 i q 0 (-1))) (cs':=Yd0 i q 0 (-1)) 0 hD rfl rfl rfl rfl rfl rfl rfl (Yn rfl);intro hD;refine tA ?_;exact⟨(b3,q,_,_),tU,rfl,rfl,hD,hgq,H,hq⟩
  ·refine tV ?_;have hb:(decide (0<i)&&decide (i<10))=false:=by simp;omega
   apply Y1 (w:= .agg (Yd0 i q 0 (-1))) rfl rfl trivial (by unfold Yd0;rw[hb]);apply Kc hD rfl;intro b3 hD;apply Ju (v:= .agg (Yd0 i q 0 (-1))) (cs':=Yd0 i q 0 (-1)) 0 hD rfl rfl rfl rfl rfl rfl rfl (Yn rfl);intro hD;refine tA ?_;exact⟨(b3,q,_,_),tU,rfl,rfl,hD,hgq,H,hq⟩
 clear hD H;rintro⟨b3,q,g,G⟩ _ ⟨rfl,hD,hgg,H,hq⟩;simp only at hD hgg H hq ⊢;have hcl:RCls g (Yd0 i q (if i=10 then 2 else 0) (if i=10 then 0 else -1)) (X4 i):=⟨_,_,_,_,rfl,.nil,⟨_,.sl q 0 1 _ _ hq rfl,.one rfl rfl⟩,.nil,.nil⟩;refine Yg9 (σ:=AV×Ya) (fun s=>[(0,.ptr b0 0),(1,.ptr b1 0),(2,I i),(3,.ptr b3 0)]) (fun s=>b3::(J.map Prod.fst++[b1,b0])) (fun s h'=>h'=hset s.2 ((b3,.cells (Yd0 i q (if i=10 then 2 else 0) (if i=10 then 0 else -1)))::SmL b0 b1 o8 vc vm s.1 vr vs vf J)∧Dis s.2 ((b3,.cells (Yd0 i q (if i=10 then 2 else 0) (if i=10 then 0 else -1)))::SmL b0 b1 o8 vc vm s.1 vr vs vf J)∧OSl g 10 vc cs i s.2∧OSl g 1 s.1 ((List.range (min (i+1) 10)).map fun k:Nat=>I k) (min (i+1) 10) s.2∧∀x∈Qm vc,x∉Qm s.1) ?_ ?_
 ·refine tA ?_;refine oI (i=10) (fun H2=>?_) (fun H2=>?_)
  ·subst H2;refine tA ?_;apply Yna 0 hD rfl rfl rfl rfl rfl rfl (show 0+7<10 by decide);intro hD;refine tA ?_;apply Yna 0 hD rfl rfl rfl rfl rfl rfl (show 0+8<10 by decide);intro hD;refine tA ?_;exact⟨(vg,G),tU,rfl,rfl,hD,H.c,H.d,H.j⟩
  ·rw[if_neg H2,if_neg H2];refine tv ?_;refine tv ?_;refine tv ?_;refine Ymv [.A,.B,.A,.A,.A,.A,.D] hD ?_;refine tZ ?_;apply Yqz 1 hD rfl rfl rfl rfl;refine tZ ?_;apply x_v (v:= .tsl [I i] 1) rfl rfl ⟨rfl,rfl⟩;apply Ype hD rfl rfl rfl H.d rfl rfl rfl (by omega);intro v G2 O hg2 hD;refine tZ ?_;apply Yj9 1 hD rfl rfl rfl rfl O.ones (show 0+4<9 by decide);intro hD;refine tZ ?_;refine tA ?_;have e:min i 10+1=min (i+1) 10:=by omega
   refine⟨(v,G2),tU,rfl,rfl,hD,OSl.beside H.c hg2 O.ext H.j,?_,OSl.fresh O H.c H.j⟩;have:OSl g 1 v ((List.range (min i 10)).map (fun k:Nat=>I k)++[I i]) (min i 10+1) G2:=O.weaken hg2;rwa[show(List.map (fun k:Nat=>I k) (List.range (min i 10))++[I i])=(List.range (min (i+1) 10)).map fun k:Nat=>I k by rw[←e,Yab,show min i 10=i by omega],e]at this
 have hk:=H.k;clear hD H hq;rintro⟨vg,G⟩ _ ⟨rfl,hD,Hc,Hd,hj⟩;simp only at hD Hc Hd hj ⊢;refine Ymv [.A,.B,.B,.A,.A,.A,.D] hD ?_;refine tZ ?_;apply Yqz 1 hD rfl rfl rfl rfl;apply x_ldnL 0 hD rfl rfl rfl rfl;apply x_v (v:= .tsl (Yd0 i q (if i=10 then 2 else 0) (if i=10 then 0 else -1)) 1) rfl rfl ⟨rfl,rfl⟩;apply Ype hD rfl rfl rfl Hc rfl rfl rfl (by omega);intro v G2 O hg2 hD;refine tZ ?_;apply Yj9 1 hD rfl rfl rfl rfl O.ones (show 0+0<9 by decide);intro hD;refine tZ ?_;refine tA ?_;apply Y1 (w:=I ((i+1:Nat):Int)) rfl rfl trivial (by rw[w64 (by omega) (by omega)];rfl);refine tA ?_;obtain⟨p1,p2⟩:=X5 (perm_middle (l₁ := [_,_,_])).symm hD;refine⟨(i+1,_::J,v,vg,cs++Yd0 i q (if i=10 then 2 else 0) (if i=10 then 0 else -1)),by simp only;omega,tU,rfl,by simp only;omega,g,G2,p1,p2,hgg,O.weaken hg2,OSl.beside Hd hg2 O.ext fun x hx hy=>hj x hy hx,?_,fun x hx hy=>OSl.fresh O Hd (fun y h1 h2=>hj y h2 h1) x hy hx⟩;rw[Yab];exact hk.append (.one rfl hcl)
theorem p27w:HCallC prog ann 20 [] h fun v h'=>Ext h h'∧∃c o8,v= .agg c∧RImg h' c small∧c[5]?=some (.sl o8 0 5 1)∧h' o8=some (.cells W5c)∧h o8=none:=
 p27s.mono fun v h' ⟨G,o8,vc,vm,vg,vr,vs,vf,e,hx,hn,e',hR⟩=>by
  subst e e';have hy:Ext G (upd G o8 (some (.cells W5c))):= .upd hn;refine⟨hx.trans hy,_,o8,rfl,?_,rfl,upd_same,?_⟩
  ·obtain⟨_,_,_,_,_,_,_,e,v1,v2,v3,_,v5,v6,v7⟩:=hR;cases e;exact⟨_,_,_,_,_,_,_,rfl,v1.mono RCls.mono hy,v2.mono RMth.mono hy,v3.mono RN.mono hy,⟨Ygf .i32 [0,0,10,1,1],.sl o8 0 5 _ _ upd_same rfl,Chunks.of_map⟩,v5.mono RN.mono hy,v6.mono RN.mono hy,v7.mono RB.mono hy⟩
  ·cases e:h o8 with
   |none=>rfl
   |some o=>rw[hx _ _ e]at hn;cases hn
theorem p27:HCallC prog ann 20 [] h fun v h'=>Ext h h'∧∃c,v= .agg c∧RImg h' c small:=
 p27w.mono fun _ _ ⟨e,c,_,e1,e2,_⟩=>⟨e,c,e1,e2⟩
end Go.Proofs
end
section
namespace Go.Abs
open List hiding cons nil
variable {h:Ya}
abbrev OL:=List (Nat×AObj)
section
variable {α:Type} {RL:List AV→α→OL→Prop} {R:Ya→List AV→α→Prop} {s:Nat} {cs c:List AV} {l:List α} {a:α} {L M:OL} {v:AV} {h G:Ya}
theorem Kl:∀{L M:OL},hset h (L++M)=hset (hset h M) L
 |[],_=>rfl
 |(i,o)::L,M=>by
  show upd (hset h (L++M)) i (some o)=upd (hset (hset h M) L) i (some o);rw[Kl]
theorem Yat:∀{L M:OL},Dis h (L++M)↔Dis (hset h M) L∧Dis h M
 |[],_=>⟨fun h=>⟨trivial,h⟩,fun h=>h.2⟩
 |(i,o)::L,M=>by
  show hset h (L++M) i=none∧Dis h (L++M)↔(hset (hset h M) L i=none∧Dis (hset h M) L)∧Dis h M;rw[Kl,Yat,and_assoc]
inductive ChunksL {α:Type} (R:List AV→α→OL→Prop) (s:Nat):List AV→List α→OL→Prop where
 |nil:ChunksL R s [] [] []
 |cons {c cs:List AV} {a:α} {l:List α} {L M:OL} (hl:c.length=s) (ha:R c a L) (H:ChunksL R s cs l M):ChunksL R s (c++cs) (a::l) (L++M)
def SlL {α:Type} (R:List AV→α→OL→Prop) (s:Nat) (v:AV) (l:List α) (L:OL):Prop:=(v= .nil .sl∧l=[]∧L=[])∨∃i cs M,v= .sl i 0 l.length s∧L=(i,.cells cs)::M∧ChunksL R s cs l M
def Has (h:Ya) (L:OL):Prop:=∀p∈L,h p.1=some p.2
theorem Has.of_dis(hD:Dis G L):Has (hset G L) L:=fun _ hp=>Yk hD hp
theorem Has.up{h':Ya}(H:Has h L)(hx:Ext h h'):Has h' L:=fun p hp=>hx _ _ (H p hp)
def leaf (R:Ya→List AV→α→Prop):List AV→α→OL→Prop:=fun c a L=>(∀h,R h c a)∧L=[]
end
section
variable {α β:Type} {RL:List AV→α→OL→Prop} {R:Ya→List AV→β→Prop} {h G G2:Ya} {L L0 M:OL} {s s' n:Nat} {v w:AV} {cs ds:List AV} {l:List α} {m:List β}
theorem Yok(hD:Dis h L)(hx:Ext (hset h L) G):∃G',G=hset G' L∧Dis G' L∧Ext h G':=by
 have hD':Dis (Yv (L.map Prod.fst) G) L:=Yk0 (Yap hD) fun id hid=>by
  unfold Yv;rw[if_pos (by simpa using hid)]
 refine⟨Yv (L.map Prod.fst) G,funext fun id=>?_,hD',fun id o e=>?_⟩
 ·by_cases hid:id∈L.map Prod.fst
  ·obtain⟨⟨j,o⟩,hj,rfl⟩:=mem_map.1 hid;rw[Yk hD' hj];exact hx _ _ (Yk hD hj)
  ·rw[Kz hid];unfold Yv;rw[if_neg (by simpa using hid)]
 ·have hid:id∉L.map Prod.fst:=fun hc=>by rw[Ybo hD id hc]at e;cases e
  unfold Yv;rw[if_neg (by simpa using hid)];exact hx _ _ (by rw[Kz hid];exact e)
end
theorem kill_as{hb:Ya}{bx:List Nat}{L:OL}(hD:Dis hb L)(hs:∀i,i∈bx↔i∈L.map Prod.fst):Yv bx (hset hb L)=hb:=by
 refine Eq.trans (funext fun id=>?_) (Kw hD);unfold Yv;have:=hs id;by_cases h:id∈bx
 ·rw[if_pos (by simpa using h),if_pos (by simpa using this.1 h)]
 ·rw[if_neg (by simpa using h),if_neg (by simpa using fun x=>h (this.2 x))]
end Go.Abs
end
section
open Go Go.Abs Go.Proofs.SlimCode Go.Img
namespace Go.Img
open List
def LCls:List AV→Cls→OL→Prop:=fun c x L=>∃vr vs vt vf Lr Ls Lt Lf,c=[.str x.name,I x.super,I x.init,vr,vs,vt,vf,I x.array,I x.elem,.bool x.thrown] ∧
 SlL (leaf RB) 1 vr x.refs Lr∧SlL (leaf (RN .i64)) 1 vs x.subs Ls∧SlL (leaf (RN .i64)) 1 vt x.slots Lt∧SlL (leaf RPair) 2 vf x.faces Lf∧L=Lr++(Ls++(Lt++Lf))
def LMth:List AV→Mth→OL→Prop:=fun c m L=>∃vc vt Lc Lt,c=[I m.args,I m.locals,I m.stack,.bool m.gives,vc,vt]∧SlL (leaf RFour) 4 vc m.code Lc∧SlL (leaf RFour) 4 vt m.traps Lt∧L=Lc++Lt
structure Own (vc vm vg vw vr vs vf:AV) (m:Image) (Lc Lm Lg Lr Lw Ls Lf:OL):Prop where
 pc:SlL LCls 10 vc m.classes Lc
 pm:SlL LMth 6 vm m.methods Lm
 pg:SlL (leaf (RN .i64)) 1 vg m.given Lg
 pr:SlL (leaf (RN .i64)) 1 vr m.rel Lr
 pw:SlL (leaf (RN .i32)) 1 vw m.words Lw
 ps:SlL (leaf (RN .i32)) 1 vs m.stat Ls
 pf:SlL (leaf RB) 1 vf m.statref Lf
end Go.Img
namespace Go.Proofs
open List hiding cons nil
variable {o:AObj} {v:AV} {b:Nat}
def _root_.Go.Img.Cls.cut (x:Cls):Cls:=⟨x.name.take 12,x.super,x.init,x.array,x.elem,x.thrown,x.refs.take 10,x.subs.take 20,x.slots.take 10,x.faces.take 6⟩
def _root_.Go.Img.Mth.cut (x:Mth):Mth:=⟨x.args,x.locals,x.stack,x.gives,x.code.take 30,x.traps.take 4⟩
def _root_.Go.Img.Image.cut (m:Image):Image:=⟨(m.classes.take 20).map Cls.cut,(m.methods.take 12).map Mth.cut,m.entry,m.need,m.given.take 12,m.words.take 200,m.rel.take 60,m.stat.take 20,m.statref.take 20⟩
structure Acc {α:Type} (R:Ya→List AV→α→Prop) (s:Nat) (h G h':Ya) (bx:List Nat) (v:AV) (out:List α):Prop where
 hG:Ext h G
 Gh:Ext G h'
 bxs:∀b∈bx,G b=none∧h' b≠none
 own:(v= .nil .sl∧out=[])∨∃i cs,v= .sl i 0 out.length s∧G i=none∧i∉bx∧h' i=some (.cells cs)∧Chunks (R G) s cs out
section
variable {α:Type} {R:Ya→List AV→α→Prop} {s:Nat} {h G h' h2:Ya} {bx:List Nat} {v v':AV} {out:List α}
theorem Acc.base0(H:Acc R s h G h' bx v out)(hb:b∈bx):h b=none:=by
 cases e:h b with
 |none=>rfl
 |some o=>
  have:=(H.bxs b hb).1;rw[H.hG b o e]at this;cases this
theorem Acc.start(hG:Ext h G)(Gh:Ext G h')(hb:∀b∈bx,G b=none∧h' b≠none):Acc R s h G h' bx (.nil .sl) []:=⟨hG,Gh,hb,.inl ⟨rfl,rfl⟩⟩
theorem Acc.up(H:Acc R s h G h' bx v out)(hx:Ext h' h2):Acc R s h G h2 bx v out:=by
 refine⟨H.hG,H.Gh.trans hx,fun b hb=>⟨(H.bxs b hb).1,?_⟩,?_⟩
 ·have:=(H.bxs b hb).2;cases e:h' b with
  |none=>exact absurd e this
  |some o=>rw[hx b o e];simp
 ·rcases H.own with h2|⟨i,cs,e,g1,g2,g3,g4⟩
  ·exact .inl h2
  ·exact .inr ⟨i,cs,e,g1,g2,hx _ _ g3,g4⟩
theorem Acc.box(H:Acc R s h G h' bx v out)(hb:h' b=none):Acc R s h G (upd h' b (some o)) (b::bx) v out:=by
 have hGb:G b=none:=by
  cases e:G b with
  |none=>rfl
  |some o=>rw[H.Gh b o e]at hb;cases hb
 refine⟨H.hG,H.Gh.trans (.upd hb),fun c hc=>?_,?_⟩
 ·rcases mem_cons.1 hc with rfl|hc
  ·exact⟨hGb,by rw[upd_same];simp⟩
  ·refine⟨(H.bxs c hc).1,?_⟩;rw[Ys (fun e=>(H.bxs c hc).2 (by rw[e];exact hb))];exact(H.bxs c hc).2
 ·rcases H.own with h2|⟨i,cs,e,g1,g2,g3,g4⟩
  ·exact .inl h2
  ·have hib:i≠b:=fun e'=>by rw[e',hb]at g3;cases g3
   exact .inr ⟨i,cs,e,g1,by simp[hib,g2],by rw[Ys hib];exact g3,g4⟩
theorem Acc.osl(H:Acc R s h G h' bx v out):∃cs,Chunks (R G) s cs out∧OSl (Ya0 h' v) s v cs out.length h':=by
 rcases H.own with ⟨rfl,rfl⟩|⟨i,cs,rfl,g1,g2,g3,g4⟩
 ·exact⟨[],.nil,.nil .refl⟩
 ·refine⟨cs,g4,fun id o e=>?_,.inr ⟨i,rfl,upd_same,g3,g4.len⟩⟩;by_cases hid:id=i
  ·subst hid;rw[show Ya0 h' (.sl id 0 out.length s) id=none from upd_same]at e;cases e
  ·rw[show Ya0 h' (.sl i 0 out.length s) id=h' id from Ys hid]at e;exact e
theorem Acc.stay(H:Acc R s h G h' bx v out):Ext G (Ya0 h' v)∧∀b∈bx,Ya0 h' v b=h' b:=by
 rcases H.own with ⟨rfl,rfl⟩|⟨i,cs,rfl,g1,g2,g3,g4⟩
 ·exact⟨H.Gh,fun _ _=>rfl⟩
 ·refine⟨fun id o e=>?_,fun b hb=>Ys (fun e=>g2 (by rw[←e];exact hb))⟩;exact(Ys (fun hid=>by rw[hid,g1]at e;cases e)).trans (H.Gh id o e)
theorem Acc.app(H:Acc R s h G h' bx v out){cs c:List AV}{a:α}(hcs:Chunks (R G) s cs out)(hc:R G c a)(hl:c.length=s)(O:OSl (Ya0 h' v) s v' (cs++c) (out.length+1) h2):Acc R s h G h2 bx v' (out++[a]):=by
 obtain⟨s1,s2⟩:=H.stay;have live:∀b∈bx,h2 b=h' b:=fun b hb=>by
  have h3:=(H.bxs b hb).2;have h4:=s2 b hb;cases e:h' b with
  |none=>exact absurd e h3
  |some o=>rw[O.ext b o (by rw[h4,e])]
 refine⟨H.hG,s1.trans O.ext,fun b hb=>⟨(H.bxs b hb).1,by rw[live b hb];exact(H.bxs b hb).2⟩,?_⟩;rcases O.own with ⟨_,_,h0⟩|⟨i,e,g1,g2,g3⟩
 ·omega
 ·refine .inr ⟨i,cs++c,by rw[e];simp,?_,fun hi=>?_,g2,hcs.append (.one hl hc)⟩
  ·cases e2:G i with
   |none=>rfl
   |some o=>rw[s1 i o e2]at g1;cases g1
  ·rw[s2 i hi]at g1;exact(H.bxs i hi).2 g1
theorem Acc.live(H:Acc R s h G h' bx v out)(O:Ext (Ya0 h' v) h2)(hb:b∈bx)(e:h' b=some o):h2 b=some o:=O b o (by rw[H.stay.2 b hb,e])
theorem Acc.fold(hR:Yqy R)(H:Acc R s h G h' bx v out):∃G2,Ext G G2∧Ext G2 h'∧Sl R s G2 v out∧∀b∈bx,G2 b=none:=by
 rcases H.own with ⟨rfl,rfl⟩|⟨i,cs,rfl,g1,g2,g3,g4⟩
 ·exact⟨G,.refl,H.Gh,.nil,fun b hb=>(H.bxs b hb).1⟩
 ·refine⟨upd G i (some (.cells cs)),.upd g1,fun id o e=>?_,⟨cs,.sl i 0 _ cs cs upd_same (Yw g4.len),g4.imp fun c a=>hR _ _ c a (.upd g1)⟩,fun b hb=>?_⟩
  ·unfold upd at e;split at e
   ·rename_i hid;rw[hid,g3,e]
   ·exact H.Gh id o e
  ·rw[Ys (fun e=>g2 (by rw[←e];exact hb))];exact(H.bxs b hb).1
end
theorem Ybv:∀(a b:List AV),AV.trees (a++b)=(AV.trees a&&AV.trees b)
 |[],b=>by simp[AV.trees]
 |x::a,b=>by
  rw[cons_append];simp only[AV.trees];rw[Ybv a b,Bool.and_assoc]
theorem vsl_tree{g h:Ya}{s n:Nat}{cs:List AV}(H:VSl g s v cs n)(ht:v.tree=true):VSl h s v cs n∧AV.trees cs=true:=by
 cases H with
 |nil=>exact⟨.nil,rfl⟩
 |tsl _ _ hl=>exact⟨.tsl _ _ hl,by simpa[AV.tree]using ht⟩
 |sl _ _ _ _ _ _ _=>cases ht
def Yob {α:Type} (R:Ya→List AV→α→Prop):Prop:=∀g h c a,AV.trees c=true→R g c a→R h c a
theorem Jz{α:Type}{R:Ya→List AV→α→Prop}(hR:Yob R){g h:Ya}{s:Nat}{l:List α}(H:Sl R s g v l)(ht:v.tree=true):Sl R s h v l:=by
 obtain⟨cs,h1,h2⟩:=H;obtain⟨h3,h4⟩:=vsl_tree (h:=h) h1 ht;refine⟨cs,h3,?_⟩;clear h1 h3
 induction h2 with
 |nil=>exact .nil
 |cons hl ha H ih=>
  rw[Ybv,Za]at h4;exact .cons hl (hR _ _ _ _ h4.1 ha) (ih h4.2)
theorem tr_n{k:IntKind}:Yob (RN k):=fun _ _ _ _ _ h=>h
theorem tr_b:Yob RB:=fun _ _ _ _ _ h=>h
theorem tr_p:Yob RPair:=fun _ _ _ _ _ h=>h
theorem tr_f:Yob RFour:=fun _ _ _ _ _ h=>h
theorem tr_c:Yob RCls:=by
 rintro g h c a ht ⟨vr,vs,vt,vf,rfl,h1,h2,h3,h4⟩;simp only[AV.trees,Za]at ht;exact⟨vr,vs,vt,vf,rfl,Jz tr_b h1 ht.2.2.2.1,Jz tr_n h2 ht.2.2.2.2.1,Jz tr_n h3 ht.2.2.2.2.2.1,Jz tr_p h4 ht.2.2.2.2.2.2.1⟩
theorem tr_m:Yob RMth:=by
 rintro g h c a ht ⟨vc,vt,rfl,h1,h2⟩;simp only[AV.trees,Za]at ht;exact⟨vc,vt,rfl,Jz tr_f h1 ht.2.2.2.2.1,Jz tr_f h2 ht.2.2.2.2.2.1⟩
theorem tr_i:Yob RImg:=by
 rintro g h c a ht ⟨vc,vm,vg,vw,vr,vs,vf,rfl,h1,h2,h3,h4,h5,h6,h7⟩;simp only[AV.trees,Za]at ht;exact⟨vc,vm,vg,vw,vr,vs,vf,rfl,Jz tr_c h1 ht.1,Jz tr_m h2 ht.2.1,Jz tr_n h3 ht.2.2.2.2.1,Jz tr_n h4 ht.2.2.2.2.2.1,Jz tr_n h5 ht.2.2.2.2.2.2.1,Jz tr_n h6 ht.2.2.2.2.2.2.2.1,Jz tr_b h7 ht.2.2.2.2.2.2.2.2.1⟩
end Go.Proofs
end
section
open Go Go.Abs Go.Proofs.SlimCode Go.Img
set_option maxRecDepth 100000
namespace Go.Proofs
open List
def Z9:List AV:=[.nil .sl,.nil .sl,.int .i64 0,.int .i64 0,.nil .sl,.nil .sl,.nil .sl,.nil .sl,.nil .sl]
end Go.Proofs
end
section
open Go Go.Abs Go.Proofs.SlimCode Go.Img
namespace Go.Proofs
open List
end Go.Proofs
end
