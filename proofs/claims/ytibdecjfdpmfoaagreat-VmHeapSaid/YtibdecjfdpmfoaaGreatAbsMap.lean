import Derived.Test.YtibdecjfdpmfoaaGreatImCutAll
import Derived.Test.YtibdecjfdpmfoaaGreatAbsRegD
namespace Go.Abs
open List hiding cons nil
variable {v vx:AV} {Q:AV→Ya→Prop} {esc:Bool} {a:Int} {cs js old vs z:List AV} {bx:List Nat} {r:List SO} {args:List SX} {b d id k n off s:Nat} {L:OL} {dst:Option Nat} {x y:SX} {α:Type} {G h:Ya} {l:List α} {enc:α→List AV}
abbrev CL:=List OL
variable {R:AV→CL→Ya→Prop} {xs:CL}
def sel:List Bool→CL→CL
 |true::m,x::xs=>x::sel m xs
 |false::m,_::xs=>sel m xs
 |_,_=>[]
def rej:List Bool→CL→CL
 |true::m,_::xs=>rej m xs
 |false::m,x::xs=>x::rej m xs
 |_,xs=>xs
def mrg:List Bool→CL→CL→CL
 |true::m,_::xs,y::ys=>y::mrg m xs ys
 |true::m,_::xs,[]=>mrg m xs []
 |false::m,x::xs,ys=>x::mrg m xs ys
 |_,xs,ys=>ys++xs
theorem Ye3:∀(m:List Bool) (xs:CL),xs.flatten.Perm ((sel m xs).flatten++(rej m xs).flatten)
 |[],xs=>by cases xs<;>exact .refl _
 |true::m,[]=> .refl _
 |false::m,[]=> .refl _
 |true::m,x::xs=>by
  simp only[sel,rej,flatten_cons,append_assoc];exact(Ye3 m xs).append_left x
 |false::m,x::xs=>by
  simp only[sel,rej,flatten_cons];exact((Ye3 m xs).append_left x).trans (perm_append_comm_assoc _ _ _)
theorem Yii:∀(m:List Bool) (xs ys:CL),(mrg m xs ys).flatten.Perm (ys.flatten++(rej m xs).flatten)
 |[],xs,ys=>by
  have:rej [] xs=xs:=by cases xs<;>rfl
  rw[this];cases ys<;>cases xs<;>simp[mrg]
 |true::m,[],ys=>by cases ys<;>simp[mrg,rej]
 |false::m,[],ys=>by simp[mrg,rej]
 |true::m,x::xs,[]=>by simpa[mrg,rej]using Yii m xs []
 |true::m,x::xs,y::ys=>by
  simp only[mrg,rej,flatten_cons,append_assoc];exact(Yii m xs ys).append_left y
 |false::m,x::xs,ys=>by
  simp only[mrg,rej,flatten_cons];exact((Yii m xs ys).append_left x).trans (perm_append_comm_assoc _ _ _)
def SQ (G:Ya) (R:AV→CL→Ya→Prop):AV→Ya→Prop:=fun v h'=>∃G' ys,h'=hset G' ys.flatten∧Dis G' ys.flatten∧Ext G G'∧R v ys G'
def HM (P:Program) (A:Ann) (f:Nat) (vs:List AV) (g:Ya) (xs:CL) (R:AV→CL→Ya→Prop):Prop:=∀G,Ext g G→Dis G xs.flatten→HCallC P A f vs (hset G xs.flatten) (SQ G R)
theorem HCallC.sub{P:Program}{A:Ann}{f:Nat}{g:Ya}(m:List Bool)(hD:Dis G xs.flatten)(hg:Ext g G)(H:HM P A f vs g (sel m xs) R) :
  HCallC P A f vs (hset G xs.flatten) fun v h'=>∃G' ys,h'=hset G' (mrg m xs ys).flatten∧Dis G' (mrg m xs ys).flatten∧Ext G G'∧R v ys (hset G' (rej m xs).flatten):=by
 obtain⟨e1,d1⟩:=X5 (Ye3 m xs) hD;obtain⟨d2,d3⟩:=Yat.1 d1;rw[e1,Kl];refine(H _ (hg.trans (Yr d3)) d2).mono ?_;rintro v _ ⟨B,ys,rfl,h1,h2,h3⟩;obtain⟨G',rfl,g1,g2⟩:=Yok d3 h2;obtain⟨e2,d4⟩:=X5 (Yii m xs ys).symm (Yat.2 ⟨h1,g1⟩);exact⟨G',ys,by rw[←e2,Kl],d4,g2,h3⟩
theorem Yqr(hk:xs[k]?=some L):∃A B,xs.flatten=A++(L++B)∧∀L',(xs.set k L').flatten=A++(L'++B):=by
 induction xs generalizing k with
 |nil=>simp at hk
 |cons x xs ih=>
  cases k with
  |zero=>
   obtain rfl:x=L:=by simpa using hk
   exact⟨[],xs.flatten,rfl,fun L'=>rfl⟩
  |succ k=>
   obtain⟨A,B,h1,h2⟩:=ih (by simpa using hk);exact⟨x++A,B,by rw[flatten_cons,h1,append_assoc],fun L'=>by rw[set_cons_succ,flatten_cons,h2,append_assoc]⟩
theorem Yi(hk:xs[k]?=some L){p:Nat×AObj}(hp:p∈L):p∈xs.flatten:=mem_flatten.2 ⟨L,mem_iff_getElem?.2 ⟨k,hk⟩,hp⟩
theorem Yet{o o':AObj}(hD:Dis G xs.flatten)(hk:xs[k]?=some [(id,o)]):upd (hset G xs.flatten) id (some o')=hset G (xs.set k [(id,o')]).flatten∧Dis G (xs.set k [(id,o')]).flatten:=by
 obtain⟨A,B,h1,h2⟩:=Yqr hk;rw[h1]at hD ⊢;rw[h2];have hi:(A++([(id,o)]++B))[A.length]?=some (id,o):=by simp
 have:=Ygl (o':=o') hD hi;rwa[show(A++([(id,o)]++B)).set A.length (id,o')=A++([(id,o')]++B) by simp]at this
theorem chunk_new{i:Nat}{o:AObj}(hD:Dis G xs.flatten)(hk:xs[k]?=some L)(hi:Yv (L.map Prod.fst) (hset G xs.flatten) i=none):upd (Yv (L.map Prod.fst) (hset G xs.flatten)) i (some o)=hset G (xs.set k [(i,o)]).flatten∧Dis G (xs.set k [(i,o)]).flatten:=by
 obtain⟨A,B,h1,h2⟩:=Yqr hk;rw[h1]at hD hi ⊢;rw[h2];obtain⟨e,d⟩:=X5 (perm_append_comm_assoc A L B) hD;rw[e]at hi ⊢;rw[Kl]at hi ⊢;obtain⟨d1,d2⟩:=Yat.1 d;rw[Kw d1]at hi ⊢;obtain⟨e2,d3⟩:=X5 (perm_append_comm_assoc [(i,o)] A B) (show Dis G ([(i,o)]++(A++B)) from⟨hi,d2⟩);exact⟨e2,d3⟩
def RE {α:Type} (enc:α→List AV):Ya→List AV→α→Prop:=fun _ c a=>c=enc a
def SlE {α:Type} (enc:α→List AV) (s:Nat) (v:AV) (l:List α) (L:OL):Prop:=(v= .nil .sl∧l=[]∧L=[])∨∃i js,v= .sl i 0 l.length s∧L=[(i,.cells (l.flatMap enc++js))]
def Enc {α:Type} (enc:α→List AV) (s:Nat):Prop:=∀a,(enc a).length=s∧(enc a).all AV.one=true
section
variable {α:Type} {enc:α→List AV} {s k:Nat} {v:AV} {l:List α} {L:OL} {G:Ya} {xs:CL}
theorem enc_len(he:Enc enc s):∀l:List α,(l.flatMap enc).length=l.length*s
 |[]=>by simp
 |a::l=>by rw[flatMap_cons,length_append,enc_len he l,(he a).1,length_cons,Nat.add_mul];omega
theorem Yl4(he:Enc enc s):∀l:List α,(l.flatMap enc).all AV.one=true
 |[]=>rfl
 |a::l=>by rw[flatMap_cons,all_append,(he a).2,Yl4 he l];rfl
theorem Yky(he:Enc enc s):∀l:List α,Chunks (RE enc h) s (l.flatMap enc) l
 |[]=> .nil
 |a::l=> .cons (he a).1 rfl (Yky he l)
theorem SlE.one(H:SlE enc s v l L):v.one=true:=by
 rcases H with ⟨rfl,_⟩|⟨_,_,rfl,_⟩<;>rfl
theorem SlE.vsl(he:Enc enc s)(H:SlE enc s v l L)(hh:Has h L):VSl h s v (l.flatMap enc) l.length:=by
 rcases H with ⟨rfl,rfl,rfl⟩|⟨i,js,rfl,rfl⟩
 ·exact .nil
 ·refine .sl i 0 _ _ _ (hh _ (.head _)) ?_;unfold Yp;rw[if_pos (by rw[length_append,enc_len he];omega),drop_zero,←enc_len he,take_left]
theorem SlE.sl(he:Enc enc s)(H:SlE enc s v l L)(hh:Has h L):Sl (RE enc) s h v l:=⟨_,H.vsl he hh,Yky he l⟩
theorem Xi(hD:Dis G xs.flatten)(hk:xs[k]?=some L):Has (hset G xs.flatten) L:=fun _ hp=>Yk hD (Yi hk hp)
theorem SlE.take(_he:Enc enc s)(H:SlE enc s v l L)(hn:n≤l.length):SlE enc s (match v with | .sl i o _ z=> .sl i o n z|v=>v) (l.take n) L:=by
 rcases H with ⟨rfl,rfl,rfl⟩|⟨i,js,rfl,rfl⟩
 ·exact .inl ⟨rfl,by simp,rfl⟩
 ·refine .inr ⟨i,(l.drop n).flatMap enc++js,by rw[length_take,Nat.min_eq_left hn],?_⟩;rw[←append_assoc,←flatMap_append,take_append_drop]
theorem enc_set(he:Enc enc s){z o:Nat}{x:AV}{a:α}(hz:z<l.length)(ho:o<s)(hx:(enc l[z]).set o x=enc a):(l.flatMap enc++js).set (z*s+o) x=(l.set z a).flatMap enc++js:=by
 have e:l=l.take z++(l[z]::l.drop (z+1)):=by rw[←drop_eq_getElem_cons hz,take_append_drop]
 have hl:((l.take z).flatMap enc).length=z*s:=by rw[enc_len he,length_take,Nat.min_eq_left (by omega)]
 have e2:l.set z a=l.take z++(a::l.drop (z+1)):=by rw[set_eq_take_append_cons_drop,if_pos hz]
 rw[e2,flatMap_append,flatMap_cons,←hx]
 conv=>lhs;rw[e]
 rw[flatMap_append,flatMap_cons,append_assoc,set_append_right _ _ (by omega),hl,show z*s+o-z*s=o by omega,append_assoc,set_append_left _ _ (by rw[(he _).1];exact ho),append_assoc,append_assoc]
theorem J8(he:Enc enc s){z o:Nat}(hz:z<l.length)(ho:o<s):(l.flatMap enc++js)[z*s+o]?=(enc l[z])[o]?:=by
 have e:l=l.take z++(l[z]::l.drop (z+1)):=by rw[←drop_eq_getElem_cons hz,take_append_drop]
 have hl:((l.take z).flatMap enc).length=z*s:=by rw[enc_len he,length_take,Nat.min_eq_left (by omega)]
 conv=>lhs;rw[e]
 rw[flatMap_append,flatMap_cons,append_assoc,getElem?_append_right (by omega),hl,show z*s+o-z*s=o by omega,append_assoc,getElem?_append_left (by rw[(he _).1];exact ho)]
end
section
variable {P:Program} {A:Ann} {f nt:Nat} {E:Env} {bx:List Nat} {G:Ya} {xs:CL} {Q:AX→Env→List Nat→Ya→Prop} {h0:Ya} {q:Nat}
theorem o_ldC(hD:Dis G xs.flatten)(hq:q=0)(hlt:(decide (d<nt))=true)(hx:ev (lk E) x=some (.ptr id off))(hm:(id,AObj.cells cs)∈xs.flatten)(hv:cs[off]?=some v)
  (H:Yu P A f nt h0 (q-1) r ((d,v)::E) bx (hset G xs.flatten) Q):Yu P A f nt h0 q (⟨some d,none,.ld x none⟩::r) E bx (hset G xs.flatten) Q:=
 Y2 hlt hx (Yk hD hm) (fun h=>by omega) hv H
theorem Yfl{m:Nat}{l:List AV}(hD:Dis G xs.flatten)(hq:q=0)(hlt:(decide (d<nt))=true)(hx:ev (lk E) x=some (.ptr id off))(hm:(id,AObj.cells cs)∈xs.flatten)(hv:Yp cs off m=some l)
  (H:Yu P A f nt h0 (q-1) r ((d,.agg l)::E) bx (hset G xs.flatten) Q):Yu P A f nt h0 q (⟨some d,none,.ld x (some m)⟩::r) E bx (hset G xs.flatten) Q:=
 X3 hlt hx (Yk hD hm) (fun h=>by omega) hv H
theorem Qs(k:Nat)(hD:Dis G xs.flatten)(hq:q=0)(hd:Y8 nt dst=true)(hx:ev (lk E) x=some (.ptr id off))(hk:xs[k]?=some [(id,.cells cs)])(hy:ev (lk E) y=some v)(ho:v.one=true)
  (hlt:off<cs.length)(H:Dis G (xs.set k [(id,.cells (cs.set off v))]).flatten→Yu P A f nt h0 0 r (Qn dst E) bx (hset G (xs.set k [(id,.cells (cs.set off v))]).flatten) Q):Yu P A f nt h0 q (⟨dst,none,.st x y 1⟩::r) E bx (hset G xs.flatten) Q:=by
 obtain⟨e1,e2⟩:=Yet (o':= .cells (cs.set off v)) hD hk;exact K7 hq hd hx hy ho (Yk hD (Yi hk (.head _))) hlt (e1▸H e2)
theorem o_stC{m:Nat}{cs':List AV}(k:Nat)(hD:Dis G xs.flatten)(hq:q=0)(hd:Y8 nt dst=true)(hx:ev (lk E) x=some (.ptr id off))(hk:xs[k]?=some [(id,.cells cs)])(hy:ev (lk E) y=some v)(hm:v.cells.length=m)(ho:v.cells.all AV.one=true)
  (hs':Ql cs off v.cells=some cs')(H:Dis G (xs.set k [(id,.cells cs')]).flatten→Yu P A f nt h0 0 r (Qn dst E) bx (hset G (xs.set k [(id,.cells cs')]).flatten) Q):Yu P A f nt h0 q (⟨dst,none,.st x y m⟩::r) E bx (hset G xs.flatten) Q:=by
 obtain⟨e1,e2⟩:=Yet (o':= .cells cs') hD hk;exact Ybr hq hd hx hy hm ho (Yk hD (Yi hk (.head _))) hs' (e1▸H e2)
theorem Ylo(hD:Dis G xs.flatten)(hlt:(decide (d<nt))=true)(hx:ev (lk E) x=some v)(ho:v.cells.all AV.one=true)
  (H:∀i,Dis G ([(i,.cells v.cells)]::xs).flatten→Yu P A f nt h0 (q-1) r ((d,.ptr i 0)::E) (if esc then bx else i::bx) (hset G ([(i,.cells v.cells)]::xs).flatten) Q):Yu P A f nt h0 q (⟨some d,none,.hbox esc x⟩::r) E bx (hset G xs.flatten) Q:=
 Yln hD hlt hx ho H
theorem Jd(hD:Dis G xs.flatten)(hlt:(decide (d<nt))=true)
  (H:∀i,Dis G ([(i,.cells z)]::xs).flatten→Yu P A f nt h0 (q-1) r ((d,.ptr i 0)::E) (if esc then bx else i::bx) (hset G ([(i,.cells z)]::xs).flatten) Q):Yu P A f nt h0 q (⟨some d,none,.alc esc z⟩::r) E bx (hset G xs.flatten) Q:=
 Kc hD hlt H
theorem o_mkC{m:Int}(hD:Dis G xs.flatten)(hlt:(decide (d<nt))=true)(hx:ev (lk E) x=some (.int .i64 m))(hy:ev (lk E) y=some (.int .i64 m))(h0m:0≤m)(hbd:m*(b+1)≤2^40)
  (H:∀i,Dis G ([(i,.cells (X6 z (m.toNat*s)))]::xs).flatten→Yu P A f nt h0 (q-1) r ((d,.sl i 0 m.toNat s)::E) bx (hset G ([(i,.cells (X6 z (m.toNat*s)))]::xs).flatten) Q):Yu P A f nt h0 q (⟨some d,none,.mks false z s b x y⟩::r) E bx (hset G xs.flatten) Q:=
 o_mkL hD hlt hx hy h0m hbd H
theorem Q4{g:Ya}{gf:Nat}{first cap:List AV}(m:List Bool)(hD:Dis G xs.flatten)(hg:Ext g G)(hq:q=0)(hd:Y8 nt dst=true)(hx:ev (lk E) x=some (.fn gf first cap))(ha:evS (lk E) args=some vs)
  (hc:HM P A gf (first++vs++cap) g (sel m xs) R)(H:∀v ys G',R v ys (hset G' (rej m xs).flatten)→Ext G G'→Dis G' (mrg m xs ys).flatten→Yu P A f nt h0 0 r (Ysa dst v E) bx (hset G' (mrg m xs ys).flatten) Q):Yu P A f nt h0 q (⟨dst,none,.call x args⟩::r) E bx (hset G xs.flatten) Q:=
 Yb hq hd hx ha (HCallC.sub m hD hg hc) fun v h' ⟨G',ys,e,d,hx',hR⟩=>by subst e;exact H v ys G' hR hx' d
def Jj (P:Program) (A:Ann) (g:Nat) (vs:List AV) (h:Ya) (v:AV):Prop:=HCallC P A g vs h fun w h'=>w=v∧h'=h
theorem Xh{g:Nat}{first cap:List AV}(hc:Jj P A g (first++vs++cap) h v)(hq:q=0:=by exact rfl)(hd:Y8 nt dst=true:=by exact rfl)(hx:ev (lk E) x=some (.fn g first cap):=by exact rfl)(ha:evS (lk E) args=some vs:=by exact rfl)
  (H:Yu P A f nt h0 0 r (Ysa dst v E) bx h Q):Yu P A f nt h0 q (⟨dst,none,.call x args⟩::r) E bx h Q:=
 Yb hq hd hx ha hc fun _ _ ⟨e1,e2⟩=>by subst e1;subst e2;exact H
theorem J2{bs ys:CL}(hD:Dis G (bs++ys).flatten)(hb:∀i,i∈bx↔i∈bs.flatten.map Prod.fst):Yv bx (hset G (bs++ys).flatten)=hset G ys.flatten∧Dis G ys.flatten:=by
 rw[flatten_append]at hD ⊢;obtain⟨d1,d2⟩:=Yat.1 hD;rw[Kl];exact⟨kill_as d1 hb,d2⟩
end
section
variable {P:Program} {A:Ann} {f nt:Nat} {E:Env} {bx:List Nat} {h G:Ya} {xs:CL} {Q:AX→Env→List Nat→Ya→Prop} {h0:Ya} {q:Nat}
def SlJ (h:Ya) (s:Nat) (v:AV) (old:List AV) (l:Nat):Prop:=(v= .nil .sl∧old=[]∧l=0)∨∃i js,v= .sl i 0 l s∧h i=some (.cells (old++js))∧old.length=l*s
def AppR (h:Ya) (s:Nat) (v:AV) (old:List AV) (l:Nat) (new:List AV) (n:Nat) (v1:AV) (h1:Ya):Prop:=(n=0∧v1=v∧h1=h)∨∃j,v1= .sl j 0 (l+n) s∧Ya0 h v j=none∧h1=upd (Ya0 h v) j (some (.cells (old++new)))
theorem Yk7{l n':Nat}{new:List AV}(H0:SlJ h s v old l)(hn:Qt h n'):∃v1 h1 n1 lg,Qz s v new n h n'=some (v1,h1,n1,lg)∧AppR h s v old l new n v1 h1:=by
 by_cases h0:n=0
 ·exact⟨v,h,n',([],[]),by simp[Qz,h0,AM.pure],.inl ⟨h0,rfl,rfl⟩⟩
 rcases H0 with ⟨rfl,rfl,rfl⟩|⟨i,js,rfl,hi,hl⟩
 ·refine⟨.sl n' 0 n s,upd h n' (some (.cells new)),n'+1,([],[]),?_,.inr ⟨n',by rw[Nat.zero_add],hn n' (Zl _),rfl⟩⟩;unfold Qz;rw[if_neg h0];rfl
 ·have hsl:Yp (old++js) 0 (l*s)=some old:=by
   unfold Yp;rw[if_pos (by rw[length_append];omega),drop_zero,←hl,take_left]
  refine⟨.sl n' 0 (l+n) s,upd (upd h i none) n' (some (.cells (old++new))),n'+1,([i]++[]++([]++([]++[])),[]++[]++([i]++([]++[]))),?_,.inr ⟨n',rfl,?_,rfl⟩⟩
  ·unfold Qz;rw[if_neg h0];simp only[if_true];simp only[AM.bind,Xt,AM.get,hi,AM.lift,hsl,AM.kill,AM.new,AM.pure]
  ·show upd h i none n'=none;unfold upd;split
   ·rfl
   ·exact hn n' (Zl _)
theorem SlJ.len{l:Nat}(H:SlJ h s v old l):Yfo v=some l:=by
 rcases H with ⟨rfl,_,rfl⟩|⟨_,_,rfl,_⟩<;>rfl
theorem o_appJ{vy:AV}{new:List AV}{l:Nat}(hq:q=0)(hlt:(decide (d<nt))=true)(hx:ev (lk E) x=some vx)(hy:ev (lk E) y=some vy)(H0:SlJ h s vx old l)(hsrc:Yaf s h vy=some (new,n))
  (hlen:new.length=n*s)(hone:new.all AV.one=true)(hbd:(l+n)*(b+1)≤2^44)
  (H:∀v h1,AppR h s vx old l new n v h1→Yu P A f nt h0 0 r ((d,v)::E) bx h1 Q):Yu P A f nt h0 q (⟨some d,none,.app s b x y⟩::r) E bx h Q:=by
 subst hq;refine o_heap (Q1:=fun v h1=>AppR h s vx old l new n v h1) ?_ ?_
 ·intro o rg hd e hs;obtain⟨x0,y0,t,u,args,ts,e',zz,hop,ha,ht,hx0,hy0,q1,q2,q3,q4,q5,q6,q7,⟨qq,hu⟩,hro⟩:=Xw (Yfa e rfl (by simp));refine Ybk (by simp[NC,hop]) hro (fun n' hn=>?_);obtain⟨rd,hrd,hrd2⟩:=Yiw (n:=n') hsrc;obtain⟨v1,h1,n1,lg,e1,e2⟩:=Yk7 (new:=new) (n:=n) H0 hn;refine⟨v1,h1,n1,(rd++lg.1,lg.2),?_,Kk,e2⟩;rw[hop];simp only[opM,ha,ht,evs,Yg hs hx0 hx,Yg hs hy0 hy,Option.map_some,Yd,Yj,Q7,Ycd,q1,q2,q3,q4,hu];rw[if_pos ⟨q5,q6,q7⟩];refine(Xq hrd (h2:=h1) (n2:=n1) (b:=v1) (l2:=lg) ?_).trans (by simp);simp only[H0.len];rw[if_pos ⟨hbd,hlen,hone⟩];exact e1
 ·rintro v h1 o rg hd e hv;obtain⟨x0,y0,t,u,args,ts,e',zz,hop,_⟩:=Xw (Yfa e rfl (by simp));exact⟨bx,Jx hd (by simpa[Y8]using hlt) (by rw[hop];rfl),H v h1 hv⟩
theorem zeros_len:(X6 z n).length=n:=by simp[X6]
theorem zeros_one(hz:z.all AV.one=true)(h0:0<z.length):(X6 z n).all AV.one=true:=by
 unfold X6;rw[all_map,all_eq_true];intro i _;have hi:i%z.length<z.length:=Nat.mod_lt _ h0;show AV.one (z.getD _ _)=true;rw[Zd,Zg hi];exact all_eq_true.1 hz _ (getElem_mem hi)
theorem Yg2(h0:0<z.length):∀n:Nat,X6 z (n*z.length)=(List.replicate n z).flatten
 |0=>by simp[X6]
 |n+1=>by
  have ih:=Yg2 h0 n;unfold X6 at ih ⊢;rw[Nat.add_mul,Nat.one_mul,range_add,map_append,ih,replicate_succ',flatten_append,flatten_singleton,map_map]
  congr 1
  apply ext_getElem
  ·simp
  ·intro i h1 h2;simp only[length_map,length_range]at h1;simp only[getElem_map,getElem_range,Function.comp_apply];rw[Nat.mul_comm n,Nat.mul_add_mod,Nat.mod_eq_of_lt h1,Zd,Zg h1];rfl
theorem o_appzJ{l:Nat}{k:IntKind}{n:Int}(hq:q=0)(hlt:(decide (d<nt))=true)(hx:ev (lk E) x=some vx)(hy:ev (lk E) y=some (.int k n))(H0:SlJ h s vx old l)(h1n:0≤n)(h2n:n≤2^30)(hbd:(l+n.toNat)*(b+1)≤2^44)
  (H:∀v h1,AppR h s vx old l (X6 z (n.toNat*s)) n.toNat v h1→Yu P A f nt h0 0 r ((d,v)::E) bx h1 Q):Yu P A f nt h0 q (⟨some d,none,.appz s b z x y⟩::r) E bx h Q:=by
 subst hq;refine o_heap (Q1:=fun v h1=>AppR h s vx old l (X6 z (n.toNat*s)) n.toNat v h1) ?_ ?_
 ·intro o rg hd e hs;obtain⟨x0,y0,t,u,args,ts,e',zz,hop,ha,ht,hx0,hy0,q1,q2,q3,q4,rfl,q5,q6,q7,⟨qq,hu⟩,hro⟩:=Xw (Yfa e rfl (by simp));refine Ybk (by simp[NC,hop]) hro (fun n' hn=>?_);obtain⟨v1,h1,n1,lg,e1,e2⟩:=Yk7 (new:=X6 zz.cells (n.toNat*s)) (n:=n.toNat) H0 hn;refine⟨v1,h1,n1,lg,?_,Kk,e2⟩;rw[hop];simp only[opM,ha,ht,evs,Yg hs hx0 hx,Yg hs hy0 hy,Option.map_some,Yd,Yj,Q7,Ycd,q1,q2,q3,q4,hu];rw[if_pos ⟨q5,q6,q7⟩];simp only[if_pos (show 0≤n∧n≤2^30 from⟨h1n,h2n⟩),Yj,H0.len];rw[if_pos ⟨hbd,zeros_len,zeros_one q7 (by omega)⟩];exact e1
 ·rintro v h1 o rg hd e hv;obtain⟨x0,y0,t,u,args,ts,e',zz,hop,_⟩:=Xw (Yfa e rfl (by simp));exact⟨bx,Jx hd (by simpa[Y8]using hlt) (by rw[hop];rfl),H v h1 hv⟩
variable {α:Type} {enc:α→List AV} {s:Nat}
theorem SlE.J(he:Enc enc s){v:AV}{l:List α}{L:OL}(H:SlE enc s v l L)(hh:Has h L):SlJ h s v (l.flatMap enc) l.length:=by
 rcases H with ⟨rfl,rfl,rfl⟩|⟨i,js,rfl,rfl⟩
 ·exact .inl ⟨rfl,rfl,rfl⟩
 ·exact .inr ⟨i,js,rfl,hh _ (.head _),enc_len he l⟩
theorem SlE.app(_he:Enc enc s){v v1:AV}{l m:List α}{L:OL}{k:Nat}{h1:Ya}(H:SlE enc s v l L)(hD:Dis G xs.flatten)(hk:xs[k]?=some L)(hR:AppR (hset G xs.flatten) s v (l.flatMap enc) l.length (m.flatMap enc) m.length v1 h1) :
  ∃L',SlE enc s v1 (l++m) L'∧h1=hset G (xs.set k L').flatten∧Dis G (xs.set k L').flatten:=by
 rcases hR with ⟨e,rfl,rfl⟩|⟨j,rfl,hj,rfl⟩
 ·obtain rfl:=length_eq_zero_iff.1 e;have hs:xs.set k L=xs:=by
   obtain⟨h1,h2⟩:=Zi.1 hk;rw[←h2];exact set_getElem_self h1
  exact⟨L,by rw[append_nil];exact H,by rw[hs],by rw[hs];exact hD⟩
 ·have hm:Ya0 (hset G xs.flatten) v=Yv (L.map Prod.fst) (hset G xs.flatten):=by
   rcases H with ⟨rfl,rfl,rfl⟩|⟨i,js,rfl,rfl⟩
   ·rfl
   ·funext id;show upd _ i none id=_;unfold upd Yv;simp
  rw[hm]at hj ⊢;obtain⟨e1,e2⟩:=chunk_new (o:= .cells (l.flatMap enc++m.flatMap enc)) hD hk hj;exact⟨_,.inr ⟨j,[],by rw[length_append],by rw[append_nil,flatMap_append]⟩,e1,e2⟩
theorem Ydx{d b:Nat}{x y:SX}{r:List SO}{vx vy:AV}{l m:List α}{L:OL}(k:Nat)(he:Enc enc s)(H0:SlE enc s vx l L)(hD:Dis G xs.flatten)(hq:q=0)(hlt:(decide (d<nt))=true)(hx:ev (lk E) x=some vx)(hy:ev (lk E) y=some vy)(hk:xs[k]?=some L)
  (hsrc:Yaf s (hset G xs.flatten) vy=some (m.flatMap enc,m.length))(hbd:(l.length+m.length)*(b+1)≤2^44)
  (H:∀v L',SlE enc s v (l++m) L'→Dis G (xs.set k L').flatten→Yu P A f nt h0 0 r ((d,v)::E) bx (hset G (xs.set k L').flatten) Q):Yu P A f nt h0 q (⟨some d,none,.app s b x y⟩::r) E bx (hset G xs.flatten) Q:=
 o_appJ hq hlt hx hy (H0.J he (Xi hD hk)) hsrc (enc_len he m) (Yl4 he m) hbd fun v h1 hR=>by
  obtain⟨L',h1,rfl,h3⟩:=H0.app he hD hk hR;exact H v L' h1 h3
theorem o_appzE{d b:Nat}{z:List AV}{x y:SX}{r:List SO}{vx:AV}{l:List α}{L:OL}{kk:IntKind}{n:Int}(k:Nat)(a:α)(he:Enc enc s)(hz:z=enc a)(hs:0<s)(H0:SlE enc s vx l L)(hD:Dis G xs.flatten)(hq:q=0)(hlt:(decide (d<nt))=true)(hx:ev (lk E) x=some vx)(hy:ev (lk E) y=some (.int kk n))(hk:xs[k]?=some L)
  (h1n:0≤n)(h2n:n≤2^30)(hbd:(l.length+n.toNat)*(b+1)≤2^44)
  (H:∀v L',SlE enc s v (l++List.replicate n.toNat a) L'→Dis G (xs.set k L').flatten→Yu P A f nt h0 0 r ((d,v)::E) bx (hset G (xs.set k L').flatten) Q):Yu P A f nt h0 q (⟨some d,none,.appz s b z x y⟩::r) E bx (hset G xs.flatten) Q:=
 o_appzJ hq hlt hx hy (H0.J he (Xi hD hk)) h1n h2n hbd fun v h1 hR=>by
  have e:X6 z (n.toNat*s)=(List.replicate n.toNat a).flatMap enc:=by
   subst hz;rw[show n.toNat*s=n.toNat*(enc a).length by rw[(he a).1],Yg2 (by rw[(he a).1];exact hs),flatMap_def,map_replicate]
  rw[e]at hR;obtain⟨L',h1,rfl,h3⟩:=H0.app he (m:=List.replicate n.toNat a) hD hk (by rw[length_replicate];exact hR);exact H v L' h1 h3
end
def Yjz (l:List (Int×Int)):AObj:= .map (l.map fun p=>(.int .i64 p.1,.int .i64 p.2))
theorem Yl3:∀(l:List (Int×Int)) (i:Nat),(∃j v,l.lookup a=some v∧Ygq (.int .i64 a) (l.map fun p=>(.int .i64 p.1,.int .i64 p.2)) i=some (some (j,.int .i64 v)))∨(l.lookup a=none∧Ygq (.int .i64 a) (l.map fun p=>(.int .i64 p.1,.int .i64 p.2)) i=some none)
 |[],i=> .inr ⟨rfl,rfl⟩
 |p::l,i=>by
  by_cases h:a=p.1
  ·refine .inl ⟨i,p.2,?_,?_⟩
   ·simp[List.lookup,h]
   ·simp[Ygq,Yro,h]
  ·have e1:(p::l).lookup a=l.lookup a:=by simp[List.lookup,beq_eq_false_iff_ne.2 h]
   have e2:∀i,Ygq (.int .i64 a) ((p::l).map fun p=>(.int .i64 p.1,.int .i64 p.2)) i=Ygq (.int .i64 a) (l.map fun p=>(.int .i64 p.1,.int .i64 p.2)) (i+1):=fun i=>by
    have:(a==p.1)=false:=beq_eq_false_iff_ne.2 h;simp[Ygq,Yro,this]
   rw[e1,e2];exact Yl3 l (i+1)
section
variable {P:Program} {A:Ann} {f nt:Nat} {E:Env} {bx:List Nat} {h G:Ya} {xs:CL} {Q:AX→Env→List Nat→Ya→Prop} {h0:Ya} {q:Nat}
theorem mk_int{t:TypeId}{k:IntKind}(h:mkOf P t=some (.int k)):P.underlying t=some (.int k):=by
 unfold mkOf at h;split at h
 ·rename_i k' e;cases h;exact e
 ·cases h
 ·cases h
 ·cases h
theorem o_mkmC(hD:Dis G xs.flatten)(hq:q=0)(hlt:(decide (d<nt))=true)
  (H:∀i,Dis G ([(i,Yjz [])]::xs).flatten→Yu P A f nt h0 0 r ((d,.map i)::E) bx (hset G ([(i,Yjz [])]::xs).flatten) Q):Yu P A f nt h0 q (⟨some d,none,.mkm⟩::r) E bx (hset G xs.flatten) Q:=by
 subst hq;refine o_heap (Q1:=fun w h1=>∃i,hset G xs.flatten i=none∧w= .map i∧h1=upd (hset G xs.flatten) i (some (Yjz []))) ?_ ?_
 ·intro o rg hd e hs;obtain⟨t,kt,et,hop,hu,hro⟩:=Xw (Yfa e rfl (by simp));refine Ybk (by simp[NC,hop]) hro (fun n' hn=>?_);refine⟨.map n',upd (hset G xs.flatten) n' (some (.map [])),n'+1,([]++[],[]++[]),?_,Kk,n',hn n' (Zl _),rfl,rfl⟩;rw[hop];simp only[opM,hu];rfl
 ·rintro v h1 o rg hd e ⟨i,hi,rfl,rfl⟩;obtain⟨t,kt,et,hop,hu,hro⟩:=Xw (Yfa e rfl (by simp));exact⟨bx,Jx hd (by simpa[Y8]using hlt) (by rw[hop];rfl),H i ⟨hi,hD⟩⟩
theorem o_lkuC{_z:List AV}{ok:Bool}{l:List (Int×Int)}(hq:q=0)(hlt:(decide (d<nt))=true)(hx:ev (lk E) x=some (.map id))(hy:ev (lk E) y=some (.int .i64 a))(hid:h id=some (Yjz l))
  (H:Yu P A f nt h0 0 r ((d,match l.lookup a with|some v=>if ok then .tup [.int .i64 v,.bool true] else .int .i64 v|none=>if ok then .tup [.int .i64 0,.bool false] else .int .i64 0)::E) bx h Q):Yu P A f nt h0 q (⟨some d,none,.lku (.int .i64) (.int .i64 0) x y ok⟩::r) E bx h Q:=by
 subst hq;refine o_heap (Q1:=fun w h1=>w=(match l.lookup a with|some v=>if ok then .tup [.int .i64 v,.bool true] else .int .i64 v|none=>if ok then .tup [.int .i64 0,.bool false] else .int .i64 0)∧h1=h) ?_ ?_
 ·intro o rg hd e hs;obtain⟨t,x0,k0,kt,et,hop,hm,hu,hz,hx0,hk0,hro⟩:=Xw (Yfa e rfl (by simp));refine Ybk (by simp[NC,hop]) hro (fun n' hn=>?_);have hkk:J3 P kt (.int .i64 a)=true:=by
   unfold J3;rw[mk_int hm];rfl
  rw[hop];simp only[opM,Yg hs hx0 hx,Yg hs hk0 hy,Yd,Yj,Yhf,hu,hkk,if_true];rcases Yl3 (a:=a) l 0 with ⟨j,v,e1,e2⟩|⟨e1,e2⟩
  ·refine⟨_,h,n',([id],[]),?_,Kk,rfl,rfl⟩;simp only[AM.bind,AM.get,hid,Yjz,AM.pure,e1,e2,hz];rfl
  ·refine⟨_,h,n',([id],[]),?_,Kk,rfl,rfl⟩;simp only[AM.bind,AM.get,hid,Yjz,AM.pure,e1,e2,hz];rfl
 ·rintro v h1 o rg hd e ⟨rfl,rfl⟩;obtain⟨t,x0,k0,kt,et,hop,_⟩:=Xw (Yfa e rfl (by simp));exact⟨bx,Jx hd (by simpa[Y8]using hlt) (by rw[hop];rfl),H⟩
theorem o_mupC{w:SX}{l:List (Int×Int)}{b:Int}(k:Nat)(hD:Dis G xs.flatten)(hq:q=0)(hd0:Y8 nt dst=true)(hx:ev (lk E) x=some (.map id))(hy:ev (lk E) y=some (.int .i64 a))(hw:ev (lk E) w=some (.int .i64 b))(hk:xs[k]?=some [(id,Yjz l)])(hn:l.lookup a=none)
  (H:Dis G (xs.set k [(id,Yjz (l++[(a,b)]))]).flatten→Yu P A f nt h0 0 r (Qn dst E) bx (hset G (xs.set k [(id,Yjz (l++[(a,b)]))]).flatten) Q):Yu P A f nt h0 q (⟨dst,none,.mup (.int .i64) x y w⟩::r) E bx (hset G xs.flatten) Q:=by
 subst hq;obtain⟨c1,c2⟩:=Yet (o':=Yjz (l++[(a,b)])) hD hk;have hid:hset G xs.flatten id=some (Yjz l):=Yk hD (Yi hk (.head _));refine o_heap (Q1:=fun w h1=>w= .undef∧h1=upd (hset G xs.flatten) id (some (Yjz (l++[(a,b)])))) ?_ ?_
 ·intro o rg hd e hs;obtain⟨t,x0,k0,v0,kt,et,hm,hop,hu,hx0,hk0,hv0,hro⟩:=Xw (Yfa e rfl (by simp));refine Ybk (by rcases hop with hop|hop<;>simp[NC,hop]) hro (fun n' hn'=>?_);have hkk:J3 P kt (.int .i64 a)=true:=by
   unfold J3;rw[mk_int hm];rfl
  rcases Yl3 (a:=a) l 0 with ⟨j,v,e1,e2⟩|⟨e1,e2⟩
  ·rw[hn]at e1;cases e1
  ·refine⟨_,_,n',([id]++([]++[]),[]++([id]++[])),?_,Kk,rfl,rfl⟩;rcases hop with hop|hop<;>rw[hop]<;>simp only[opM,Yg hs hx0 hx,Yg hs hk0 hy,Yg hs hv0 hw,Yd,Yj,Ya6,hu,hkk,if_true]<;>simp only[AM.bind,AM.get,hid,Yjz,e2,AM.set,AM.pure,map_append,map_cons,map_nil]
 ·rintro v h1 o rg hd e ⟨rfl,rfl⟩;obtain⟨t,x0,k0,v0,kt,et,hm,hop,_⟩:=Xw (Yfa e rfl (by simp));rw[c1];cases dst with
  |none=>exact⟨bx,put_none hd,H c2⟩
  |some dd=>exact⟨bx,Jx hd (by simpa[Y8]using hd0) (by rcases hop with hop|hop<;>rw[hop]<;>rfl),H c2⟩
def hretZ (P:Program) (A:Ann) (f:Nat) (l:List ResultVar) (Q:AV→Ya→Prop):AX→Env→List Nat→Ya→Prop:=fun x E bx h1=>match x with
 |.exit _=>False
 |_=>∃vs v h2,ResR P E h1 l vs∧A.fz f=true∧fzV 1000 (Yx vs) h1=some (v,h2)∧Q v (Yv bx h2)
theorem Yns{l:List ResultVar}{h1 h2:Ya}{Q:AV→Ya→Prop}{E:Env}{bx:List Nat}{vs:List AV}{v:AV}(e1:ResR P E h1 l vs)(e2:A.fz f=true)(e3:fzV 1000 (Yx vs) h1=some (v,h2))(e4:Q v (Yv bx h2)):hretZ P A f l Q .ret E bx h1:=⟨vs,v,h2,e1,e2,e3,e4⟩
theorem Ye4(hst:A.still f=false){fn:Func}{sc:SC}{args:List AV}{h:Ya}{Q:AV→Ya→Prop}(hp:(A.pure f&&AV.trees args)=false)(hf:P.funcs[f]?=some fn)(hb:fn.body.bind (slC P A f)=some sc)(hn:(fn.name == "runtime.NumGoroutine" || decide (fn.ntmps<args.length))=false)
  (run:Yb5 P A f fn.ntmps sc (Yhl 0 args) [] h (hretZ P A f fn.results.toList Q)):HCallC P A f args h Q:=by
 obtain⟨c,hcb,hsc⟩:=Option.bind_eq_some_iff.1 hb;intro n hh;have hsat:Sat (lk (Yhl 0 args)) (Qi args):=Ych args 0 _ (fun j a hj=>by simp[Qi,hj]);obtain⟨k,x,fr',h1,n1,lg,e,E',hs',q⟩:=run c (Qi args) hsc hsat n hh;have hcl:∀g vs,Local (Xg P A k g vs):=fun g vs=>Xa P A k g vs;obtain⟨own,hle⟩:=Yig hcl k c hh e;have hx:(∀i,x≠ .exit i)∧∃vs v h2,ResR P E' h1 fn.results.toList vs∧A.fz f=true∧fzV 1000 (Yx vs) h1=some (v,h2)∧Q v (Yv fr'.boxes h2):=by
  cases x with
  |exit i=>exact q.elim
  |norm=>exact⟨by simp,q⟩
  |ret=>exact⟨by simp,q⟩
 obtain⟨hx1,vs,v,h2,hvs,hfz,hz,hq⟩:=hx;obtain⟨rd,er⟩:=hvs.run hs' n1;obtain⟨lz,ez⟩:=Ynw 1000 _ _ _ _ n1 hz;have hbody:body (Xg P A k) P A k f args h n=some ((v,fr'.boxes),h2,n1,(lg.1++(rd++(lz.1++[])),lg.2++([]++(lz.2++[])))):=by
  unfold body;simp only[hf,hcb,hn,Zf,if_false];have e2:=Xq (f:=fun vs=>AM.bind (if A.fz f then Xy 1000 (Yx vs) else AM.pure (Yx vs)) fun v=>AM.pure (v,fr'.boxes)) (l2:=(lz.1++[],lz.2++[])) (b:=(v,fr'.boxes)) (h2:=h2) (n2:=n1) er (by simp only[hfz,if_true];exact Xq (l2:=([],[])) ez rfl);refine(Xq (l2:=(rd++(lz.1++[]),[]++(lz.2++[]))) (b:=(v,fr'.boxes)) (h2:=h2) (n2:=n1) e ?_);cases x with
  |exit i=>exact absurd rfl (hx1 i)
  |norm=>exact e2
  |ret=>exact e2
 have hfree:Q2 n n1 h2 fr'.boxes=Yv fr'.boxes h2:=by
  funext id;unfold Q2 Yv;by_cases hb:fr'.boxes.contains id=true
  ·have:=own id (by simpa using hb);simp only[not_mem_nil,false_or]at this;rw[if_pos ⟨this.1,this.2,hb⟩,if_pos hb]
  ·rw[if_neg (fun h=>hb h.2.2),if_neg hb]
 refine⟨k+1,v,Yv fr'.boxes h2,n1,((lg.1++(rd++(lz.1++[]))).filter (· < n),(lg.2++([]++(lz.2++[]))).filter (· < n)),?_,hq⟩;unfold Xg;rw[hp];simp only[Zf,if_false];unfold Ycb;rw[hbody];simp only[Ybn];rw[if_neg (by rw[hst];simp),hfree]
theorem Yo1(he:Enc enc s)(ha:∀a h,∀x∈enc a,fzV k x h=some (x,h))(H:SlE enc s v l L)(hD:Dis h ([L]:CL).flatten):∃w,fzV (k+1) v (hset h ([L]:CL).flatten)=some (w,h)∧TSl s w (l.flatMap enc) l.length:=by
 rcases H with ⟨rfl,rfl,rfl⟩|⟨i,js,rfl,rfl⟩
 ·exact⟨.nil .sl,Ygo rfl,.nil⟩
 ·have hl:=enc_len he l;have key:∀(cs:List AV),(∀x∈cs,fzV k x h=some (x,h))→fzW (fzV k) cs h=some (cs,h):=by
   intro cs
   induction cs with
   |nil=>exact fun _=>rfl
   |cons c cs ih=>exact fun hc=>Yb2 (hc c (.head _)) (ih fun x hx=>hc x (.tail _ hx))
  refine⟨.tsl (l.flatMap enc) l.length,?_,.tsl _ _ hl⟩;have e1:=fzV_sl (k:=k) (id:=i) (off:=0) (len:=l.length) (sz:=s) (h:=hset h ([[(i,.cells (l.flatMap enc++js))]]:CL).flatten) (l:=l.flatMap enc) (l':=l.flatMap enc) (h':=h) (cs:=l.flatMap enc++js) upd_same (by unfold Yp;rw[if_pos (by rw[length_append];omega),drop_zero,←hl,take_left]) (by
   rw[show upd (hset h ([[(i,AObj.cells (l.flatMap enc++js))]]:CL).flatten) i none=h from Yk9 hD.1];exact key _ fun x hx=>by obtain⟨a,_,hx⟩:=mem_flatMap.1 hx;exact ha a h x hx)
  exact e1
theorem fz_SlE(he:Enc enc s)(ha:∀a h,∀x∈enc a,fzV 999 x h=some (x,h))(H:SlE enc s v l L)(hD:Dis h ([L]:CL).flatten):∃w,fzV 1000 v (hset h ([L]:CL).flatten)=some (w,h)∧TSl s w (l.flatMap enc) l.length:=Yo1 he ha H hD
end
end Go.Abs
