import Derived.Test.YtibdecjfdpmfoaaGreatAbsSlimH
namespace Go.Abs
open List hiding nil
variable {v vx vy:AV} {esc w:Bool} {k:IntKind} {cs new old vs z:List AV} {bx0:List Nat} {l:List ResultVar} {r:List SO} {a b d e i id j n n' off s:Nat} {dst:Option Nat} {p:Prop} {x y:SX} {β σ:Type} {h h' hb:Ya} {f:Nat→β} {env:σ→Env} {m:σ→Nat} {HI:σ→Ya→Prop}
theorem upd_same{v:β}:upd f i v i=v:=if_pos rfl
theorem Ys{v:β}(h:j≠i):upd f i v j=f j:=if_neg h
theorem Xm{v w:β}:upd (upd f i v) i w=upd f i w:=by
 funext j;unfold upd;split<;>rfl
theorem Yk9{v:Option AObj}(hi:h i=none):upd (upd h i v) i none=h:=by
 funext j;unfold upd;split
 ·rename_i e;rw[e,hi]
 ·rfl
theorem upd_comm{v w:β}(h:i≠j):upd (upd f i v) j w=upd (upd f j w) i v:=by
 funext k;unfold upd;split
 ·rename_i e;rw[if_neg (fun e'=>h (e'.symm.trans e))]
 ·rfl
theorem live_ne{o:AObj}(hi:h i=some o)(hj:h j=none):j≠i:=fun e=>by rw[e,hi]at hj;cases hj
def Yaf (s:Nat) (h:Ya):AV→Option (List AV×Nat)
 |.nil .sl=>some ([],0)
 |.str b=>some (b.map (fun b=> .int .u8 b.toNat),b.length)
 |.sl id off n sz=>if sz=s then(match h id with
  |some (.cells cs)=>(match Yp cs off (n*s) with
   |some l=>some (l,n)
   |none=>none)
  |_=>none) else none
 |.tsl cs n=>match Yp cs 0 (n*s) with
  |some l=>some (l,n)
  |none=>none
 |_=>none
theorem Yiw{y:AV}{m:Nat}(e:Yaf s h y=some (cs,m)):∃rd,srcA s y h n=some ((cs,m),h,n,(rd,[]))∧∀id∈rd,∃o l z,y= .sl id o l z:=by
 cases y with
 |nil k=>
  cases k<;>simp[Yaf]at e
  obtain⟨rfl,rfl⟩:=e;exact⟨[],rfl,by simp⟩
 |str b=>
  simp only[Yaf,Zs,Zp]at e;obtain⟨rfl,rfl⟩:=e;exact⟨[],rfl,by simp⟩
 |sl id off k sz=>
  simp only[Yaf]at e;split at e
  ·rename_i hs;split at e
   ·rename_i cs0 hid;split at e
    ·rename_i l hl;simp only[Zs,Zp]at e;obtain⟨rfl,rfl⟩:=e;refine⟨[id],?_,by simp⟩;simp only[srcA];rw[if_pos hs];simp only[AM.bind,Xt,AM.get,hid,AM.lift,hl,AM.pure];rfl
    ·cases e
   ·cases e
  ·cases e
 |tsl cs0 k=>
  simp only[Yaf]at e;split at e
  ·rename_i l hl;simp only[Zs,Zp]at e;obtain⟨rfl,rfl⟩:=e;refine⟨[],?_,by simp⟩;simp only[srcA,hl,AM.bind,AM.lift,AM.pure];rfl
  ·cases e
 |_=>simp[Yaf]at e
inductive HasSl (hb:Ya) (s:Nat):AV→List AV→Nat→Ya→Prop where
 |nil:HasSl hb s (.nil .sl) [] 0 hb
 |sl (i:Nat) (cs:List AV) (n:Nat) (hi:hb i=none) (hl:cs.length=n*s):HasSl hb s (.sl i 0 n s) cs n (upd hb i (some (.cells cs)))
inductive TSl (s:Nat):AV→List AV→Nat→Prop where
 |nil:TSl s (.nil .sl) [] 0
 |tsl (cs:List AV) (n:Nat) (hl:cs.length=n*s):TSl s (.tsl cs n) cs n
section
variable {P:Program} {A:Ann} {f nt:Nat} {E:Env} {bx:List Nat} {h:Ya} {Q:AX→Env→List Nat→Ya→Prop} {h0:Ya} {q:Nat}
theorem Yw{α:Type}{l:List α}(h:l.length=n):Yp l 0 n=some l:=by
 unfold Yp;rw[if_pos (by omega),drop_zero,Zk (by omega)]
theorem Yf0{hb:Ya}{s l n:Nat}{v:AV}{old new:List AV}(H0:HasSl hb s v old l h)(hlen:new.length=n*s){n':Nat}(hn:Qt h n') :
  ∃v1 h1 n1 lg,Qz s v new n h n'=some (v1,h1,n1,lg)∧HasSl hb s v1 (old++new) (l+n) h1∧(v= .nil .sl→lg=([],[])):=by
 rcases Nat.eq_zero_or_pos n with h0|hpos
 ·subst h0;have:new=[]:=by
   rw[Nat.zero_mul]at hlen;exact length_eq_zero_iff.1 hlen
  subst this;refine⟨v,h,n',([],[]),by simp[Qz,AM.pure],by simpa using H0,fun _=>rfl⟩
 ·cases H0 with
  |nil=>
   refine⟨.sl n' 0 n s,upd h n' (some (.cells new)),n'+1,([],[]),?_,?_,fun _=>rfl⟩
   ·unfold Qz;rw[if_neg (by omega)];rfl
   ·have:=HasSl.sl (hb:=h) (s:=s) n' new n (hn n' (Zl _)) hlen;simpa using this
  |sl i cs l hi hl=>
   have hni:n'≠i:=by
    intro e;subst e;have:=hn n' (Zl _);rw[upd_same]at this;cases this
   have hbn:hb n'=none:=by
    have:=hn n' (Zl _);rwa[Ys hni]at this
   refine⟨.sl n' 0 (l+n) s,upd hb n' (some (.cells (old++new))),n'+1,([i]++[]++([]++([]++[])),[]++[]++([i]++([]++[]))),?_,.sl n' _ _ hbn (by rw[length_append,hl,hlen,Nat.add_mul]),by simp⟩;unfold Qz;rw[if_neg (by omega)];simp only[if_true];have hsl:Yp old 0 (l*s)=some old:=Yw hl;simp only[AM.bind,Xt,AM.get,upd_same,AM.lift,hsl,AM.kill,AM.new,AM.pure,Yk9 hi]
theorem o_app{l:Nat}(hlt:(decide (d<nt))=true)(hx:ev (lk E) x=some vx)(hy:ev (lk E) y=some vy)(H0:HasSl hb s vx old l h)(hsrc:Yaf s h vy=some (new,n))
  (hlen:new.length=n*s)(hone:new.all AV.one=true)(hbd:(l+n)*(b+1)≤2^44)(hqx:q=0∨vx= .nil .sl)(hqy:0<q→∀id o l z,vy= .sl id o l z→h0 id≠none)
  (H:∀v h1,HasSl hb s v (old++new) (l+n) h1→Yu P A f nt h0 (q-1) r ((d,v)::E) bx h1 Q):Yu P A f nt h0 q (⟨some d,none,.app s b x y⟩::r) E bx h Q:=by
 refine o_heap (Q1:=fun v h1=>HasSl hb s v (old++new) (l+n) h1) ?_ ?_
 ·intro o rg hd e hs;obtain⟨x0,y0,t,u,args,ts,e',zz,hop,ha,ht,hx0,hy0,q1,q2,q3,q4,q5,q6,q7,⟨qq,hu⟩,hro⟩:=Xw (Yfa e rfl (by simp));refine Ybk (by simp[NC,hop]) hro (fun n' hn=>?_);obtain⟨rd,hrd,hrd2⟩:=Yiw (n:=n') hsrc;obtain⟨v1,h1,n1,lg,e1,e2,e3⟩:=Yf0 H0 hlen hn;have hl:Yfo vx=some l:=by cases H0<;>rfl
  refine⟨v1,h1,n1,(rd++lg.1,lg.2),?_,?_,e2⟩
  ·rw[hop];simp only[opM,ha,ht,evs,Yg hs hx0 hx,Yg hs hy0 hy,Option.map_some,Yd,Yj,Q7,Ycd,q1,q2,q3,q4,hu];rw[if_pos ⟨q5,q6,q7⟩];refine(Xq hrd (h2:=h1) (n2:=n1) (b:=v1) (l2:=lg) ?_).trans (by simp);simp only[hl];rw[if_pos ⟨hbd,hlen,hone⟩];exact e1
  ·intro hq;have hnil:vx= .nil .sl:=by
    rcases hqx with h|h
    ·omega
    ·exact h
   rw[e3 hnil];refine⟨rfl,fun id hid=>?_⟩;obtain⟨o',l',z',hvy⟩:=hrd2 id (by simpa using hid);exact hqy hq id o' l' z' hvy
 ·rintro v h1 o rg hd e hv;obtain⟨x0,y0,t,u,args,ts,e',zz,hop,_⟩:=Xw (Yfa e rfl (by simp));exact⟨bx,Jx hd (by simpa[Y8]using hlt) (by rw[hop];rfl),H v h1 hv⟩
theorem o_apps{l:Nat}{c:List UInt8}(hlt:(decide (d<nt))=true)(hx:ev (lk E) x=some vx)(hy:ev (lk E) y=some (.str c))(H0:HasSl hb s vx old l h)(hsrc:Yaf s h (.str c)=some (new,n))
  (hlen:new.length=n*s)(hone:new.all AV.one=true)(hbd:(l+n)*(b+1)≤2^44)(hqx:q=0∨vx= .nil .sl)
  (H:∀v h1,HasSl hb s v (old++new) (l+n) h1→Yu P A f nt h0 (q-1) r ((d,v)::E) bx h1 Q):Yu P A f nt h0 q (⟨some d,none,.apps s b x y⟩::r) E bx h Q:=by
 refine o_heap (Q1:=fun v h1=>HasSl hb s v (old++new) (l+n) h1) ?_ ?_
 ·intro o rg hd e hs;obtain⟨x0,y0,t,u,args,ts,e',zz,hop,ha,ht,hx0,hy0,q1,q2,q3,q4,q5,q6,q7,hu,hro⟩:=Xw (Yfa e rfl (by simp));refine Ybk (by simp[NC,hop]) hro (fun n' hn=>?_);obtain⟨rd,hrd,hrd2⟩:=Yiw (n:=n') hsrc;obtain⟨v1,h1,n1,lg,e1,e2,e3⟩:=Yf0 H0 hlen hn;have hl:Yfo vx=some l:=by cases H0<;>rfl
  refine⟨v1,h1,n1,(rd++lg.1,lg.2),?_,?_,e2⟩
  ·rw[hop];simp only[opM,ha,ht,evs,Yg hs hx0 hx,Yg hs hy0 hy,Option.map_some,Yd,Yj,Q7,Ycd,q1,q2,q3,q4,hu];rw[if_pos ⟨q5,q6,q7⟩];refine(Xq hrd (h2:=h1) (n2:=n1) (b:=v1) (l2:=lg) ?_).trans (by simp);simp only[hl];rw[if_pos ⟨hbd,hlen,hone⟩];exact e1
  ·intro hq;have hnil:vx= .nil .sl:=by
    rcases hqx with h|h
    ·omega
    ·exact h
   rw[e3 hnil];refine⟨rfl,fun id hid=>?_⟩;obtain⟨o',l',z',hvy⟩:=hrd2 id (by simpa using hid);cases hvy
 ·rintro v h1 o rg hd e hv;obtain⟨x0,y0,t,u,args,ts,e',zz,hop,_⟩:=Xw (Yfa e rfl (by simp));exact⟨bx,Jx hd (by simpa[Y8]using hlt) (by rw[hop];rfl),H v h1 hv⟩
theorem hop_ro{o:Oper}{rg:Nat→AV}{Q1:AV→Ya→Prop}(hnc:NC o.op)(hro:Yg1 A f o.dst=true)
  (H:∀n,Qt h n→∃v h' n' lg,Yr9 (opM P (Qb A rg) o.op) h n=some (v,h',n',lg)∧Yr5 h0 q lg∧Q1 v h'):HOp P A f h0 q o rg h Q1:=by
 intro n hn;obtain⟨v,h',n',lg,e,q⟩:=H n hn;refine⟨0,v,h',n',lg,?_,q⟩;have:opV (Xg P A 0) P A f o rg=Yr9 (opM P (Qb A rg) o.op):=by
  unfold opV;split
  ·rename_i ho;exact absurd ho (hnc.1 _ _ _)
  ·rename_i ho;exact absurd ho (hnc.2 _ _ _ _)
  ·rw[hro];simp only[if_true]
 rw[this];exact e
theorem frz_has(H:HasSl hb s v cs n h)(n':Nat):∃v' lg,Yfh v h n'=some (v',hb,n',lg)∧((v= .nil .sl∧v'= .nil .sl∧cs=[]∧n=0∧lg=([],[]))∨∃i,v= .sl i 0 n s∧v'= .tsl cs n∧cs.length=n*s∧lg=([i],[i])):=by
 cases H with
 |nil=>exact⟨_,_,rfl,.inl ⟨rfl,rfl,rfl,rfl,rfl⟩⟩
 |sl i _ _ hi hl=>
  refine⟨.tsl cs n,([i],[i]),?_,.inr ⟨i,rfl,rfl,hl,rfl⟩⟩;simp only[Yfh];simp only[AM.bind,AM.get,upd_same,AM.lift,Yw hl,AM.kill,AM.pure,Yk9 hi];rfl
theorem shut_app{l:Nat}{m:AM AV}{rd0:List Nat}(hn:Qt h n')(H0:HasSl hb s v old l h)(hlen:new.length=n*s)(hm:∀v1 h1 n1 lg,Qz s v new n h n'=some (v1,h1,n1,lg)→m h n'=some (v1,h1,n1,(rd0++lg.1,lg.2)))
  (hq:q=0∨v= .nil .sl)(hrd:0<q→∀id∈rd0,h0 id≠none):∃v' n1 lg,Yr9 m h n'=some (v',hb,n1,lg)∧Yr5 h0 q lg∧TSl s v' (old++new) (l+n)∧(v= .nil .sl→n=0→v'= .nil .sl):=by
 obtain⟨v1,h1,n1,lg,e1,e2,e3⟩:=Yf0 H0 hlen hn;obtain⟨v',lg2,e4,e5⟩:=frz_has e2 n1;have e6:=Xq (hm _ _ _ _ e1) e4;refine⟨v',n1,(((rd0++lg.1)++lg2.1).filter (· < n'),(lg.2++lg2.2).filter (· < n')),?_,?_,?_,?_⟩
 ·unfold Yr9 hush;rw[e6]
 ·intro hq0;have hv:v= .nil .sl:=by
   rcases hq with h|h
   ·omega
   ·exact h
  rw[e3 hv];have hi:∀i,v1= .sl i 0 (l+n) s→i=n':=by
   intro i hi;subst hv;cases H0;unfold Qz at e1;split at e1
   ·simp only[AM.pure,Zs,Zp]at e1;rw[←e1.1]at hi;cases hi
   ·simp only[AM.bind,AM.new,AM.pure,Zs,Zp]at e1;rw[←e1.1]at hi;simp only[AV.sl.injEq]at hi;exact hi.1.symm
  rcases e5 with ⟨_,_,_,_,rfl⟩|⟨i,hv1,_,_,rfl⟩
  ·refine⟨by simp,fun id hid=>?_⟩;have:=(mem_filter.1 hid).1;exact hrd hq0 id (by simpa using this)
  ·obtain rfl:=hi i hv1;refine⟨by simp,fun id hid=>?_⟩;obtain⟨h1,h2⟩:=mem_filter.1 hid;simp only[append_nil,mem_append,Zm]at h1;rcases h1 with h1|rfl
   ·exact hrd hq0 id h1
   ·simp at h2
 ·rcases e5 with ⟨_,rfl,h1,h2,_⟩|⟨i,_,rfl,h1,_⟩
  ·rw[h1,h2];exact .nil
  ·exact .tsl _ _ h1
 ·intro hv h0;subst hv;subst h0;simp only[Qz,if_true,AM.pure,Zs,Zp]at e1;obtain⟨rfl,_⟩:=e1;rcases e5 with ⟨_,rfl,_⟩|⟨i,hv1,_⟩
  ·rfl
  ·cases hv1
theorem o_appT{l:Nat}(hlt:(decide (d<nt))=true)(hx:ev (lk E) x=some vx)(hy:ev (lk E) y=some vy)(H0:HasSl hb s vx old l h)(hsrc:Yaf s h vy=some (new,n))
  (hlen:new.length=n*s)(hone:new.all AV.one=true)(hbd:(l+n)*(b+1)≤2^44)(hqx:q=0∨vx= .nil .sl)(hqy:0<q→∀id o l z,vy= .sl id o l z→h0 id≠none)
  (H:∀v,TSl s v (old++new) (l+n)→Yu P A f nt h0 (q-1) r ((d,v)::E) bx hb Q):Yu P A f nt h0 q (⟨some d,none,.appT s b x y⟩::r) E bx h Q:=by
 refine o_heap (Q1:=fun v h1=>TSl s v (old++new) (l+n)∧h1=hb) ?_ ?_
 ·intro o rg hd e hs;obtain⟨x0,y0,t,u,args,ts,e',zz,hop,ha,ht,hx0,hy0,q1,q2,q3,q4,q5,q6,q7,⟨qq,hu⟩,hro⟩:=Xw (Yfa e rfl (by simp));refine hop_ro (by simp[NC,hop]) hro (fun n' hn=>?_);obtain⟨rd,hrd,hrd2⟩:=Yiw (n:=n') hsrc;have hl:Yfo vx=some l:=by cases H0<;>rfl
  obtain⟨v',n1,lg,e1,e2,e3,e4⟩:=shut_app (q:=q) (h0:=h0) (rd0:=rd) (m:=opM P (Qb A rg) o.op) hn H0 hlen (by
   intro v1 h1 n1 lg e1;rw[hop];simp only[opM,ha,ht,evs,Yg hs hx0 hx,Yg hs hy0 hy,Option.map_some,Yd,Yj,Q7,Ycd,q1,q2,q3,q4,hu];rw[if_pos ⟨q5,q6,q7⟩];refine(Xq hrd (h2:=h1) (n2:=n1) (b:=v1) (l2:=lg) ?_).trans (by simp);simp only[hl];rw[if_pos ⟨hbd,hlen,hone⟩];exact e1) hqx (fun hq id hid=>by
    obtain⟨o',l',z',hvy⟩:=hrd2 id hid;exact hqy hq id o' l' z' hvy)
  exact⟨v',hb,n1,lg,e1,e2,e3,rfl⟩
 ·rintro v h1 o rg hd e ⟨hv,rfl⟩;obtain⟨x0,y0,t,u,args,ts,e',zz,hop,_⟩:=Xw (Yfa e rfl (by simp));exact⟨bx,Jx hd (by simpa[Y8]using hlt) (by rw[hop];rfl),H v hv⟩
theorem o_mkh{m:Int}(hlt:(decide (d<nt))=true)(hx:ev (lk E) x=some (.int .i64 m))(hy:ev (lk E) y=some (.int .i64 m))(h0m:0≤m)(hbd:m*(b+1)≤2^40)
  (H:∀i,h i=none→Yu P A f nt h0 (q-1) r ((d,.sl i 0 m.toNat s)::E) bx (upd h i (some (.cells (X6 z (m.toNat*s))))) Q):Yu P A f nt h0 q (⟨some d,none,.mks false z s b x y⟩::r) E bx h Q:=by
 refine o_heap (Q1:=fun w h1=>∃i,h i=none∧w= .sl i 0 m.toNat s∧h1=upd h i (some (.cells (X6 z (m.toNat*s))))) ?_ ?_
 ·intro o rg hd e hs;obtain⟨t,l0',c0,e',zz,hop,hx0,hy0,q1,q2,q3,q4,q5,q6,q7,q8,hro⟩:=Xw (Yfa e rfl (by simp));refine Ybk (by simp[NC,hop]) hro.symm (fun n' hn=>?_);refine⟨.sl n' 0 m.toNat s,_,n'+1,([],[]),?_,Ygb,n',hn n' (Zl _),rfl,rfl⟩;rw[hop];simp only[opM,Yg hs hx0 hx,Yg hs hy0 hy,Yd,Yj,Ya7,q1,q2,q3,q4,i64A];rw[if_pos ⟨trivial,h0m,hbd,q6,by rw[q5];exact q7,by rw[q5];exact q8⟩,q5];rfl
 ·rintro w h1 o rg hd e ⟨i,hi,rfl,rfl⟩;obtain⟨t,l0',c0,e',zz,hop,_⟩:=Xw (Yfa e rfl (by simp));exact⟨bx,Jx hd (by simpa[Y8]using hlt) (by rw[hop];rfl),H i hi⟩
theorem o_cpy{len m:Nat}{cs':List AV}(hq:q=0)(hd:Y8 nt dst=true)(hs0:0<s)(hx:ev (lk E) x=some (.sl id off len s))(hy:ev (lk E) y=some vy)(hsrc:Yaf s h vy=some (new,m))(hlen:new.length=m*s)
  (hone:(new.take (min m len*s)).all AV.one=true)(hid:h id=some (.cells cs))(hsp:Ql cs off (new.take (min m len*s))=some cs')
  (H:Yu P A f nt h0 0 r (Ysa dst (.int .i64 (min m len:Nat)) E) bx (upd h id (some (.cells cs'))) Q):Yu P A f nt h0 q (⟨dst,none,.cpy s x y⟩::r) E bx h Q:=by
 subst hq;refine o_heap (Q1:=fun w h1=>w= .int .i64 (min m len:Nat)∧h1=upd h id (some (.cells cs'))) ?_ ?_
 ·intro o rg hdd e hs;obtain⟨x0,y0,t,tr,args,ts,e',hop,ha,ht,hx0,hy0,q1,q2,hro⟩:=Xw (Yfa e rfl (by simp));refine Ybk (by simp[NC,hop]) hro (fun n' hn=>?_);obtain⟨rd,hrd,hrd2⟩:=Yiw (n:=n') hsrc;refine⟨_,upd h id (some (.cells cs')),n',(rd++[id],[id]),?_,Kk,rfl,rfl⟩;rw[hop];simp only[opM,ha,ht,evs,Yg hs hx0 hx,Yg hs hy0 hy,Option.map_some,Yd,Yj,Q7,Yry,q1,q2];rw[if_pos ⟨trivial,hs0⟩];refine(Xq hrd (h2:=upd h id (some (.cells cs'))) (n2:=n') (b:= .int .i64 (min m len:Nat)) (l2:=([id],[id])) ?_).trans (by simp);simp only[hlen,if_true,Yaa];simp only[AM.bind,AM.get,AM.set,AM.pure,AM.lift,hid,hone,if_true,hsp];rfl
 ·rintro w h1 o rg hdd e ⟨rfl,rfl⟩;obtain⟨x0,y0,t,tr,args,ts,e',hop,_⟩:=Xw (Yfa e rfl (by simp));exact⟨bx,Jx hdd hd (by rw[hop];rfl),H⟩
end
def fzW (fz:AV→Ya→Option (AV×Ya)):List AV→Ya→Option (List AV×Ya)
 |[],h=>some ([],h)
 |v::r,h=>match fz v h with
  |some (v',h1)=>(match fzW fz r h1 with
   |some (r',h2)=>some (v'::r',h2)
   |none=>none)
  |none=>none
def fzV:Nat→AV→Ya→Option (AV×Ya)
 |0,_,_=>none
 |k+1,v,h=>match v with
  |.sl id off len sz=>match h id with
   |some (.cells cs)=>(match Yp cs off (len*sz) with
    |some cs=>(match fzW (fzV k) cs (upd h id none) with
     |some (cs,h1)=>some (.tsl cs len,h1)
     |none=>none)
    |none=>none)
   |_=>none
  |.agg cs=>(match fzW (fzV k) cs h with
   |some (cs,h1)=>some (.agg cs,h1)
   |none=>none)
  |.tup cs=>(match fzW (fzV k) cs h with
   |some (cs,h1)=>some (.tup cs,h1)
   |none=>none)
  |v=>some (v,h)
theorem Yqh{fz:AV→Ya→Option (AV×Ya)}{fm:AV→AM AV}(H:∀v h v' h' n,fz v h=some (v',h')→∃lg,fm v h n=some (v',h',n,lg)):∀(l:List AV) (h:Ya) (l':List AV) (h':Ya) (n:Nat),fzW fz l h=some (l',h')→∃lg,Ybm fm l h n=some (l',h',n,lg)
 |[],h,l',h',n,e=>by
  simp only[fzW,Zs,Zp]at e;obtain⟨rfl,rfl⟩:=e;exact⟨_,rfl⟩
 |v::r,h,l',h',n,e=>by
  simp only[fzW]at e;split at e
  ·rename_i v' h1 e1;split at e
   ·rename_i r' h2 e2;simp only[Zs,Zp]at e;obtain⟨rfl,rfl⟩:=e;obtain⟨lg1,g1⟩:=H _ _ _ _ n e1;obtain⟨lg2,g2⟩:=Yqh H r _ _ _ n e2;exact⟨_,Xq g1 (Xq g2 rfl)⟩
   ·cases e
  ·cases e
theorem Ynw:∀(k:Nat) (v:AV) (h:Ya) (v':AV) (h':Ya) (n:Nat),fzV k v h=some (v',h')→∃lg,Xy k v h n=some (v',h',n,lg)
 |0,_,_,_,_,_,e=>by cases e
 |k+1,v,h,v',h',n,e=>by
  have plain:Xy (k+1) v=AM.pure v→fzV (k+1) v h=some (v,h)→∃lg,Xy (k+1) v h n=some (v',h',n,lg):=by
   intro g1 g2;rw[e]at g2;simp only[Zs,Zp]at g2;obtain⟨rfl,rfl⟩:=g2;rw[g1];exact⟨_,rfl⟩
  cases v with
  |sl id off len sz=>
   simp only[fzV]at e;split at e
   ·rename_i cs hid;split at e
    ·rename_i l hl;split at e
     ·rename_i l' h1 e1;simp only[Zs,Zp]at e;obtain⟨rfl,rfl⟩:=e;obtain⟨lg,g⟩:=Yqh (Ynw k) _ _ _ _ n e1;have a1:AM.get id h n=some (.cells cs,h,n,([id],[])):=by simp[AM.get,hid]
      have a2:AM.lift (Yp cs off (len*sz)) h n=some (l,h,n,([],[])):=by rw[hl];rfl
      have a3:AM.kill id h n=some ((),upd h id none,n,([],[id])):=by simp[AM.kill,hid]
      exact⟨_,Xq a1 (Xq a2 (Xq a3 (Xq g rfl)))⟩
     ·cases e
    ·cases e
   ·cases e
  |agg cs=>
   simp only[fzV]at e;split at e
   ·rename_i l' h1 e1;simp only[Zs,Zp]at e;obtain⟨rfl,rfl⟩:=e;obtain⟨lg,g⟩:=Yqh (Ynw k) _ _ _ _ n e1;have g2:=Xq (f:=fun cs=>AM.pure (AV.agg cs)) (l2:=([],[])) g rfl;exact⟨_,g2⟩
   ·cases e
  |tup cs=>
   simp only[fzV]at e;split at e
   ·rename_i l' h1 e1;simp only[Zs,Zp]at e;obtain⟨rfl,rfl⟩:=e;obtain⟨lg,g⟩:=Yqh (Ynw k) _ _ _ _ n e1;have g2:=Xq (f:=fun cs=>AM.pure (AV.tup cs)) (l2:=([],[])) g rfl;exact⟨_,g2⟩
   ·cases e
  |_=>exact plain (by unfold Xy;rfl) rfl
def AV.atom:AV→Bool
 |.bool _ | .int _ _ | .str _ | .nil _ | .tsl _ _ | .tptr _ _=>true
 |_=>false
theorem Ygo{k:Nat}(hv:v.atom=true):fzV (k+1) v h=some (v,h):=by
 cases v<;>first|rfl|cases hv
section
variable {P:Program} {A:Ann} {f nt:Nat} {E:Env} {bx:List Nat} {h:Ya} {Q:AX→Env→List Nat→Ya→Prop} {h0:Ya} {q:Nat}
theorem res_fz(hl:Yb8 E l=some vs)(hz:fzV 1000 (Yx vs) h=some (v,h')):∀rg,Sat (lk E) rg→ResV P A f l rg h (if A.fz f then v else Yx vs):=by
 intro rg hs n _;unfold resM;cases hf:A.fz f with
 |false=>
  refine⟨h,n,([],[]),?_⟩;rw[Yha hs hl,Yj];rfl
 |true=>
  obtain⟨lg,g⟩:=Ynw 1000 _ _ _ _ n hz;refine⟨h',n,lg,?_⟩;rw[Yha hs hl,Yj];exact g
theorem res_fz1(hl:Yb8 E l=some vs)(hf:A.fz f=true)(hz:fzV 1000 (Yx vs) h=some (v,h')):∀rg,Sat (lk E) rg→ResV P A f l rg h v:=by
 have:=res_fz (P:=P) (A:=A) (f:=f) hl hz;rw[hf]at this;exact this
theorem o_lenT(hlt:(decide (d<nt))=true)(hx:ev (lk E) x=some v)(hv:TSl s v cs n)(H:Yu P A f nt h0 (q-1) r ((d,.int .i64 n)::E) bx h Q) :
  Yu P A f nt h0 q (⟨some d,none,.len x none⟩::r) E bx h Q:=by
 cases hv with
 |nil=>exact Yq (p:=True) hlt (by simp only[sv,hx];rfl) trivial H
 |tsl _ _ hl=>exact Yq (p:=True) hlt (by simp only[sv,hx]) trivial H
theorem srcOf_T(hv:TSl s v cs n):Yaf s h v=some (cs,n):=by
 cases hv with
 |nil=>rfl
 |tsl _ _ hl=>simp only[Yaf,Yw hl]
theorem Ybf{a b:SC}(hx:ev (lk E) x=some (.bool true))(H:Yb5 P A f nt a E bx h Q):Yb5 P A f nt (.cond x a b) E bx h Q:=s_cond hx (fun _=>H) (fun h=>by cases h)
theorem Yb6{a b:SC}(hx:ev (lk E) x=some (.bool false))(H:Yb5 P A f nt b E bx h Q):Yb5 P A f nt (.cond x a b) E bx h Q:=s_cond hx (fun h=>by cases h) (fun _=>H)
theorem Yay{k:SK}(he:lk E e=some (.bool w))(hd:Y8 nt dst=true)(H:Yu P A f nt h0 q (⟨dst,none,k⟩::r) E bx h Q):Yu P A f nt h0 q (⟨dst,some (e,w),k⟩::r) E bx h Q:=
 o_guard he hd (fun _=>H) (fun h=>by cases w<;>cases h)
theorem Ydd{k:SK}(he:lk E e=some (.bool (!w)))(hd:Y8 nt dst=true)(H:Yu P A f nt h0 (q-1) r (Qn dst E) bx h Q):Yu P A f nt h0 q (⟨dst,some (e,w),k⟩::r) E bx h Q:=
 o_guard he hd (fun h=>by cases w<;>cases h) (fun _=>H)
theorem Ydc{k:SK}(he:lk E e=some .undef)(hd:Y8 nt dst=true)(H:Yu P A f nt h0 (q-1) r (Qn dst E) bx h Q):Yu P A f nt h0 q (⟨dst,some (e,w),k⟩::r) E bx h Q:=by
 intro ops l0 rg hl hs;obtain⟨o0,r0,rfl,h1,h2⟩:=Y7 hl;obtain⟨e1,e2,e3⟩:=Xn h1;rcases e3 with ⟨_,e3⟩|⟨j,w',e',g1,g2,g3⟩
 ·cases e3
 ·simp only[Zs,Zp]at g2;obtain⟨rfl,rfl⟩:=g2;have hw':Yy ops o0 rg=some false:=by
   unfold Yy;rw[g1];simp only[g3,hs e _ he];rfl
  simp only at e1;cases dst with
  |none=>exact Yih hw' (by unfold Yf3;rw[←e1]) (H ops r0 rg h2 hs)
  |some d=>
   simp only[Y8,decide_eq_true_eq]at hd;exact Yih (fr1:=⟨upd rg d .undef,bx⟩) hw' (by unfold Yf3;rw[←e1];simp only[hd,if_true]) (H ops r0 _ h2 (hs.put d .undef))
def nb:AV→Bool
 |.bool b=>b || !b
 |_=>true
def stopOk:SK→AV→Bool
 |.bin _ _ _,v | .beq _ _ _,v | .un _ _,v | .isnil _ _ _,v=>nb v
 |_,_=>true
theorem o_valW{k:SK}(hlt:(decide (d<nt))=true)(hv:sv (lk E) k=some (p,v))(_:stopOk k v=true)(hp:p)(H:Yu P A f nt h0 (q-1) r ((d,v)::E) bx h Q) :
  Yu P A f nt h0 q (⟨some d,none,k⟩::r) E bx h Q:=Yq hlt hv hp H
theorem Ypj{c:SC}{E':Env}(hs:Sub E' E)(H:Yb5 P A f nt c E' bx h Q):Yb5 P A f nt c E bx h Q:=fun c0 rg hc hg=>H c0 rg hc (fun t v e=>hg t v (hs t v e))
end
theorem w64{n:Int}(h1 : -9223372036854775808≤n)(h2:n≤9223372036854775807):IntKind.wrap .i64 n=n:=by
 simp[IntKind.wrap,IntKind.bits,IntKind.signed];omega
theorem w32{n:Int}(h1 : -2147483648≤n)(h2:n≤2147483647):IntKind.wrap .i32 n=n:=by
 simp[IntKind.wrap,IntKind.bits,IntKind.signed];omega
theorem wu8{n:Int}(h1:0≤n)(h2:n≤255):IntKind.wrap .u8 n=n:=by
 simp[IntKind.wrap,IntKind.bits,IntKind.signed];omega
theorem wu32{n:Int}(h1:0≤n)(h2:n≤4294967295):IntKind.wrap .u32 n=n:=by
 simp[IntKind.wrap,IntKind.bits,IntKind.signed];omega
theorem wu64{n:Int}(h1:0≤n)(h2:n≤18446744073709551615):IntKind.wrap .u64 n=n:=by
 simp[IntKind.wrap,IntKind.bits,IntKind.signed];omega
section
variable {P:Program} {A:Ann} {f nt:Nat} {E:Env} {bx:List Nat} {h:Ya} {Q:AX→Env→List Nat→Ya→Prop} {h0:Ya} {q:Nat}
theorem o_int{k:SK}{i:IntKind}{e m:Int}(hlt:(decide (d<nt))=true)(hv:sv (lk E) k=some (p,.int i e))(hp:p)(he:e=m)(H:Yu P A f nt h0 (q-1) r ((d,.int i m)::E) bx h Q) :
  Yu P A f nt h0 q (⟨some d,none,k⟩::r) E bx h Q:=by subst he;exact Yq hlt hv hp H
theorem Yko(hlt:(decide (d<nt))=true)(hx:ev (lk E) x=some (.int k (a:Int)))(hy:ev (lk E) y=some (.int k (b:Int)))(hw:k.wrap ((a:Int)+b)=(a:Int)+b)
  (H:Yu P A f nt h0 (q-1) r ((d,.int k ((a+b:Nat):Int))::E) bx h Q):Yu P A f nt h0 q (⟨some d,none,.bin .add x y⟩::r) E bx h Q:=
 Yq (p:=True) (v:= .int k ((a+b:Nat):Int)) hlt (by simp only[sv,hx,hy,Yod,if_true,hw];rfl) trivial H
theorem o_mulN(hlt:(decide (d<nt))=true)(hx:ev (lk E) x=some (.int k (a:Int)))(hy:ev (lk E) y=some (.int k (b:Int)))(hw:k.wrap ((a:Int)*b)=(a:Int)*b)
  (H:Yu P A f nt h0 (q-1) r ((d,.int k ((a*b:Nat):Int))::E) bx h Q):Yu P A f nt h0 q (⟨some d,none,.bin .mul x y⟩::r) E bx h Q:=
 Yq (p:=True) (v:= .int k ((a*b:Nat):Int)) hlt (by simp only[sv,hx,hy,Yod,if_true,hw];rfl) trivial H
theorem o_subN(hlt:(decide (d<nt))=true)(hx:ev (lk E) x=some (.int k (a:Int)))(hy:ev (lk E) y=some (.int k (b:Int)))(hb:b≤a)(hw:k.wrap ((a:Int)-b)=(a:Int)-b)
  (H:Yu P A f nt h0 (q-1) r ((d,.int k ((a-b:Nat):Int))::E) bx h Q):Yu P A f nt h0 q (⟨some d,none,.bin .sub x y⟩::r) E bx h Q:=
 Yq (p:=True) (v:= .int k ((a-b:Nat):Int)) hlt (by simp only[sv,hx,hy,Yod,if_true,hw];rw[←Int.ofNat_sub hb]) trivial H
theorem o_cvN{k':IntKind}(hlt:(decide (d<nt))=true)(hx:ev (lk E) x=some (.int k' (a:Int)))(hw:k.wrap (a:Int)=(a:Int))
  (H:Yu P A f nt h0 (q-1) r ((d,.int k (a:Int))::E) bx h Q):Yu P A f nt h0 q (⟨some d,none,.cv k x⟩::r) E bx h Q:=
 Yq (p:=True) (v:= .int k (a:Int)) hlt (by simp only[sv,hx,hw]) trivial H
theorem Ykl{k':IntKind}(hlt:(decide (d<nt))=true)(hx:ev (lk E) x=some (.int k (a:Int)))(hy:ev (lk E) y=some (.int k' (b:Int)))(hb:b≤k.bits)
  (H:Yu P A f nt h0 (q-1) r ((d,.int k ((a/2^b:Nat):Int))::E) bx h Q):Yu P A f nt h0 q (⟨some d,none,.bin .shr x y⟩::r) E bx h Q:=
 Yq (p:=(0:Int)≤b) (v:= .int k ((a/2^b:Nat):Int)) hlt (by
  simp only[sv,hx,hy,Yod,Zn,Nat.min_eq_left hb]
  congr 3
  rw[Int.fdiv_eq_ediv_of_nonneg _ (by exact_mod_cast Nat.zero_le _)]
  norm_cast) (by omega) H
def jq {σ:Type} (env:σ→Env) (HI:σ→Ya→Prop) (bx0:List Nat) (Q:AX→Env→List Nat→Ya→Prop):AX→Env→List Nat→Ya→Prop:=fun x E bx h=>match x with
 |.norm=>∃s,Sub (env s) E∧bx=bx0∧HI s h
 |e=>Q e E bx h
theorem Jc{a b:SC}(env:σ→Env)(HI:σ→Ya→Prop)(H1:Yb5 P A f nt a E bx h (jq env HI bx Q))(H2:∀s h',HI s h'→Yb5 P A f nt b (env s) bx h' Q):Yb5 P A f nt (.seq a b) E bx h Q:=by
 apply K5;intro c0 rg hc hs;refine(H1 c0 rg hc hs).mono ?_;rintro x fr h' ⟨E',hs',q⟩;cases x with
 |norm=>
  obtain⟨s,w1,w2,w3⟩:=q;refine⟨E',hs',?_⟩;show Yb5 P A f nt b E' fr.boxes h' Q;rw[w2];exact fun c0 rg hc hg=>H2 s h' w3 c0 rg hc (fun t v e=>hg t v (w1 t v e))
 |exit i=>exact⟨E',hs',q⟩
 |ret=>exact⟨E',hs',q⟩
theorem Yav{s:σ}(H:Q (.exit i) E bx h):slq env HI m s bx0 Q (.exit i) E bx h:=H
theorem Yc1{s:σ}(H:Q .ret E bx h):slq env HI m s bx0 Q .ret E bx h:=H
theorem Ygj(H:Q .ret E bx h):jq env HI bx0 Q .ret E bx h:=H
theorem K7(hq:q=0)(hd:Y8 nt dst=true)(hx:ev (lk E) x=some (.ptr id off))(hy:ev (lk E) y=some v)(ho:v.one=true)
  (hid:h id=some (.cells cs))(hlt:off<cs.length)(H:Yu P A f nt h0 0 r (Qn dst E) bx (upd h id (some (.cells (cs.set off v)))) Q):Yu P A f nt h0 q (⟨dst,none,.st x y 1⟩::r) E bx h Q:=by
 have hc:v.cells=[v]:=by cases v<;>first|rfl|cases ho
 exact Ybr (v:=v) hq hd hx hy (by rw[hc];rfl) (by rw[hc];simp[ho]) hid (by rw[hc];exact Ya4 hlt) H
theorem Y1{k:SK}{w:AV}(hlt:(decide (d<nt))=true)(hv:sv (lk E) k=some (p,v))(hp:p)(he:v=w)(H:Yu P A f nt h0 (q-1) r ((d,w)::E) bx h Q) :
  Yu P A f nt h0 q (⟨some d,none,k⟩::r) E bx h Q:=by subst he;exact Yq hlt hv hp H
end
def Ygf (k:IntKind) (l:List Int):List AV:=l.map (.int k)
def hset (hb:Ya):List (Nat×AObj)→Ya
 |[]=>hb
 |(i,o)::L=>upd (hset hb L) i (some o)
def Dis (hb:Ya):List (Nat×AObj)→Prop
 |[]=>True
 |(i,_)::L=>hset hb L i=none∧Dis hb L
theorem Yfy:Dis hb []:=trivial
theorem Xp:∀{L:List (Nat×AObj)} {k id:Nat} {o:AObj},Dis hb L→L[k]?=some (id,o)→hset hb L id=some o
 |[],_,_,_,_,h=>by simp at h
 |(i,o')::L,0,id,o,_,h=>by
  simp only[Zc,Zs,Zp]at h;obtain⟨rfl,rfl⟩:=h;simp[hset,upd]
 |(i,o')::L,k+1,id,o,hD,h=>by
  have:=Xp hD.2 (k:=k) (by simpa using h);have hne:id≠i:=by
   intro e;subst e;rw[hD.1]at this;cases this
  simp only[hset,upd,if_neg hne,this]
theorem Yqd:∀{L:List (Nat×AObj)} {k id j:Nat} {o o':AObj},Dis hb L→L[k]?=some (id,o)→(hset hb L j=none∨j=id)→
  upd (upd (hset hb L) id none) j (some o')=hset hb (L.set k (j,o'))∧Dis hb (L.set k (j,o'))
 |[],_,_,_,_,_,_,h,_=>by simp at h
 |(i,o1)::L,0,id,j,o,o',hD,h,hj=>by
  simp only[Zc,Zs,Zp]at h;obtain⟨rfl,rfl⟩:=h;simp only[set_cons_zero,hset];have e:upd (upd (hset hb L) i (some o1)) i none=hset hb L:=by
   funext m;unfold upd;split
   ·rename_i e;rw[e,hD.1]
   ·rfl
  rw[e];refine⟨rfl,?_,hD.2⟩;rcases hj with hj|rfl
  ·by_cases e:j=i
   ·rw[e];exact hD.1
   ·simpa[hset,upd,e]using hj
  ·exact hD.1
 |(i,o1)::L,k+1,id,j,o,o',hD,h,hj=>by
  have h':L[k]?=some (id,o):=by simpa using h
  have g:=Xp hD.2 h';have hne:id≠i:=by
   intro e;subst e;rw[hD.1]at g;cases g
  have hji:j≠i:=by
   intro e;subst e;rcases hj with hj|rfl
   ·simp[hset,upd]at hj
   ·exact hne rfl
  have hj':hset hb L j=none∨j=id:=by
   rcases hj with hj|hj
   ·left;simpa[hset,upd,hji]using hj
   ·exact .inr hj
  obtain⟨e1,e2⟩:=Yqd (o':=o') hD.2 h' hj';simp only[set_cons_succ,hset];refine⟨?_,?_,e2⟩
  ·rw[←e1];funext m;unfold upd;by_cases a:m=j
   ·subst a;simp[hji]
   ·by_cases b:m=i
    ·subst b;simp[Ne.symm hne,a]
    ·simp[a,b]
  ·rw[←e1];simp[upd,Ne.symm hji,Ne.symm hne,hD.1]
theorem Ygl{L:List (Nat×AObj)}{k:Nat}{o o':AObj}(hD:Dis hb L)(h:L[k]?=some (id,o)):upd (hset hb L) id (some o')=hset hb (L.set k (id,o'))∧Dis hb (L.set k (id,o')):=by
 have:=Yqd (o':=o') hD h (.inr rfl);rwa[Xm]at this
section
variable {P:Program} {A:Ann} {f nt:Nat} {E:Env} {bx:List Nat} {hb:Ya} {L:List (Nat×AObj)} {Q:AX→Env→List Nat→Ya→Prop} {h0:Ya} {q:Nat}
theorem Yln(hD:Dis hb L)(hlt:(decide (d<nt))=true)(hx:ev (lk E) x=some v)(ho:v.cells.all AV.one=true)
  (H:∀i,Dis hb ((i,.cells v.cells)::L)→Yu P A f nt h0 (q-1) r ((d,.ptr i 0)::E) (if esc then bx else i::bx) (hset hb ((i,.cells v.cells)::L)) Q):Yu P A f nt h0 q (⟨some d,none,.hbox esc x⟩::r) E bx (hset hb L) Q:=
 Yee hlt hx ho fun i hi=>H i ⟨hi,hD⟩
theorem Kc(hD:Dis hb L)(hlt:(decide (d<nt))=true)
  (H:∀i,Dis hb ((i,.cells z)::L)→Yu P A f nt h0 (q-1) r ((d,.ptr i 0)::E) (if esc then bx else i::bx) (hset hb ((i,.cells z)::L)) Q):Yu P A f nt h0 q (⟨some d,none,.alc esc z⟩::r) E bx (hset hb L) Q:=
 K8 hlt fun i hi=>H i ⟨hi,hD⟩
theorem Ju{m:Nat}{cs':List AV}(k:Nat)(hD:Dis hb L)(hq:q=0)(hd:Y8 nt dst=true)(hx:ev (lk E) x=some (.ptr id off))(hk:L[k]?=some (id,.cells cs))(hy:ev (lk E) y=some v)(hm:v.cells.length=m)(ho:v.cells.all AV.one=true)
  (hs':Ql cs off v.cells=some cs')(H:Dis hb (L.set k (id,.cells cs'))→Yu P A f nt h0 0 r (Qn dst E) bx (hset hb (L.set k (id,.cells cs'))) Q):Yu P A f nt h0 q (⟨dst,none,.st x y m⟩::r) E bx (hset hb L) Q:=by
 obtain⟨e1,e2⟩:=Ygl (o':= .cells cs') hD hk;exact Ybr hq hd hx hy hm ho (Xp hD hk) hs' (e1▸H e2)
theorem Yge(k:Nat)(hD:Dis hb L)(hq:q=0)(hlt:(decide (d<nt))=true)(hx:ev (lk E) x=some (.ptr id off))(hk:L[k]?=some (id,.cells cs))(hv:cs[off]?=some v)
  (H:Yu P A f nt h0 (q-1) r ((d,v)::E) bx (hset hb L) Q):Yu P A f nt h0 q (⟨some d,none,.ld x none⟩::r) E bx (hset hb L) Q:=
 Y2 hlt hx (Xp hD hk) (fun h=>by omega) hv H
theorem Yed{m:Nat}{l:List AV}(k:Nat)(hD:Dis hb L)(hq:q=0)(hlt:(decide (d<nt))=true)(hx:ev (lk E) x=some (.ptr id off))(hk:L[k]?=some (id,.cells cs))(hv:Yp cs off m=some l)
  (H:Yu P A f nt h0 (q-1) r ((d,.agg l)::E) bx (hset hb L) Q):Yu P A f nt h0 q (⟨some d,none,.ld x (some m)⟩::r) E bx (hset hb L) Q:=
 X3 hlt hx (Xp hD hk) (fun h=>by omega) hv H
theorem Ykm{ps:List (Nat×Nat×SX)}(hD:Dis hb L)(hlt:(decide (d<nt))=true)(hf:Ybt (lk E) z ps=some cs)(ho:cs.all AV.one=true)
  (H:∀i,Dis hb ((i,.cells cs)::L)→Yu P A f nt h0 (q-1) r ((d,.sl i 0 n s)::E) bx (hset hb ((i,.cells cs)::L)) Q):Yu P A f nt h0 q (⟨some d,none,.hbs z s n ps⟩::r) E bx (hset hb L) Q:=
 Ync hlt hf ho fun i hi=>H i ⟨hi,hD⟩
theorem o_mkL{m:Int}(hD:Dis hb L)(hlt:(decide (d<nt))=true)(hx:ev (lk E) x=some (.int .i64 m))(hy:ev (lk E) y=some (.int .i64 m))(h0m:0≤m)(hbd:m*(b+1)≤2^40)
  (H:∀i,Dis hb ((i,.cells (X6 z (m.toNat*s)))::L)→Yu P A f nt h0 (q-1) r ((d,.sl i 0 m.toNat s)::E) bx (hset hb ((i,.cells (X6 z (m.toNat*s)))::L)) Q):Yu P A f nt h0 q (⟨some d,none,.mks false z s b x y⟩::r) E bx (hset hb L) Q:=
 o_mkh hlt hx hy h0m hbd fun i hi=>H i ⟨hi,hD⟩
end
end Go.Abs
