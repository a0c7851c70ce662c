import Derived.Test.YtibdecjfdpmfoaaGreatVmPlain
import Derived.Test.YtibdecjfdpmfoaaGreatAbsMap
section
open Go Go.Abs Go.Proofs.SlimCode Go.Img Go.Vm
namespace Go.Vm
open List hiding cons nil
def eV (v:Val):List AV:=[.bool v.1,.int .i32 v.2]
def eW (n:Int):List AV:=[.int .i32 n]
def eI (n:Int):List AV:=[I n]
def eB (b:Bool):List AV:=[.bool b]
def eP (i:Nat):List AV:=[.ptr i 0]
theorem Yh9:Enc eV 2:=fun _=>⟨rfl,rfl⟩
theorem encW:Enc eW 1:=fun _=>⟨rfl,rfl⟩
theorem Yrw:Enc eI 1:=fun _=>⟨rfl,rfl⟩
theorem encB:Enc eB 1:=fun _=>⟨rfl,rfl⟩
theorem encP:Enc eP 1:=fun _=>⟨rfl,rfl⟩
structure Ac where
 i:Nat
 fi:Nat
 cc:AV
 ct:AV
 vl:AV
 vk:AV
 Ll:OL
 Lk:OL
structure Mc where
 mi:Nat
 hi:Nat
 ic:AV
 iM:AV
 ig:AV
 iw:AV
 ir:AV
 is':AV
 jf:AV
 vst:AV
 vat:AV
 vin:AV
 vac:AV
 vo:AV
 vw:AV
 vs:AV
 Lw:OL
 Ls:OL
 Lst:OL
 Lat:OL
 Lo:OL
 Lac:OL
abbrev f1 (g:Nat):AV:= .fn g [] []
def tbl:AV:= .tsl [.nil .fn,f1 128,f1 128,f1 128,f1 128,f1 128,f1 128,f1 128,f1 126,f1 126,f1 126,f1 126,f1 126,f1 129,f1 126,f1 126,f1 126,f1 126,f1 126,f1 126,
 f1 127,f1 127,f1 127,f1 127,f1 127,f1 127,f1 127,f1 127,f1 127,f1 127,f1 127,f1 127,f1 127,f1 127,f1 127,f1 127,f1 127,f1 130,f1 131,f1 131,f1 132,f1 132,f1 133,f1 135,f1 134,f1 136,f1 137,f1 137,f1 137,
 f1 138,f1 138,f1 139,f1 140,f1 140,f1 140,f1 140,f1 141,f1 141,f1 142,f1 143,f1 144,f1 145] 62
def Mc.img (c:Mc) (im:Image):List AV:=[c.ic,c.iM,I im.entry,I im.need,c.ig,c.iw,c.ir,c.is',c.jf]
def Mc.M (c:Mc) (im:Image) (x:Vm):List AV:=[c.ic,c.iM,I im.entry,I im.need,c.ig,c.iw,c.ir,c.is',c.jf,.ptr c.hi 0,c.vst,c.vat,c.vin,c.vac,tbl,I x.steps,c.vo,I x.fin,.int .i32 x.code,.str x.cls]
def Mc.H (c:Mc) (x:Vm):List AV:=[I x.hp.n,c.vw,c.vs]
def Ac.A (a:Ac) (f:Fm):List AV:=[.ptr a.fi 0,I f.m.args,I f.m.locals,I f.m.stack,.bool f.m.gives,a.cc,a.ct,I f.init,I f.need]
def Ac.F (a:Ac) (f:Fm):List AV:=[I f.k,I f.pc,I f.room,a.vl,a.vk]
def AX:List Ac→List Fm→CL
 |a::az,f::fs=>[(a.i,.cells (a.A f))]::[(a.fi,.cells (a.F f))]::a.Ll::a.Lk::AX az fs
 |_,_=>[]
def MX (c:Mc) (az:List Ac) (im:Image) (x:Vm):CL:=[(c.mi,.cells (c.M im x))]::[(c.hi,.cells (c.H x))]::c.Lw::c.Ls::c.Lst::c.Lat::c.Lo::c.Lac::AX az x.acts
structure FrV (g:Ya) (a:Ac) (f:Fm):Prop where
 code:Sl RFour 4 g a.cc f.m.code
 traps:Sl RFour 4 g a.ct f.m.traps
 loc:SlE eV 2 a.vl f.loc a.Ll
 stk:SlE eV 2 a.vk f.stk a.Lk
inductive Frs (g:Ya):List Ac→List Fm→Prop where
 |nil:Frs g [] []
 |cons {a:Ac} {az:List Ac} {f:Fm} {fs:List Fm} (h:FrV g a f) (H:Frs g az fs):Frs g (a::az) (f::fs)
structure MV (g:Ya) (c:Mc) (az:List Ac) (im:Image) (x:Vm):Prop where
 img:RImg g (c.img im) im
 inp:Sl (RN .i32) 1 g c.vin x.inp
 hw:SlE eW 1 c.vw x.hp.w c.Lw
 hs:SlE eB 1 c.vs x.hp.st c.Ls
 st:SlE eV 2 c.vst x.stat c.Lst
 at':SlE eI 1 c.vat x.at' c.Lat
 out:SlE eW 1 c.vo x.out c.Lo
 ac:SlE eP 1 c.vac (az.reverse.map Ac.i) c.Lac
 fr:Frs g az x.acts
end Go.Vm
end
section
namespace Go.Abs
open List hiding cons nil
variable {v:AV} {R:AV→CL→Ya→Prop} {Q:AX→Env→List Nat→Ya→Prop} {A:Ann} {xs:CL} {E:Env} {c cap cs first vs:List AV} {cls:List CD} {bx:List Nat} {r:List SO} {args:List SX} {d f gf id m n nt off q s:Nat} {L:OL} {dst:Option Nat} {S:PS} {P:Program} {p:Prop} {k:SK} {x y:SX} {α:Type} {G g h h0:Ya} {l:List α} {enc:α→List AV}
section
variable {P:Program} {A:Ann} {f nt q:Nat} {E:Env} {bx:List Nat} {h h0 G:Ya} {xs:CL} {Q:AX→Env→List Nat→Ya→Prop} {S:PS} {cls:List CD}
theorem o_lenE(hlt:(decide (d<nt))=true)(hx:ev (lk E) x=some v)(H0:SlE enc s v l L)(H:Yu P A f nt h0 (q-1) r ((d,.int .i64 l.length)::E) bx h Q):Yu P A f nt h0 q (⟨some d,none,.len x none⟩::r) E bx h Q:=by
 have hv:sv (lk E) (.len x none)=some (True,.int .i64 l.length):=by
  rcases H0 with ⟨rfl,rfl,_⟩|⟨i,js,rfl,_⟩
  ·simp only[sv,hx];rfl
  ·simp only[sv,hx]
 exact Yq hlt hv trivial H
theorem d_lenE(hlt:(decide (d<nt))=true)(hx:ev (lk E) x=some v)(H0:SlE enc s v l L)(H:Xu P A f nt S (q-1) cls r ((d,.int .i64 l.length)::E) bx h Q):Xu P A f nt S q (.C::cls) (⟨some d,none,.len x none⟩::r) E bx h Q:=by
 have hv:sv (lk E) (.len x none)=some (True,.int .i64 l.length):=by
  rcases H0 with ⟨rfl,rfl,_⟩|⟨i,js,rfl,_⟩
  ·simp only[sv,hx];rfl
  ·simp only[sv,hx]
 exact d_v rfl rfl hlt hv trivial H
end
theorem o_lenU(hlt:(decide (d<nt))=true)(hx:ev (lk E) x=some v)(hv:TSl s v cs n)(H:Yu P A f nt h0 (q-1) r ((d,.int .i64 n)::E) bx h Q) :
  Yu P A f nt h0 q (⟨some d,none,.len x none⟩::r) E bx h Q:=o_lenT hlt hx hv H
theorem d_lenU(hlt:(decide (d<nt))=true)(hx:ev (lk E) x=some v)(h0:TSl s v cs n)(H:Xu P A f nt S (q-1) cls r ((d,.int .i64 n)::E) bx h Q):Xu P A f nt S q (.C::cls) (⟨some d,none,.len x none⟩::r) E bx h Q:=by
 have hv:sv (lk E) (.len x none)=some (True,.int .i64 n):=by
  cases h0 with
  |nil=>simp only[sv,hx];rfl
  |tsl _ _ _=>simp only[sv,hx]
 exact d_v rfl rfl hlt hv trivial H
def nbb:AV→Bool
 |.bool b=>b || !b
 |_=>false
theorem o_valB(hlt:(decide (d<nt))=true)(hv:sv (lk E) k=some (p,v))(_:nbb v=true)(hp:p)(H:Yu P A f nt h0 (q-1) r ((d,v)::E) bx h Q) :
  Yu P A f nt h0 q (⟨some d,none,k⟩::r) E bx h Q:=Yq hlt hv hp H
def litK:SK→Bool
 |.bsl _ _ _ _ | .bld _ _ | .box _=>true
 |_=>false
theorem o_valL(_:litK k=true)(hlt:(decide (d<nt))=true)(hv:sv (lk E) k=some (p,v))(hp:p)(H:Yu P A f nt h0 (q-1) r ((d,v)::E) bx h Q) :
  Yu P A f nt h0 q (⟨some d,none,k⟩::r) E bx h Q:=Yq hlt hv hp H
theorem d_valL(_:litK k=true)(hk:Yfg k=false)(hl:Ylp k=true)(hlt:(decide (d<nt))=true)(hv:sv (lk E) k=some (p,v))(hp:p)(H:Xu P A f nt S (q-1) cls r ((d,v)::E) bx h Q) :
  Xu P A f nt S q (.C::cls) (⟨some d,none,k⟩::r) E bx h Q:=d_v hk hl hlt hv hp H
theorem d_valM(_:reckK k=true)(hk:Yfg k=false)(hl:Ylp k=true)(hlt:(decide (d<nt))=true)(hv:sv (lk E) k=some (p,v))(hp:p)(H:Xu P A f nt S (q-1) cls r ((d,v)::E) bx h Q) :
  Xu P A f nt S q (.C::cls) (⟨some d,none,k⟩::r) E bx h Q:=d_v hk hl hlt hv hp H
theorem d_valB(hk:Yfg k=false)(hl:Ylp k=true)(hlt:(decide (d<nt))=true)(hv:sv (lk E) k=some (p,v))(_:nbb v=true)(hp:p)(H:Xu P A f nt S (q-1) cls r ((d,v)::E) bx h Q) :
  Xu P A f nt S q (.C::cls) (⟨some d,none,k⟩::r) E bx h Q:=d_v hk hl hlt hv hp H
structure Tk (q:Prop):Prop where
 a:q
theorem d_ldT1{os:List AV}(hlt:(decide (d<nt))=true)(hx:ev (lk E) x=some (.tptr os off))(hv:os[off]?=some v)
  (H:Xu P A f nt S (q-1) cls r ((d,v)::E) bx h Q):Xu P A f nt S q (.L::cls) (⟨some d,none,.ld x none⟩::r) E bx h Q:=by
 refine Yo5 hlt hx (l:=[v]) ?_ (.one rfl) H;have hlt:=(Zi.1 hv).1;unfold Yp;rw[length_singleton,if_pos (by omega)]
 congr 1
 rw[drop_eq_getElem_cons hlt,(Zi.1 hv).2];rfl
theorem splice_all(h:c.length=cs.length):Ql cs 0 c=some c:=by
 unfold Ql;rw[if_pos (by omega),take_zero,nil_append,Nat.zero_add,drop_of_length_le (by omega),append_nil]
theorem o_stW{hb:Ya}(k:Nat)(hD:Dis hb L)(hq:q=0)(hd:Y8 nt dst=true)(hx:ev (lk E) x=some (.ptr id 0))(hk:L[k]?=some (id,.cells cs))(hy:ev (lk E) y=some (.agg c))(hm:c.length=m)(hl:cs.length=m)(ho:c.all AV.one=true)
  (H:Dis hb (L.set k (id,.cells c))→Yu P A f nt h0 0 r (Qn dst E) bx (hset hb (L.set k (id,.cells c))) Q):Yu P A f nt h0 q (⟨dst,none,.st x y m⟩::r) E bx (hset hb L) Q:=
 Ju (v:= .agg c) k hD hq hd hx hk hy hm ho (splice_all (hm.trans hl.symm)) H
theorem Kb(k:Nat)(hD:Dis G xs.flatten)(hq:q=0)(hd:Y8 nt dst=true)(hx:ev (lk E) x=some (.ptr id 0))(hk:xs[k]?=some [(id,.cells cs)])(hy:ev (lk E) y=some (.agg c))(hm:c.length=m)(hl:cs.length=m)(ho:c.all AV.one=true)
  (H:Dis G (xs.set k [(id,.cells c)]).flatten→Yu P A f nt h0 0 r (Qn dst E) bx (hset G (xs.set k [(id,.cells c)]).flatten) Q):Yu P A f nt h0 q (⟨dst,none,.st x y m⟩::r) E bx (hset G xs.flatten) Q:=
 o_stC (v:= .agg c) k hD hq hd hx hk hy hm ho (splice_all (hm.trans hl.symm)) H
theorem d_ldW(hq:q=0)(hlt:(decide (d<nt))=true)(hx:ev (lk E) x=some (.ptr id off))(hi:h id=some (.cells cs))(hv:cs[off]?=some v)
  (H:Xu P A f nt S (q-1) cls r ((d,v)::E) bx h Q):Xu P A f nt S q (.W::cls) (⟨some d,none,.ld x none⟩::r) E bx h Q:=fun ops l0 rg hl hs hS hL=>
 d_W (R:=fun E' bx' h1=>E'=(d,v)::E∧bx'=bx∧h1=h) (fun h=>by omega) (Y2 hlt hx hi (fun h=>absurd h (by decide)) hv (X8 ⟨rfl,rfl,rfl,rfl⟩)) (by rintro _ _ _ ⟨rfl,rfl,rfl⟩;exact⟨fun hq=>hS (by omega),hL,H⟩) ops l0 rg hl hs hS hL
theorem tM{q:Prop}(x:q)(h:Tk q→p:=by intro x;(repeat (first
 |((with_reducible apply Ym9);exact rfl;exact rfl;exact rfl;(first|exact trivial|exact⟨by decide,by decide⟩|exact⟨rfl,by decide,by decide⟩))
 |(with_reducible first|apply K5|apply Yf5|apply Yci|apply Ybg|apply Yf6|apply Ylf|apply X8|apply X0|apply Yau|apply Yc0|apply Yc7|apply Yax|apply Yc6|apply Yav|apply Yc1|apply Jl|apply Yaw|apply jqB_exit|apply Ydh|apply jq_exit|apply Ygj)
 |((with_reducible apply o_valB);exact rfl;exact rfl;exact rfl;exact trivial)|((with_reducible apply o_valL);exact rfl;exact rfl;exact rfl;(first|exact trivial|exact⟨rfl,rfl⟩|exact rfl))
 |((with_reducible apply Ybf);exact rfl)|((with_reducible apply Yb6);exact rfl)|((with_reducible apply Yay);exact rfl;exact rfl)|((with_reducible apply Ydd);exact rfl;exact rfl)|((with_reducible apply Ydc);exact rfl;exact rfl)|((with_reducible apply Ybw);exact rfl)
 |((with_reducible apply o_ldC);assumption;exact rfl;exact rfl;exact rfl;(first|exact .head _|exact .tail _ (.head _)|exact .tail _ (.tail _ (.head _))|exact .tail _ (.tail _ (.tail _ (.head _))));exact rfl)
 |((with_reducible apply o_ldC);assumption;exact rfl;exact rfl;exact rfl;(first|exact Yi (k:=9) rfl (.head _)|exact Yi (k:=8) rfl (.head _)|exact Yi (k:=4) rfl (.head _)|exact Yi (k:=2) rfl (.head _)|exact Yi (k:=3) rfl (.head _)|exact Yi (k:=5) rfl (.head _)|exact Yi (k:=10) rfl (.head _)|exact Yi (k:=11) rfl (.head _)|exact Yi (k:=12) rfl (.head _)|exact Yi (k:=13) rfl (.head _));exact rfl)
 |((with_reducible apply Y2);exact rfl;exact rfl;assumption;exact(fun h=>absurd h (by decide));exact rfl)
 |((with_reducible apply Ji);exact rfl;exact rfl;assumption;(first|exact .one rfl|exact .many rfl rfl);exact(fun h=>absurd h (by decide)))|((with_reducible apply o_lenE);exact rfl;exact rfl;assumption)|((with_reducible apply o_lenU);exact rfl;exact rfl;assumption)));exact x.a):p:=h ⟨x⟩
theorem tD{q:Prop}(x:q)(h:Tk q→p:=by intro x;(repeat (first
 |((with_reducible apply d_valM);exact rfl;exact rfl;exact rfl;exact rfl;exact rfl;(first|exact trivial|exact⟨by decide,by decide⟩|exact⟨rfl,by decide,by decide⟩))
 |((with_reducible apply d_valB);exact rfl;exact rfl;exact rfl;exact rfl;exact rfl;exact trivial)|((with_reducible apply d_valL);exact rfl;exact rfl;exact rfl;exact rfl;exact rfl;(first|exact trivial|exact⟨rfl,rfl⟩|exact rfl))
 |((with_reducible apply d_gT);exact rfl)|((with_reducible apply d_gF);exact rfl;exact rfl)|((with_reducible apply d_gU);exact rfl;exact rfl)
 |((with_reducible apply d_ld);exact rfl;exact rfl;(first|exact .head _|exact .tail _ (.head _)|exact .tail _ (.tail _ (.head _))|exact .tail _ (.tail _ (.tail _ (.head _))));(first|exact .one rfl|exact .many rfl rfl);exact rfl;exact(by decide))
 |((with_reducible apply d_ldW);exact rfl;exact rfl;exact rfl;assumption;exact rfl)|((with_reducible apply d_ldWC);assumption;exact rfl;exact rfl;exact rfl;(first|exact .head _|exact .tail _ (.head _)|exact Yi (k:=9) rfl (.head _)|exact Yi (k:=8) rfl (.head _));exact rfl)|((with_reducible apply d_ldT1);exact rfl;exact rfl;exact rfl)|((with_reducible apply d_ldTm);exact rfl;exact rfl;exact rfl)|((with_reducible apply d_lenE);exact rfl;exact rfl;assumption)|((with_reducible apply d_lenU);exact rfl;exact rfl;assumption)|(with_reducible apply d_nil)));exact x.a):p:=h ⟨x⟩
section
variable {P:Program} {A:Ann} {f:Nat} {E:Env} {G G':Ya} {bs ys:CL} {bx:List Nat} {l:List ResultVar} {vs:List AV} {R:AV→CL→Ya→Prop}
theorem Yjg(e1:ResR P E (hset G' (bs++ys).flatten) l vs)(e2:A.fz f=false)(hD:Dis G' (bs++ys).flatten)(hb:∀i,i∈bx↔i∈bs.flatten.map Prod.fst)(hx:Ext G G')(hR:R (Yx vs) ys G'):Yj6 P A f l (SQ G R) .ret E bx (hset G' (bs++ys).flatten):=by
 obtain⟨k1,k2⟩:=J2 hD hb;exact Xd e1 e2 ⟨G',ys,k1,k2,hx,hR⟩
theorem hS0(e1:ResR P E (hset G' ys.flatten) l vs)(e2:A.fz f=false)(hD:Dis G' ys.flatten)(hx:Ext G G')(hR:R (Yx vs) ys G'):Yj6 P A f l (SQ G R) .ret E [] (hset G' ys.flatten):=
 Xd e1 e2 ⟨G',ys,Yl,hD,hx,hR⟩
theorem hSn(e2:A.fz f=false)(hD:Dis G' ys.flatten)(hx:Ext G G')(hR:R (.tup []) ys G'):Yj6 P A f [] (SQ G R) .norm E [] (hset G' ys.flatten):=
 show ∃_vs,_ from⟨[],.nil,e2,G',ys,Yl,hD,hx,hR⟩
end
section
variable {P:Program} {A:Ann} {f nt q:Nat} {E:Env} {bx:List Nat} {h G:Ya} {xs:CL} {Q:AX→Env→List Nat→Ya→Prop} {S:PS} {cls:List CD}
theorem stbC{v:List AV}(hD:Dis G xs.flatten)(hm:(id,AObj.cells cs)∈xs.flatten)(hs:Yp cs off n=some v)(H:Stb S (hset G xs.flatten)):Stb ((id,off,n,v)::S) (hset G xs.flatten):=
 .cons (by unfold sliceAt;rw[show hset G xs.flatten (id,off,n).1=_ from Yk hD hm];exact hs) H
theorem livC{o:AObj}{v:List AV}(hD:Dis G xs.flatten)(hm:(id,o)∈xs.flatten)(H:Liv S (hset G xs.flatten)):Liv ((id,off,n,v)::S) (hset G xs.flatten):=fun x hx=>by
 rcases mem_cons.1 hx with rfl|hx
 ·rw[show hset G xs.flatten _=_ from Yk hD hm];simp
 ·exact H x hx
theorem Ynm:Liv [] h:=fun _ hx=>by cases hx
theorem Ydz{g:Nat}(hc:Jj P A g (first++vs++cap) h v)(hd:decide (d<nt)=true:=by exact rfl)(hx:ev (lk E) x=some (.fn g first cap):=by exact rfl)(ha:evS (lk E) args=some vs:=by exact rfl)
  (H:Xu P A f nt S (q-1) cls r ((d,v)::E) bx h Q):Xu P A f nt S q (.W::cls) (⟨some d,none,.call x args⟩::r) E bx h Q:=fun ops l0 rg hl hs hS hL=>
 d_W (R:=fun E' bx' h1=>E'=(d,v)::E∧bx'=bx∧h1=h) (fun _=>rfl) (Xh hc rfl (by simpa[Y8]using hd) hx ha (X8 ⟨rfl,rfl,rfl,rfl⟩)) (by rintro _ _ _ ⟨rfl,rfl,rfl⟩;exact⟨fun hq=>hS (by omega),hL,H⟩) ops l0 rg hl hs hS hL
theorem Yia{w:AV}(hv:sv (lk E) k=some (p,v))(hp:p)(he:v=w)(hk:Yfg k=false:=by exact rfl)(hl:Ylp k=true:=by exact rfl)(hlt:(decide (d<nt))=true:=by exact rfl)(H:Xu P A f nt S (q-1) cls r ((d,w)::E) bx h Q):Xu P A f nt S q (.C::cls) (⟨some d,none,k⟩::r) E bx h Q:=by
 subst he;exact d_v hk hl hlt hv hp H
theorem dI{e:Bool}(c:Prop)(T:c→Xu P A f nt S (q-1) cls r ((d,.bool true)::E) bx h Q)(F:¬c→Xu P A f nt S (q-1) cls r ((d,.bool false)::E) bx h Q)(hk:Yfg k=false:=by exact rfl)(hl:Ylp k=true:=by exact rfl)
  (hlt:(decide (d<nt))=true:=by exact rfl)(hv:sv (lk E) k=some (p,.bool e):=by exact rfl)(hp:p:=by exact trivial)
  (h1:c→e=true:=by intro H;first|exact Zt H|exact Zt (by omega)|(simp;omega))
  (h2:¬c→e=false:=by intro H;first|exact Zx H|exact Zx (by omega)|(simp;omega)):Xu P A f nt S q (.C::cls) (⟨some d,none,k⟩::r) E bx h Q:=by
 refine d_v hk hl hlt hv hp ?_;by_cases hc:c
 ·rw[h1 hc];exact T hc
 ·rw[h2 hc];exact F hc
theorem Yhm(m:List Bool)(hD:Dis G xs.flatten)(hg:Ext g G)(hd:Y8 nt dst=true)(hx:ev (lk E) x=some (.fn gf first cap))(ha:evS (lk E) args=some vs)
  (hc:HM P A gf (first++vs++cap) g (sel m xs) R)(H:∀v ys G',R v ys (hset G' (rej m xs).flatten)→Ext G G'→Dis G' (mrg m xs ys).flatten→(1<q→Stb S (hset G' (mrg m xs ys).flatten))∧Liv S (hset G' (mrg m xs ys).flatten)∧Xu P A f nt S (q-1) cls r (Ysa dst v E) bx (hset G' (mrg m xs ys).flatten) Q) :
  Xu P A f nt S q (.W::cls) (⟨dst,none,.call x args⟩::r) E bx (hset G xs.flatten) Q:=
 d_W (R:=fun E' bx' h1=>∃v ys G',E'=Ysa dst v E∧bx'=bx∧h1=hset G' (mrg m xs ys).flatten∧R v ys (hset G' (rej m xs).flatten)∧Ext G G'∧Dis G' (mrg m xs ys).flatten) (fun _=>rfl) (Q4 m hD hg rfl hd hx ha hc fun v ys G' h1 h2 h3=>X8 ⟨rfl,v,ys,G',rfl,rfl,rfl,h1,h2,h3⟩)
  (by rintro _ _ _ ⟨v,ys,G',rfl,rfl,rfl,h1,h2,h3⟩;exact H v ys G' h1 h2 h3)
theorem Yjm(k:Nat)(hD:Dis G xs.flatten)(hd:Y8 nt dst=true)(hx:ev (lk E) x=some (.ptr id off))(hk:xs[k]?=some [(id,.cells cs)])(hy:ev (lk E) y=some v)(ho:v.one=true)
  (hlt:off<cs.length)(H:Dis G (xs.set k [(id,.cells (cs.set off v))]).flatten→(1<q→Stb S (hset G (xs.set k [(id,.cells (cs.set off v))]).flatten))∧Liv S (hset G (xs.set k [(id,.cells (cs.set off v))]).flatten)∧Xu P A f nt S (q-1) cls r (Qn dst E) bx (hset G (xs.set k [(id,.cells (cs.set off v))]).flatten) Q) :
  Xu P A f nt S q (.W::cls) (⟨dst,none,.st x y 1⟩::r) E bx (hset G xs.flatten) Q:=
 d_W (R:=fun E' bx' h1=>E'=Qn dst E∧bx'=bx∧h1=hset G (xs.set k [(id,.cells (cs.set off v))]).flatten∧Dis G (xs.set k [(id,.cells (cs.set off v))]).flatten) (fun _=>rfl) (Qs k hD rfl hd hx hk hy ho hlt fun h=>X8 ⟨rfl,rfl,rfl,rfl,h⟩) (by rintro _ _ _ ⟨rfl,rfl,rfl,h⟩;exact H h)
theorem d_alcC{esc:Bool}{z:List AV}(hD:Dis G xs.flatten)(hlt:(decide (d<nt))=true)
  (H:∀i,Dis G ([(i,.cells z)]::xs).flatten→Xu P A f nt S (q-1) cls r ((d,.ptr i 0)::E) (if esc then bx else i::bx) (hset G ([(i,.cells z)]::xs).flatten) Q):Xu P A f nt S q (.C::cls) (⟨some d,none,.alc esc z⟩::r) E bx (hset G xs.flatten) Q:=
 d_alc hlt fun i hi=>H i ⟨hi,hD⟩
end
theorem o_sltE{k:IntKind}(he:Enc enc s)(H0:SlE enc s v l L)(hm:m≤l.length)(hlt:(decide (d<nt))=true)(hx:ev (lk E) x=some v)(hy:ev (lk E) y=some (.int k (m:Int)))
  (H:∀w,SlE enc s w (l.take m) L→Yu P A f nt h0 (q-1) r ((d,w)::E) bx h Q):Yu P A f nt h0 q (⟨some d,none,.slt x none (some y) s⟩::r) E bx h Q:=by
 have ht:=H0.take he hm;rcases H0 with ⟨rfl,rfl,rfl⟩|⟨i,js,rfl,rfl⟩
 ·obtain rfl:m=0:=by simpa using hm
  exact Yq (p:=(0:Int)=0∧((0:Nat):Int)=0) hlt (by simp only[sv,hx,evI,hy]) ⟨rfl,rfl⟩ (H _ ht)
 ·exact Yq (p:=s=s∧(0:Int)≤0∧(0:Int)≤m∧(m:Int)≤(l.length:Int)) (v:= .sl i 0 m s) hlt (by simp only[sv,hx,evI,hy];simp) ⟨rfl,by omega,by omega,by omega⟩ (H _ ht)
theorem d_stC{cs':List AV}(k:Nat)(hD:Dis G xs.flatten)(hd:Y8 nt dst=true)(hx:ev (lk E) x=some (.ptr id off))(hk:xs[k]?=some [(id,.cells cs)])(hy:ev (lk E) y=some v)(hm:v.cells.length=m)(ho:v.cells.all AV.one=true)
  (hs':Ql cs off v.cells=some cs')(H:Dis G (xs.set k [(id,.cells cs')]).flatten→(1<q→Stb S (hset G (xs.set k [(id,.cells cs')]).flatten))∧Liv S (hset G (xs.set k [(id,.cells cs')]).flatten)∧Xu P A f nt S (q-1) cls r (Qn dst E) bx (hset G (xs.set k [(id,.cells cs')]).flatten) Q) :
  Xu P A f nt S q (.W::cls) (⟨dst,none,.st x y m⟩::r) E bx (hset G xs.flatten) Q:=
 d_W (R:=fun E' bx' h1=>E'=Qn dst E∧bx'=bx∧h1=hset G (xs.set k [(id,.cells cs')]).flatten∧Dis G (xs.set k [(id,.cells cs')]).flatten) (fun _=>rfl) (o_stC k hD rfl hd hx hk hy hm ho hs' fun h=>X8 ⟨rfl,rfl,rfl,rfl,h⟩) (by rintro _ _ _ ⟨rfl,rfl,rfl,h⟩;exact H h)
theorem o_cpC{len:Nat}{vy:AV}{cs' new:List AV}(k:Nat)(hD:Dis G xs.flatten)(hq:q=0)(hd:Y8 nt dst=true)(hs0:0<s)(hx:ev (lk E) x=some (.sl id off len s))(hy:ev (lk E) y=some vy)(hk:xs[k]?=some [(id,.cells cs)])(hsrc:Yaf s (hset G xs.flatten) vy=some (new,m))(hlen:new.length=m*s)
  (hone:(new.take (min m len*s)).all AV.one=true)(hsp:Ql cs off (new.take (min m len*s))=some cs')
  (H:Dis G (xs.set k [(id,.cells cs')]).flatten→Yu P A f nt h0 0 r (Ysa dst (.int .i64 (min m len:Nat)) E) bx (hset G (xs.set k [(id,.cells cs')]).flatten) Q):Yu P A f nt h0 q (⟨dst,none,.cpy s x y⟩::r) E bx (hset G xs.flatten) Q:=by
 obtain⟨e1,e2⟩:=Yet (o':= .cells cs') hD hk;exact o_cpy hq hd hs0 hx hy hsrc hlen hone (Yk hD (Yi hk (.head _))) hsp (e1▸H e2)
theorem Ybs{v:List AV}(hm:h id=some (.cells cs))(hs:Yp cs off n=some v)(H:Stb S h):Stb ((id,off,n,v)::S) h:=
 .cons (by unfold sliceAt;rw[hm];exact hs) H
theorem d_bld{z:List AV}{ps:List (Nat×Nat×SX)}(hlt:(decide (d<nt))=true)(hf:Ybt (lk E) z ps=some cs)(H:Xu P A f nt S (q-1) cls r ((d,.agg cs)::E) bx h Q):Xu P A f nt S q (.C::cls) (⟨some d,none,.bld z ps⟩::r) E bx h Q:=
 d_v (p:=True) rfl rfl hlt (by simp only[sv,hf]) trivial H
def msk (n:Nat) (xs:CL):List Bool:=List.replicate n false++List.replicate (xs.length-n) true
theorem msk_all:∀xs:CL,sel (List.replicate xs.length true) xs=xs∧rej (List.replicate xs.length true) xs=[]∧∀ys,mrg (List.replicate xs.length true) xs ys=ys
 |[]=>⟨rfl,rfl,fun ys=>by cases ys<;>simp[mrg]⟩
 |x::xs=>by
  obtain⟨h1,h2,h3⟩:=msk_all xs;refine⟨?_,?_,fun ys=>?_⟩
  ·show x::sel _ xs=_;rw[h1]
  ·exact h2
  ·cases ys with
   |nil=>exact h3 []
   |cons y ys=>show y::mrg _ xs ys=_;rw[h3]
theorem Yls:∀(n:Nat) (xs:CL),sel (msk n xs) xs=xs.drop n∧rej (msk n xs) xs=xs.take n∧∀ys,mrg (msk n xs) xs ys=xs.take n++ys
 |0,xs=>by
  have:msk 0 xs=List.replicate xs.length true:=rfl;rw[this];exact msk_all xs
 |n+1,[]=>by
  have:msk (n+1) []=List.replicate (n+1) false:=by simp[msk]
  rw[this];exact⟨rfl,rfl,fun ys=>by simp[mrg,replicate_succ]⟩
 |n+1,x::xs=>by
  obtain⟨h1,h2,h3⟩:=Yls n xs;have e:msk (n+1) (x::xs)=false::msk n xs:=by simp[msk,replicate_succ]
  rw[e];refine⟨h1,?_,fun ys=>?_⟩
  ·show x::rej _ xs=_;rw[h2];rfl
  ·show x::mrg _ xs ys=_;rw[h3];rfl
theorem Xf(n:Nat)(hD:Dis G xs.flatten)(hg:Ext g G)(hq:q=0)(hd:Y8 nt dst=true)(hx:ev (lk E) x=some (.fn gf first cap))(ha:evS (lk E) args=some vs)
  (hc:HM P A gf (first++vs++cap) g (xs.drop n) R)(H:∀v ys G',R v ys (hset G' (xs.take n).flatten)→Ext G G'→Dis G' (xs.take n++ys).flatten→Yu P A f nt h0 0 r (Ysa dst v E) bx (hset G' (xs.take n++ys).flatten) Q):Yu P A f nt h0 q (⟨dst,none,.call x args⟩::r) E bx (hset G xs.flatten) Q:=by
 obtain⟨m1,m2,m3⟩:=Yls n xs;refine Q4 (msk n xs) hD hg hq hd hx ha (by rw[m1];exact hc) fun v ys G' h1 h2 h3=>?_;rw[m2]at h1;rw[m3]at h3 ⊢;exact H v ys G' h1 h2 h3
theorem d_callT(n:Nat)(hD:Dis G xs.flatten)(hg:Ext g G)(hd:Y8 nt dst=true)(hx:ev (lk E) x=some (.fn gf first cap))(ha:evS (lk E) args=some vs)
  (hc:HM P A gf (first++vs++cap) g (xs.drop n) R)(H:∀v ys G',R v ys (hset G' (xs.take n).flatten)→Ext G G'→Dis G' (xs.take n++ys).flatten→(1<q→Stb S (hset G' (xs.take n++ys).flatten))∧Liv S (hset G' (xs.take n++ys).flatten)∧Xu P A f nt S (q-1) cls r (Ysa dst v E) bx (hset G' (xs.take n++ys).flatten) Q) :
  Xu P A f nt S q (.W::cls) (⟨dst,none,.call x args⟩::r) E bx (hset G xs.flatten) Q:=by
 obtain⟨m1,m2,m3⟩:=Yls n xs;refine Yhm (msk n xs) hD hg hd hx ha (by rw[m1];exact hc) fun v ys G' h1 h2 h3=>?_;rw[m2]at h1;rw[m3]at h3 ⊢;exact H v ys G' h1 h2 h3
end Go.Abs
end
section
open Go Go.Abs Go.Proofs.SlimCode Go.Img Go.Vm
namespace Go.Abs
open List
theorem kx{P:Program}{A:Ann}{f:Nat}{l:List ResultVar}{vs:List AV}{E:Env}{h:Ya}{w:AV}(e1:Yb8 E l=some vs)(e2:A.fz f=false)(e3:Yx vs=w):hretx P A f l h (fun v h'=>v=w∧h'=h) .ret E [] h:=X7 e1 e2 ⟨e3,Yl⟩ fun _=> .inl ⟨e3,rfl⟩
end Go.Abs
namespace Go.Vm
open List
variable {u:Hp}
structure HV (h:Ya) (b:Nat) (u:Hp) (vw vs:AV):Prop where
 o:h b=some (.cells [I u.n,vw,vs])
 w:Sl (RN .i32) 1 h vw u.w
 s:Sl RB 1 h vs u.st
structure HOk (u:Hp):Prop where
 n:0≤u.n∧u.n≤1048576
 cap:(u.w.length:Int)≤u.n
 st:u.st.length=u.w.length
 i32:∀x∈u.w,I32 x
 ob:∀a,u.st.getD a false=true→Ob u.w a
 sep:∀p q,u.st.getD p false=true→u.st.getD q false=true→p<q→(p:Int)+2+u.w.getD (p+1) 0≤q
theorem getI{l:List Int}(h:∀x∈l,I32 x)(i:Nat):I32 (l.getD i 0):=by
 rw[Zd];cases e:l[i]? with
 |none=>exact⟨by decide,by decide⟩
 |some x=>exact h x (mem_of_getElem? e)
theorem atD{α:Type}{l:List α}{i:Nat}{d:α}(hi:i<l.length):l[i]=l.getD i d:=by rw[Zd,Zg hi];rfl
theorem HOk.has(H:HOk u){a:Int}(h:u.has a=true):∃n:Nat,a=n∧n<u.w.length∧Ob u.w n:=by
 unfold Hp.has at h;split at h
 ·rename_i ha;exact⟨a.toNat,by omega,by omega,H.ob _ h⟩
 ·cases h
theorem HOk.len(H:HOk u)(a:Int):0≤u.len a∧u.len a≤1000∧(0<u.len a→∃n:Nat,a=n∧u.has a=true∧(n:Int)+2+u.len a≤u.w.length):=by
 unfold Hp.len;split
 ·rename_i h;obtain⟨n,rfl,h1,o1,o2,o3⟩:=H.has h;unfold Yme at o2;rw[show((n:Int)+1).toNat=n+1 by omega];exact⟨o2.2.2.1,o2.2.2.2,fun _=>⟨n,rfl,h,by omega⟩⟩
 ·exact⟨by omega,by omega,fun h=>by omega⟩
theorem HOk.kind(H:HOk u)(a:Int) : -1≤u.kind a∧u.kind a≤10000:=by
 unfold Hp.kind;split
 ·rename_i h;obtain⟨n,rfl,h1,o1,o2,o3⟩:=H.has h;unfold Yme at o2;rw[Zn];omega
 ·omega
end Go.Vm
set_option maxRecDepth 100000
namespace Go.Proofs
open List
open Go.Proofs.Tryz
variable {h:Ya} {b:Nat} {u:Hp} {vw vs:AV} {a:Int}
theorem p193k(V:HV h b u vw vs)(H:HOk u):Jj prog ann 193 [.ptr b 0,I a] h (.bool (u.has a)):=by
 have hs:=H.st;have ho:=V.o;refine Yz rfl func193 Zw rfl ?_;refine tM ?_;refine oI (0≤a) (fun H1=>?_) (fun H1=>?_);rotate_left
 ·refine tM ?_;exact kx rfl rfl (by rw[Hp.has,if_neg (fun h=>H1 h.1)];rfl)
 refine tM ?_;apply Y0 rfl rfl V.w;refine tM ?_;refine oI (a<u.w.length) (fun H2=>?_) (fun H2=>?_);rotate_left
 ·refine tM ?_;exact kx rfl rfl (by rw[Hp.has,if_neg (fun h=>H2 h.2)];rfl)
 refine tM ?_;obtain⟨n,rfl⟩:=Int.eq_ofNat_of_zero_le H1;apply Qg rfl rfl rfl V.s (show n<_ by omega);intro p d hp hd _;obtain rfl:d=[.bool _]:=hd;refine tM ?_;exact kx rfl rfl (by rw[Hp.has,if_pos ⟨H1,H2⟩,Zn,←atD (by omega)];rfl)
theorem p154k(V:HV h b u vw vs)(H:HOk u):Jj prog ann 154 [.ptr b 0,I a] h (I (u.kind a)):=by
 have ho:=V.o;refine Yz rfl func154 Zw rfl ?_;refine tM ?_;apply Xh (p193k V H);unfold Hp.kind;cases ha:u.has a with
 |false=>
  refine tM ?_;exact kx rfl rfl rfl
 |true=>
  obtain⟨n,rfl,h1,h2⟩:=H.has ha;have h3:=getI H.i32 n;unfold I32 at h3;refine tM ?_;apply Qg rfl rfl rfl V.w h1;intro p d hp hd _;obtain rfl:d=[.int .i32 _]:=hd;refine tM ?_;apply Y1 (w:=I (u.w.getD n 0)) rfl rfl trivial (by rw[atD (d:=0) h1,w64 (by omega) (by omega)]);refine tM ?_;exact kx rfl rfl rfl
theorem p152k(V:HV h b u vw vs)(H:HOk u):Jj prog ann 152 [.ptr b 0,I a] h (I (u.len a)):=by
 have ho:=V.o;have hn:=H.n;have hc:=H.cap;refine Yz rfl func152 Zw rfl ?_;refine tM ?_;apply Xh (p193k V H);unfold Hp.len;cases ha:u.has a with
 |false=>
  refine tM ?_;exact kx rfl rfl rfl
 |true=>
  obtain⟨n,rfl,h1,h2⟩:=H.has ha;have h3:=getI H.i32 (n+1);have h4:=h2.1;unfold I32 at h3;refine tM ?_;apply Y1 (w:=I ((n+1:Nat):Int)) rfl rfl trivial (by rw[w64 (by omega) (by omega)];rfl);apply Qg rfl rfl rfl V.w h4;intro p d hp hd _;obtain rfl:d=[.int .i32 _]:=hd;refine tM ?_;apply Y1 (w:=I (u.w.getD (n+1) 0)) rfl rfl trivial (by rw[atD (d:=0) h4,w64 (by omega) (by omega)]);refine tM ?_;exact kx rfl rfl rfl
theorem p153k{i:Int}(V:HV h b u vw vs)(H:HOk u):Jj prog ann 153 [.ptr b 0,I a,I i] h (.int .i32 (u.get a i)):=by
 have ho:=V.o;have hn:=H.n;have hc:=H.cap;obtain⟨l1,l2,l3⟩:=H.len a;refine Yz rfl func153 Zw rfl ?_;refine tM ?_;refine oI (i<0) (fun H1=>?_) (fun H1=>?_)
 ·refine tM ?_;exact kx rfl rfl (by rw[Hp.get,if_neg (by omega)];rfl)
 refine tM ?_;apply Xh (p152k V H);refine tM ?_;refine oI (u.len a≤i) (fun H2=>?_) (fun H2=>?_)
 ·refine tM ?_;exact kx rfl rfl (by rw[Hp.get,if_neg (by omega)];rfl)
 obtain⟨n,rfl,_,h2⟩:=l3 (by omega);obtain⟨k,rfl⟩:=Int.eq_ofNat_of_zero_le (Int.not_lt.1 H1);refine tM ?_;apply Y1 (w:=I ((n+2:Nat):Int)) rfl rfl trivial (by rw[w64 (by omega) (by omega)];rfl);refine tM ?_;apply Y1 (w:=I ((n+2+k:Nat):Int)) rfl rfl trivial (by rw[w64 (by omega) (by omega)];rfl);have h5:n+2+k<u.w.length:=by omega
 apply Qg rfl rfl rfl V.w h5;intro p d hp hd _;obtain rfl:d=[.int .i32 _]:=hd;refine tM ?_;exact kx rfl rfl (by rw[Hp.get,if_pos (by omega),show((n:Int)+2+(k:Int)).toNat=n+2+k by omega,←atD h5];rfl)
theorem p77k(V:HV h b u vw vs):Jj prog ann 77 [.ptr b 0] h (I u.w.length):=by
 have ho:=V.o;refine Yz rfl func77 Zw rfl ?_;refine tM ?_;apply Y0 rfl rfl V.w;refine tM ?_;exact kx rfl rfl rfl
theorem p150k(V:HV h b u vw vs):Jj prog ann 150 [.ptr b 0] h (I u.n):=by
 have ho:=V.o;refine Yz rfl func150 Zw rfl ?_;refine tM ?_;exact kx rfl rfl rfl
end Go.Proofs
end
