import Derived.Test.YtibdecjfdpmfoaaGreatVmCollect
section
namespace Go.Abs
open List
theorem tR{p q:Prop}(x:q)(h:Tk q→p:=by intro x;(repeat (first
 |((with_reducible apply Ym9);exact rfl;exact rfl;exact rfl;(first|exact trivial|exact⟨by decide,by decide⟩|exact⟨rfl,by decide,by decide⟩))
 |(with_reducible first|apply Yf5|apply Yci|apply Ybg|apply Yf6|apply Ylf|apply X8|apply X0|apply Yau|apply Yc0|apply Yc7|apply Yax|apply Yc6|apply Yav|apply Yc1|apply Jl|apply Yaw|apply jqB_exit|apply Ydh|apply jq_exit|apply Ygj)
 |((with_reducible apply o_valB);exact rfl;exact rfl;exact rfl;exact trivial)|((with_reducible apply o_valL);exact rfl;exact rfl;exact rfl;(first|exact trivial|exact⟨rfl,rfl⟩|exact rfl))
 |((with_reducible apply Ybf);exact rfl)|((with_reducible apply Yb6);exact rfl)|((with_reducible apply Yay);exact rfl;exact rfl)|((with_reducible apply Ydd);exact rfl;exact rfl)|((with_reducible apply Ydc);exact rfl;exact rfl)|((with_reducible apply Ybw);exact rfl)
 |((with_reducible apply o_ldC);assumption;exact rfl;exact rfl;exact rfl;(first|exact .head _|exact .tail _ (.head _)|exact .tail _ (.tail _ (.head _))|exact .tail _ (.tail _ (.tail _ (.head _))));exact rfl)
 |((with_reducible apply o_ldC);assumption;exact rfl;exact rfl;exact rfl;(first|exact Yi (k:=9) rfl (.head _)|exact Yi (k:=8) rfl (.head _)|exact Yi (k:=4) rfl (.head _)|exact Yi (k:=2) rfl (.head _)|exact Yi (k:=3) rfl (.head _)|exact Yi (k:=5) rfl (.head _)|exact Yi (k:=10) rfl (.head _)|exact Yi (k:=11) rfl (.head _)|exact Yi (k:=12) rfl (.head _)|exact Yi (k:=13) rfl (.head _));exact rfl)
 |((with_reducible apply Y2);exact rfl;exact rfl;assumption;exact(fun h=>absurd h (by decide));exact rfl)
 |((with_reducible apply Ji);exact rfl;exact rfl;assumption;(first|exact .one rfl|exact .many rfl rfl);exact(fun h=>absurd h (by decide)))|((with_reducible apply o_lenE);exact rfl;exact rfl;assumption)|((with_reducible apply o_lenU);exact rfl;exact rfl;assumption)));exact x.a):p:=h ⟨x⟩
end Go.Abs
end
section
open Go Go.Abs Go.Proofs.SlimCode Go.Img Go.Vm
namespace Go.Vm
open List
variable {im:Image}
theorem mAt_nat{n:Nat}(h:n<im.methods.length):mAt im n=im.methods[n]:=by
 unfold mAt;rw[Zn,Zg h];rfl
theorem MV.ends{g:Ya}{c:Mc}{az:List Ac}{x:Vm}(M:MV g c az im x){e:Int}:MV g c az im (x.ends e):=⟨M.img,M.inp,M.hw,M.hs,M.st,M.at',M.out,M.ac,M.fr⟩
end Go.Vm
set_option maxRecDepth 100000
namespace Go.Proofs
open List
variable {g:Ya} {c:Mc} {az:List Ac} {im:Image} {x:Vm}
end Go.Proofs
namespace Go.Vm
open List
variable {im:Image} {x:Vm}
open Go.Proofs
def RefV (u:Hp) (n:Int):Prop:=n=0∨u.has (n-1)=true
structure CpIn (h:Hp) (rf:Int→Int→Bool) (c:Cp):Prop where
 kind:∀b,c.to.has b=true→∃a,h.has a=true∧c.to.kind b=h.kind a∧c.to.len b=h.len a
 ref:∀b i,c.to.has b=true→rf (c.to.kind b) i=true→RefV c.to (c.to.get b i)
open Go.Proofs
structure VV (u:Hp) (v:Val):Prop where
 i32:I32 v.2
 ref:v.1=true→RefV u v.2
structure FOk (im:Image) (u:Hp) (f:Fm):Prop where
 m:Yhq im f.k∧f.m=mAt im f.k
 loc:f.loc.length≤16
 room:0≤f.room∧f.room≤16
 stk:(f.stk.length:Int)≤f.room
 val:∀v∈f.loc++f.stk,VV u v
 init:f.init= -1∨IsT im f.init
 need:f.need= -1∨IsT im f.need
 pc:0≤f.pc∧f.pc≤f.m.code.length
structure HpOk (im:Image) (u:Hp):Prop where
 ok:HOk u
 kind:∀a,u.has a=true→IsT im (u.kind a)∧((cAt im (u.kind a)).array=0→u.len a=(cAt im (u.kind a)).refs.length)
 ref:∀a i,u.has a=true→Yjd im (u.kind a) i=true→RefV u (u.get a i)
structure VOk (im:Image) (x:Vm):Prop where
 hp:HpOk im x.hp
 stat:x.stat.map (·.1)=im.statref
 sv:∀v∈x.stat,VV x.hp v
 at':x.at'.length=im.classes.length∧∀n∈x.at',0≤n∧n≤2
 inp:∀n∈x.inp,I32 n
 n:x.acts.length≤64
 fr:∀f∈x.acts,FOk im x.hp f
 st:0≤x.steps∧(x.out.length:Int)≤x.steps
theorem VOk.ends{e:Int}(V:VOk im x):VOk im (x.ends e):=⟨V.hp,V.stat,V.sv,V.at',V.inp,V.n,V.fr,V.st⟩
theorem VOk.rok(VP:ValidP im)(V:VOk im x):ROk x:=by
 refine⟨?_,fun v hv=>(V.sv v hv).i32,V.n,fun f hf=>?_⟩
 ·have h1:=congrArg List.length V.stat;have h2:=VP.first.sizes
  unfold Yew at h2;rw[length_map]at h1;omega
 ·have F:=V.fr f hf;have:=F.room;have:=F.stk;exact⟨F.loc,by omega,fun v hv=>(F.val v hv).i32⟩
end Go.Vm
set_option maxRecDepth 100000
namespace Go.Proofs
open List
variable {h:Ya} {c:Mc} {im:Image} {x:Vm} {a:Ac} {f:Fm}
end Go.Proofs
end
section
open Go Go.Abs Go.Proofs.SlimCode Go.Img Go.Vm
set_option maxRecDepth 100000
namespace Go.Proofs
open List
open Go.Proofs.Tryz
variable {h:Ya}
theorem box_ret{f:Nat}{ls:List ResultVar}{h:Ya}{i:Nat}{cs:List AV}{a:Nat}{t:TypeId}{m:Nat}{E:Env}(hls:ls=[.cell a t])(hD:Dis h ([[(i,.cells cs)]]:CL).flatten)(h1:lk E a=some (.ptr i 0))(h2:Yfp prog t=some (some m))(hm:cs.length=m)(hf:ann.fz f=false):Yj6 prog ann f ls (fun w h'=>w= .agg cs∧h'=h) .ret E [i] (hset h ([[(i,.cells cs)]]:CL).flatten):=by
 subst hls;obtain⟨k1,k2⟩:=J2 (bs:=[[(i,.cells cs)]]) (ys:=[]) (bx:=[i]) hD (by intro i;simp);exact Xd (.cells h1 h2 (Yk hD (.head _)) (l':=cs) (by unfold Yp;rw[if_pos (by omega),drop_zero,Zk (by omega)]) .nil) hf ⟨rfl,k1⟩
theorem v198{n:Int}:Jj prog ann 198 [.int .i32 n] h (.agg (eV (false,n))):=by
 refine Yt rfl rfl func198 Zw rfl ?_;refine tM ?_;show Yu _ _ _ _ _ _ _ _ _ (hset h ([]:CL).flatten) _;refine Jd (xs:=[]) trivial rfl fun b hD=>?_;refine tM ?_;refine Kb (c:=eV (false,n)) 0 hD rfl rfl rfl rfl rfl rfl rfl rfl fun hD=>?_;refine tM ?_;exact box_ret (m:=2) rfl hD rfl (by kernel_rfl) rfl rfl
end Go.Proofs
end
section
namespace Go.Abs
open List hiding nil
variable {p v:AV} {l:List AV} {r:List SO} {α:Type} {h h':Ya} {R:Ya→List AV→α→Prop}
def iaV (v:AV) (z s:Nat):AV:=match v with
 |.tsl cs _=> .tptr cs (z*s)
 |.sl id off _ _=> .ptr id (off+z*s)
 |v=>v
def SP (p:AV) (v:List AV):PS:=match p with
 |.ptr id off=>[(id,off,v.length,v)]
 |_=>[]
theorem Sl.at{s:Nat}{l:List α}(H:Sl R s h v l){z:Nat}(hz:z<l.length):∃d,R h d l[z]∧d.length=s∧VPtr h (iaV v z s) d:=by
 obtain⟨cs,h1,h2⟩:=H;obtain⟨g1,g2⟩:=h2.get hz;have hl:=h1.len;have hb:z*s+s≤l.length*s:=by
  have:(z+1)*s≤l.length*s:=Zr s (by omega);rw[Nat.add_mul]at this;omega
 have hsl:Yp cs (z*s) s=some ((cs.drop (z*s)).take s):=Ybc (by omega);refine⟨_,g1,g2,?_⟩;generalize (cs.drop (z*s)).take s=d at g2 hsl;clear g1;generalize l.length=n at h1 hl hb hz;cases h1 with
 |nil=>omega
 |tsl _ _ _=>exact .t _ _ _ (by rw[g2];exact hsl)
 |sl id off _ os _ hid hc=>exact .p id _ os _ hid (by rw[g2];exact Ja hc hsl)
section
variable {P:Program} {A:Ann} {f nt q:Nat} {E:Env} {bx:List Nat} {h:Ya} {S:PS} {cls:List CD} {Q:AX→Env→List Nat→Ya→Prop}
theorem Yl7{d s z:Nat}{x y:SX}{l:List α}{k:IntKind}(hv:Sl R s h' v l)(hz:z<l.length)(hlt:(decide (d<nt))=true)(hx:ev (lk E) x=some v)(hy:ev (lk E) y=some (.int k (z:Int)))
  (H:Xu P A f nt S (q-1) cls r ((d,iaV v z s)::E) bx h Q):Xu P A f nt S q (.C::cls) (⟨some d,none,.ia x y none s⟩::r) E bx h Q:=by
 obtain⟨cs,h1,_⟩:=hv;have h1':=h1;generalize l.length=n at h1 hz;cases h1 with
 |nil=>omega
 |tsl _ _ _=>exact d_v (p:=(0:Int)≤z∧(z:Int)<(n:Int)) (v:= .tptr cs (z*s)) rfl rfl hlt (by simp only[sv,hx,hy,Zn]) ⟨by omega,by omega⟩ H
 |sl id off _ os _ hid hc=>exact d_v (p:=s=s∧(0:Int)≤z∧(z:Int)<(n:Int)) (v:= .ptr id (off+z*s)) rfl rfl hlt (by simp only[sv,hx,hy,Zn]) ⟨rfl,by omega,by omega⟩ H
theorem Yl6{d:Nat}{x:SX}{n:Option Nat}(hp:VPtr h' p l)(hS:∀y∈SP p l,y∈S)(hv:LdV n l v)(hq:0<q)(hlt:(decide (d<nt))=true)(hx:ev (lk E) x=some p)
  (H:Xu P A f nt S (q-1) cls r ((d,v)::E) bx h Q):Xu P A f nt S q (.L::cls) (⟨some d,none,.ld x n⟩::r) E bx h Q:=by
 cases hp with
 |t os _ off hc=>exact Yo5 hlt hx hc hv H
 |p id off os _ hi hc=>exact d_ld hlt hx (hS _ (.head _)) hv rfl hq H
end
theorem stbP(hp:VPtr h p l):Stb (SP p l) h:=by
 cases hp with
 |t os _ off hc=>exact .nil
 |p id off os _ hi hc=>exact .cons (by unfold sliceAt;rw[hi];exact hc) .nil
theorem livP(hp:VPtr h p l):Liv (SP p l) h:=by
 cases hp with
 |t os _ off hc=>exact Ynm
 |p id off os _ hi hc=>
  intro y hy;obtain rfl:=Zm.1 hy;rw[show h _=_ from hi];simp
end Go.Abs
end
section
open Go Go.Abs Go.Proofs.SlimCode Go.Img Go.Vm
namespace Go.Vm
open List
variable {im:Image} {az:List Ac}
structure ImOk (im:Image):Prop where
 v:ValidP im
 w:im.WF
theorem ImOk.mth(I:ImOk im){k:Int}(hk:Yhq im k):(mAt im k).WF∧MethP im (mAt im k):=by
 obtain⟨n,rfl⟩:=Int.eq_ofNat_of_zero_le hk.1.1;have hn:n<im.methods.length:=by have:=hk.1.2;omega
 rw[mAt_nat hn];exact⟨I.w.methods.2 _ (getElem_mem hn),I.v.meths _ (getElem_mem hn)⟩
theorem MV.ac0{g:Ya}{c:Mc}{x:Vm}(M:MV g c az im x):(az.reverse.map Ac.i).length=x.acts.length:=by
 rw[length_map,length_reverse,M.fr.len]
theorem ac_top{a a':Ac}{v:AV}{L:OL}(H:SlE eP 1 v ((a::az).reverse.map Ac.i) L)(h:a'.i=a.i):SlE eP 1 v ((a'::az).reverse.map Ac.i) L:=by
 rw[map_reverse,map_cons]at H ⊢;rw[h];exact H
end Go.Vm
set_option maxRecDepth 100000
namespace Go.Proofs
open List
variable {G:Ya}
variable {g:Ya} {c:Mc} {az:List Ac} {im:Image} {x:Vm}
theorem keep_pre{P:Program}{A:Ann}{f:Nat}{vs:List AV}{pre xs:CL}{v:AV}(hD:Dis G (pre++xs).flatten)(H:∀G',Dis G' xs.flatten→Jj P A f vs (hset G' xs.flatten) v):Jj P A f vs (hset G (pre++xs).flatten) v:=by
 rw[flatten_append]at hD ⊢;obtain⟨e1,d1⟩:=X5 perm_append_comm hD;obtain⟨d2,d3⟩:=Yat.1 d1;rw[e1,Kl];exact H _ d2
theorem Yim{xs:CL}(m:List Bool)(hD:Dis G xs.flatten):∃G',hset G xs.flatten=hset G' (rej m xs).flatten∧Dis G' (rej m xs).flatten∧Ext G G'∧Has G' (sel m xs).flatten:=by
 obtain⟨e1,d1⟩:=X5 ((Ye3 m xs).trans perm_append_comm) hD;obtain⟨d2,d3⟩:=Yat.1 d1;exact⟨hset G (sel m xs).flatten,by rw[e1,Kl],d2,Yr d3,Has.of_dis d3⟩
structure TS where
 x:Vm
 a:Int
 c:Mc
 az:List Ac
 G:Ya
 B:OL
end Go.Proofs
namespace Go.Vm
open List
open Go.Proofs
end Go.Vm
set_option maxRecDepth 100000
namespace Go.Proofs
open List
variable {g:Ya} {c:Mc} {az:List Ac} {im:Image} {x:Vm}
end Go.Proofs
namespace Go.Abs
open List hiding nil
variable {v:AV} {Q:AX→Env→List Nat→Ya→Prop} {A:Ann} {xs:CL} {E:Env} {cls:List CD} {bx:List Nat} {r:List SO} {d f nt q:Nat} {L:OL} {S:PS} {P:Program} {x:SX} {α:Type} {G:Ya}
theorem o_iaQ{h h0:Ya}{R:Ya→List AV→α→Prop}{s z:Nat}{y:SX}{l:List α}{k:IntKind}{h':Ya}(hv:Sl R s h' v l)(hz:z<l.length)(hlt:(decide (d<nt))=true)(hx:ev (lk E) x=some v)(hy:ev (lk E) y=some (.int k (z:Int)))
  (H:Yu P A f nt h0 (q-1) r ((d,iaV v z s)::E) bx h Q):Yu P A f nt h0 q (⟨some d,none,.ia x y none s⟩::r) E bx h Q:=by
 obtain⟨cs,h1,_⟩:=hv;have h1':=h1;generalize l.length=n at h1 hz;cases h1 with
 |nil=>omega
 |tsl _ _ _=>exact Yq (p:=(0:Int)≤z∧(z:Int)<(n:Int)) (v:= .tptr cs (z*s)) hlt (by simp only[sv,hx,hy,Zn]) ⟨by omega,by omega⟩ H
 |sl id off _ os _ hid hc=>exact Yq (p:=s=s∧(0:Int)≤z∧(z:Int)<(n:Int)) (v:= .ptr id (off+z*s)) hlt (by simp only[sv,hx,hy,Zn]) ⟨rfl,by omega,by omega⟩ H
theorem lay_perm{p q b:Nat×AObj}{m X:CL}(hD:Dis G ([p]::[q]::L::[b]::(m++X)).flatten):hset G ([p]::[q]::L::[b]::(m++X)).flatten=hset G ([b]::(m++([p]::[q]::L::[]::X))).flatten∧Dis G ([b]::(m++([p]::[q]::L::[]::X))).flatten:=by
 refine X5 ?_ hD;have e1:([p]::[q]::L::[b]::(m++X)).flatten=(p::q::L)++(b::(m.flatten++X.flatten)):=by simp
 have e2:([b]::(m++([p]::[q]::L::[]::X))).flatten=b::(m.flatten++((p::q::L)++X.flatten)):=by simp
 rw[e1,e2];exact perm_middle.trans (List.Perm.cons b (perm_append_comm_assoc _ _ _))
theorem d_hboxC{esc:Bool}(hD:Dis G xs.flatten)(hlt:(decide (d<nt))=true)(hx:ev (lk E) x=some v)(ho:v.cells.all AV.one=true)
  (H:∀i,Dis G ([(i,.cells v.cells)]::xs).flatten→(1<q→Stb S (hset G ([(i,.cells v.cells)]::xs).flatten))∧Liv S (hset G ([(i,.cells v.cells)]::xs).flatten)∧Xu P A f nt S (q-1) cls r ((d,.ptr i 0)::E) (if esc then bx else i::bx) (hset G ([(i,.cells v.cells)]::xs).flatten) Q) :
  Xu P A f nt S q (.W::cls) (⟨some d,none,.hbox esc x⟩::r) E bx (hset G xs.flatten) Q:=
 d_W (R:=fun E' bx' h1=>∃i,E'=(d,.ptr i 0)::E∧bx'=(if esc then bx else i::bx)∧h1=hset G ([(i,.cells v.cells)]::xs).flatten∧Dis G ([(i,.cells v.cells)]::xs).flatten) (fun _=>rfl) (Ylo hD hlt hx ho fun i h=>X8 ⟨rfl,i,rfl,rfl,rfl,h⟩) (by rintro _ _ _ ⟨i,rfl,rfl,rfl,h⟩;exact H i h)
theorem d_appE{enc:α→List AV}{s b:Nat}{y:SX}{vx vy:AV}{l m:List α}(k:Nat)(he:Enc enc s)(H0:SlE enc s vx l L)(hD:Dis G xs.flatten)(hlt:(decide (d<nt))=true)(hx:ev (lk E) x=some vx)(hy:ev (lk E) y=some vy)(hk:xs[k]?=some L)
  (hsrc:Yaf s (hset G xs.flatten) vy=some (m.flatMap enc,m.length))(hbd:(l.length+m.length)*(b+1)≤2^44)
  (H:∀v L',SlE enc s v (l++m) L'→Dis G (xs.set k L').flatten→(1<q→Stb S (hset G (xs.set k L').flatten))∧Liv S (hset G (xs.set k L').flatten)∧Xu P A f nt S (q-1) cls r ((d,v)::E) bx (hset G (xs.set k L').flatten) Q):Xu P A f nt S q (.W::cls) (⟨some d,none,.app s b x y⟩::r) E bx (hset G xs.flatten) Q:=
 d_W (R:=fun E' bx' h1=>∃v L',E'=(d,v)::E∧bx'=bx∧h1=hset G (xs.set k L').flatten∧SlE enc s v (l++m) L'∧Dis G (xs.set k L').flatten) (fun _=>rfl) (Ydx k he H0 hD rfl hlt hx hy hk hsrc hbd fun v L' h1 h2=>X8 ⟨rfl,v,L',rfl,rfl,rfl,h1,h2⟩) (by rintro _ _ _ ⟨v,L',rfl,rfl,rfl,h1,h2⟩;exact H v L' h1 h2)
end Go.Abs
namespace Go.Vm
open List
variable {im:Image} {init k:Int} {l:List Val} {x:Vm}
theorem Yqa(h:64≤x.acts.length):x.lay im k init l=(x.ends 5,false):=if_pos h
theorem Yjc(h:¬ 64≤x.acts.length)(h2:Yhq im k→(l.length:Int)≠(mAt im k).args):x.lay im k init l=(x.ends 6,false):=by
 unfold Vm.lay;rw[if_neg h,if_pos];by_cases hc:Yhq im k
 ·exact .inr (h2 hc)
 ·refine .inl fun h3=>hc ?_;have h3:=of_decide_eq_true h3;exact⟨⟨h3.1,h3.2.1⟩,h3.2.2⟩
theorem lay_ok(h:¬ 64≤x.acts.length)(h2:Yhq im k)(h3:(l.length:Int)=(mAt im k).args):x.lay im k init l=({x with acts:=Fm.of k (mAt im k).locals (mAt im k).stack l (mAt im k) init::x.acts},true):=by
 unfold Vm.lay;rw[if_neg h,if_neg];rintro(h4|h4)
 ·exact h4 (Zt ⟨h2.1.1,h2.1.2,h2.2⟩)
 ·exact h4 h3
end Go.Vm
set_option maxRecDepth 100000
namespace Go.Proofs
open List
open Go.Proofs.Tryz
variable {g:Ya} {c:Mc} {az:List Ac} {im:Image} {x:Vm}
theorem v69{k init:Int}{v:AV}{l:List Val}(hI:ImOk im)(M:MV g c az im x)(V:VOk im x)(hv:TV v l)(_hl:l.length≤16):HM prog ann 69 [.ptr c.mi 0,I k,I init,v] g (MX c az im x) fun w ys _=>w= .bool (x.lay im k init l).2∧∃c' az',ys=MX c' az' im (x.lay im k init l).1∧MV g c' az' im (x.lay im k init l).1∧c'.mi=c.mi∧((x.lay im k init l).2=false→az'=az)∧((x.lay im k init l).2=true→∃a,az'=a::az):=by
 intro G hg hD;have hac:=M.ac;have hla:=M.ac0;have hn64:=V.n;have hmt:=M.mth.mono RMth.mono (hg.trans (Yr hD));have hv':TSl 2 v (l.flatMap eV) l.length:=hv;have bad:∀{E:Env} {e:Int},x.lay im k init l=(x.ends e,false)→lk E 8=some (.bool false)→∀G',Ext G G'→Dis G' (MX c az im (x.ends e)).flatten→Yj6 prog ann 69 f69.results.toList (Abs.SQ G fun w ys _=>w= .bool (x.lay im k init l).2∧∃c' az',ys=MX c' az' im (x.lay im k init l).1∧MV g c' az' im (x.lay im k init l).1∧c'.mi=c.mi∧((x.lay im k init l).2=false→az'=az)∧((x.lay im k init l).2=true→∃a,az'=a::az)) .ret E [] (hset G' (MX c az im (x.ends e)).flatten):=by
  intro E e e1 e2 G' hx hD;rw[e1];exact hS0 (.tmp e2 .nil) rfl hD hx ⟨rfl,c,az,rfl,M.ends,rfl,fun _=>rfl,fun h=>by cases h⟩
 refine Yt rfl rfl func69 Zw rfl ?_;refine tM ?_;rw[hla];refine oI (64≤x.acts.length) (fun H1=>?_) (fun H1=>?_)
 ·refine tM ?_;refine Xf (g:=g) (xs:=MX c az im x) 0 hD hg rfl rfl rfl rfl v81 ?_;rintro _ _ G1 rfl hx1 hD;refine tM ?_;exact bad (Yqa (by omega)) rfl _ hx1 hD
 refine tM ?_;refine oI (k<0) (fun H2=>?_) (fun H2=>?_)
 ·refine tM ?_;refine Xf (g:=g) (xs:=MX c az im x) 0 hD hg rfl rfl rfl rfl v41 ?_;rintro _ _ G1 rfl hx1 hD;refine tM ?_;exact bad (Yjc (by omega) (fun hc=>absurd hc.1.1 (by omega))) rfl _ hx1 hD
 obtain⟨n,rfl⟩:=Int.eq_ofNat_of_zero_le (Int.not_lt.1 H2);refine tM ?_;apply Y0 rfl rfl hmt;refine tM ?_;refine oI ((im.methods.length:Int)≤n) (fun H3=>?_) (fun H3=>?_)
 ·refine tM ?_;refine Xf (g:=g) (xs:=MX c az im x) 0 hD hg rfl rfl rfl rfl v41 ?_;rintro _ _ G1 rfl hx1 hD;refine tM ?_;exact bad (Yjc (by omega) (fun hc=>absurd hc.1.2 (by omega))) rfl _ hx1 hD
 have hn:n<im.methods.length:=by omega
 have e0:mAt im n=im.methods[n]:=mAt_nat hn;refine tM ?_;apply Qg rfl rfl rfl hmt hn;intro p d hp hd _;generalize ey:im.methods[n]=y at hd e0;obtain⟨vc,vt,rfl,r1,r2⟩:=hd;refine tM ?_;apply Yjx [vc] rfl rfl hp rfl;intro p2 hp2;refine tM ?_;apply Y0 rfl rfl r1;refine tM ?_;refine oI ((y.code.length:Int)=0) (fun H4=>?_) (fun H4=>?_)
 ·refine tM ?_;refine Xf (g:=g) (xs:=MX c az im x) 0 hD hg rfl rfl rfl rfl v41 ?_;rintro _ _ G1 rfl hx1 hD;refine tM ?_;exact bad (Yjc (by omega) (fun hc=>absurd hc.2 (by rw[e0];omega))) rfl _ hx1 hD
 refine tM ?_;apply Qg rfl rfl rfl hmt hn;intro p d hp hd _;rw[ey]at hd;obtain⟨vc1,vt1,rfl,_,_⟩:=hd;refine tM ?_;apply Yjx [I y.args] rfl rfl hp rfl;intro p2 hp2;refine tM ?_;refine oI ((l.length:Int)≠y.args) (fun H5=>?_) (fun H5=>?_)
 ·refine tM ?_;refine Xf (g:=g) (xs:=MX c az im x) 0 hD hg rfl rfl rfl rfl v41 ?_;rintro _ _ G1 rfl hx1 hD;refine tM ?_;exact bad (Yjc (by omega) (fun _=>by rw[e0];exact H5)) rfl _ hx1 hD
 have hcn:Yhq im n:=⟨⟨by omega,by omega⟩,by rw[e0];omega⟩;obtain⟨w1,w2⟩:=hI.mth hcn;rw[e0]at w1 w2;have hhead:=w2.head (by omega);have hloc:=w2.locals;have hstk:=w2.stack;have el:=lay_ok (init:=init) (l:=l) H1 hcn (by rw[e0];omega);rw[e0]at el;rw[el];clear bad el;obtain⟨d,hd,_,hp⟩:=M.mth.at hn;rw[ey]at hd;obtain⟨vc,vt,rfl,r1,r2⟩:=hd;have hp3:=hp.mono (hg.trans (Yr hD));refine tM ?_;refine o_iaQ M.mth hn rfl rfl rfl ?_;refine tM ?_;refine Jd hD rfl fun b9 hD=>?_;refine tM ?_;refine Kb (c:=[I y.args,I y.locals,I y.stack,.bool y.gives,vc,vt]) 0 hD rfl rfl rfl rfl rfl rfl rfl (by simp only[all_cons,all_nil,r1.one,r2.one];rfl) fun hD=>?_;refine tM ?_;have r1g:=r1;have hb9:=Yk hD (Yi (k:=0) rfl (.head _));have hm:=Yk hD (Yi (k:=1) rfl (.head _));refine Ke [(c.mi,13,1,[c.vac]),(b9,1,1,[I y.locals]),(b9,2,1,[I y.stack]),(b9,0,6,[I y.args,I y.locals,I y.stack,.bool y.gives,vc,vt])] [.C,.C,.C,.C,.L,.C,.C,.L,.C,.L,.C,.W,.L,.C,.C,.W,.C,.W,.C,.C,.W] (Ybs hm rfl (Ybs hb9 rfl (Ybs hb9 rfl (Ybs hb9 rfl .nil)))) ?_;refine tD ?_;refine Yhm (g:=g) [] hD hg rfl rfl rfl (v88 (k:=n) (lc:=y.locals) (st:=y.stack) hloc hstk hv (by omega)) ?_;rintro _ _ G1 ⟨fi,vl,Ll,rfl,rfl,hsl⟩ hx1 hD;have hb9:=Yk hD (Yi (k:=2) rfl (.head _));have hm:=Yk hD (Yi (k:=3) rfl (.head _));refine⟨fun _=>Ybs hm rfl (Ybs hb9 rfl (Ybs hb9 rfl (Ybs hb9 rfl .nil))),Yd2 hm (Yd2 hb9 (Yd2 hb9 (Yd2 hb9 Ynm))),?_⟩;refine tD ?_;refine d_hboxC (v:= .agg [.ptr fi 0,I y.args,I y.locals,I y.stack,.bool y.gives,vc,vt,I init,I (-1)]) hD rfl rfl (by simp only[AV.cells,all_cons,all_nil,r1.one,r2.one];rfl) fun ai hD=>?_;have hb9:=Yk hD (Yi (k:=3) rfl (.head _));have hm:=Yk hD (Yi (k:=4) rfl (.head _));refine⟨fun _=>Ybs hm rfl (Ybs hb9 rfl (Ybs hb9 rfl (Ybs hb9 rfl .nil))),Yd2 hm (Yd2 hb9 (Yd2 hb9 (Yd2 hb9 Ynm))),?_⟩;refine tD ?_;refine d_appE (m:=[ai]) 11 encP hac hD rfl rfl rfl rfl rfl (by rw[hla];show(_+1)*9≤_;omega) fun vac' Lac' hac' hD=>?_;have hb9:=Yk hD (Yi (k:=3) rfl (.head _));have hm:=Yk hD (Yi (k:=4) rfl (.head _));refine⟨fun h=>absurd h (by decide),Yd2 hm (Yd2 hb9 (Yd2 hb9 (Yd2 hb9 Ynm))),?_⟩;refine tD ?_;refine Yjm 4 hD rfl rfl rfl rfl hac'.one (show 13<20 by decide) fun hD=>?_;have hb9:=Yk hD (Yi (k:=3) rfl (.head _));have hm:=Yk hD (Yi (k:=4) rfl (.head _));refine⟨fun h=>absurd h (by decide),Yd2 hm (Yd2 hb9 (Yd2 hb9 (Yd2 hb9 Ynm))),?_⟩;refine tD ?_;refine tM ?_;have hD:Dis G1 ([(ai,.cells [.ptr fi 0,I y.args,I y.locals,I y.stack,.bool y.gives,vc,vt,I init,I (-1)])]::[(fi,.cells [I n,I 0,I y.stack,vl,.nil .sl])]::Ll::[(b9,.cells [I y.args,I y.locals,I y.stack,.bool y.gives,vc,vt])]::(M8 {c with vac:=vac',Lac:=Lac'} im x++AX az x.acts)).flatten:=hD;obtain⟨e7,hD7⟩:=lay_perm hD;show Yj6 _ _ _ _ _ _ _ _ (hset G1 ([(ai,AObj.cells [.ptr fi 0,I y.args,I y.locals,I y.stack,.bool y.gives,vc,vt,I init,I (-1)])]::[(fi,.cells [I n,I 0,I y.stack,vl,.nil .sl])]::Ll::[(b9,.cells [I y.args,I y.locals,I y.stack,.bool y.gives,vc,vt])]::(M8 {c with vac:=vac',Lac:=Lac'} im x++AX az x.acts)).flatten);rw[e7];refine Yjg (bs:=[[(b9,.cells [I y.args,I y.locals,I y.stack,.bool y.gives,vc,vt])]]) (ys:=MX {c with vac:=vac',Lac:=Lac'} (⟨ai,fi,vc,vt,vl,.nil .sl,Ll,[]⟩::az) im {x with acts:=Fm.of n y.locals y.stack l y init::x.acts}) (.tmp rfl .nil) rfl hD7 (by intro i;simp) hx1 ⟨rfl,_,_,rfl,⟨M.img,M.inp,M.hw,M.hs,M.st,M.at',M.out,?_,.cons ⟨r1,r2,hsl,.inl ⟨rfl,rfl,rfl⟩⟩ M.fr⟩,rfl,fun h=>(by cases h),fun _=>⟨_,rfl⟩⟩;show SlE eP 1 vac' ((_::az).reverse.map Ac.i) Lac';rw[reverse_cons,map_append];exact hac'
end Go.Proofs
namespace Go.Vm
open List hiding cons
variable {f:Fm} {im:Image} {azs:List Ac} {fs:List Fm} {c:Mc} {x:Vm} {g:Ya}
theorem MV.topF{a a':Ac}{f':Fm}(M:MV g c (a::azs) im {x with acts:=f::fs})(h:a'.i=a.i)(hF:FrV g a' f'):MV g c (a'::azs) im {x with acts:=f'::fs}:=by
 have h2:=M.fr;cases h2 with
 |cons _ H=>exact⟨M.img,M.inp,M.hw,M.hs,M.st,M.at',M.out,ac_top M.ac h,.cons hF H⟩
theorem MV.fr0{a:Ac}(M:MV g c (a::azs) im {x with acts:=f::fs}):FrV g a f:=by
 have h2:=M.fr;cases h2 with
 |cons h _=>exact h
theorem FOk.len{u:Hp}(F:FOk im u f):f.stk.length≤16:=by
 have:=F.stk;have:=F.room;omega
end Go.Vm
set_option maxRecDepth 100000
namespace Go.Proofs
open List
open Go.Proofs.Tryz
variable {g:Ya} {c:Mc} {a:Ac} {azs:List Ac} {im:Image} {x:Vm} {f:Fm} {fs:List Fm}
theorem v197{n:Nat}{v:AV}{l:List Val}(hI:ImOk im)(M:MV g c (a::azs) im {x with acts:=f::fs})(V:VOk im {x with acts:=f::fs})(hn:n≤16)(hv:TV v l)(hl:l.length≤16):HM prog ann 197 [.ptr a.i 0,.ptr c.mi 0,I n,v] g (MX c (a::azs) im {x with acts:=f::fs}) fun _ ys _=>∃a',ys=MX c (a'::azs) im (({x with acts:=f::fs}:Vm).swap n l)∧MV g c (a'::azs) im (({x with acts:=f::fs}:Vm).swap n l)∧a'.i=a.i:=by
 intro G hg hD;have F:=V.fr f (.head _);have hF:=M.fr0;have hlen:=F.len;have hpc:=F.pc;have hcl:f.m.code.length≤100:=by
  have h1:=(hI.mth F.m.1).2.head F.m.1.2;rw[←F.m.2]at h1;exact h1.1
 refine Yt rfl rfl func197 Zw rfl ?_;refine tM ?_;refine Q4 (g:=g) [false,false,false,false,false,false,false,false,false,true,false,true] hD hg rfl rfl rfl rfl (v92 hF.stk hlen hn) ?_;rintro w ys G1 hR hx1 hD;by_cases h1:f.stk.length<n
 ·rw[if_pos h1]at hR;obtain⟨rfl,rfl⟩:=hR;have hD:Dis G1 (MX c (a::azs) im {x with acts:=f::fs}).flatten:=hD;have es:({x with acts:=f::fs}:Vm).swap n l=({x with acts:=f::fs}:Vm).ends 6:=if_pos h1;rw[es];refine tM ?_;refine Xf (g:=g) (xs:=MX c (a::azs) im {x with acts:=f::fs}) 0 hD (hg.trans hx1) rfl rfl rfl rfl (v41 (x:={x with acts:=f::fs})) ?_;rintro _ _ G2 rfl hx2 hD;refine tM ?_;exact hS0 (ys:=MX c (a::azs) im (({x with acts:=f::fs}:Vm).ends 6)) .nil rfl hD (hx1.trans hx2) ⟨a,rfl,M.ends,rfl⟩
 ·rw[if_neg h1]at hR;obtain⟨w',rfl,hw',vk',rfl,hk'⟩:=hR;have es:({x with acts:=f::fs}:Vm).swap n l=if(f.pop n).fits l.length=false then(({x with acts:=f::fs}:Vm).top (f.pop n)).ends 6 else({x with acts:=f::fs}:Vm).top {(f.pop n).push l with pc:=f.pc+1}:=if_neg h1
  rw[es];have hD:Dis G1 (MX c ({a with vk:=vk'}::azs) im {x with acts:=f.pop n::fs}).flatten:=hD;have hpl:(f.pop n).stk.length≤16:=by show(f.stk.take _).length≤16;rw[length_take];omega
  refine tM ?_;refine Q4 (g:=g) (xs:=MX c ({a with vk:=vk'}::azs) im {x with acts:=f.pop n::fs}) [false,false,false,false,false,false,false,false,false,true,false,true] hD (hg.trans hx1) rfl rfl rfl rfl (v90 (a:={a with vk:=vk'}) (f:=f.pop n) hk' hpl F.room hv hl) ?_;rintro _ _ G2 ⟨rfl,vk2,Lk2,rfl,hk2⟩ hx2 hD;cases hb:(f.pop n).fits (l.length:Nat) with
  |false=>
   rw[if_pos rfl];have hpu:(f.pop n).push l=f.pop n:=if_neg (by rw[hb];simp);rw[hpu]at hD hk2 ⊢;have hD:Dis G2 (MX c ({a with vk:=vk2,Lk:=Lk2}::azs) im {x with acts:=f.pop n::fs}).flatten:=hD;refine tM ?_;refine Xf (g:=g) (xs:=MX c ({a with vk:=vk2,Lk:=Lk2}::azs) im {x with acts:=f.pop n::fs}) 0 hD (hg.trans (hx1.trans hx2)) rfl rfl rfl rfl (v41 (x:={x with acts:=f.pop n::fs})) ?_;rintro _ _ G3 rfl hx3 hD;refine tM ?_;exact hS0 (ys:=MX c ({a with vk:=vk2,Lk:=Lk2}::azs) im (({x with acts:=f.pop n::fs}:Vm).ends 6)) .nil rfl hD (hx1.trans (hx2.trans hx3)) ⟨_,rfl,MV.ends (M.topF (a':={a with vk:=vk2,Lk:=Lk2}) (f':=f.pop n) rfl ⟨hF.code,hF.traps,hF.loc,hk2⟩),rfl⟩
  |true=>
   rw[if_neg (by simp)];have hpu:(f.pop n).push l={f.pop n with stk:=(f.pop n).stk++l}:=if_pos hb;rw[hpu]at hD hk2 ⊢;have hD:Dis G2 (MX c ({a with vk:=vk2,Lk:=Lk2}::azs) im {x with acts:={f.pop n with stk:=(f.pop n).stk++l}::fs}).flatten:=hD;have hA:=Yk hD (Yi (k:=8) rfl (.head _));have hFF:=Yk hD (Yi (k:=9) rfl (.head _));refine tM ?_;refine Ke [(a.i,0,1,[.ptr a.fi 0])] [.C,.C,.C,.L,.C,.C,.C,.L,.W,.C,.W] (Ybs hA rfl .nil) ?_;refine tD ?_;apply Ydz (v40 (a:={a with vk:=vk2,Lk:=Lk2}) (f:={f.pop n with stk:=(f.pop n).stk++l}) hFF);refine tD ?_;apply Yia (w:=I (f.pc+1)) rfl trivial (by show AV.int .i64 (IntKind.wrap .i64 (f.pc+1))=_;rw[w64 (by omega) (by omega)]);refine tD ?_;refine Yhm (g:=g) (xs:=MX c ({a with vk:=vk2,Lk:=Lk2}::azs) im {x with acts:={f.pop n with stk:=(f.pop n).stk++l}::fs}) [false,false,false,false,false,false,false,false,false,true] hD (hg.trans (hx1.trans hx2)) rfl rfl rfl (v199 (a:={a with vk:=vk2,Lk:=Lk2}) (f:={f.pop n with stk:=(f.pop n).stk++l})) ?_;rintro _ _ G3 rfl hx3 hD;have hA:=Yk hD (Yi (k:=8) rfl (.head _));refine⟨fun h=>absurd h (by decide),Yd2 hA Ynm,?_⟩;refine tD ?_;refine tM ?_;exact hSn (ys:=MX c ({a with vk:=vk2,Lk:=Lk2}::azs) im {x with acts:={f.pop n with stk:=(f.pop n).stk++l,pc:=f.pc+1}::fs}) rfl hD (hx1.trans (hx2.trans hx3)) ⟨_,rfl,M.topF rfl ⟨hF.code,hF.traps,hF.loc,hk2⟩,rfl⟩
end Go.Proofs
namespace Go.Vm
open List
variable {f:Fm}
open Go.Proofs
theorem Ypy{n:Nat}(h:n≤f.stk.length)(hr:(f.stk.length:Int)≤f.room):(f.pop n).push (f.top n)=f:=by
 have hl:(f.top n).length=n:=by unfold Fm.top;rw[length_drop];omega
 have hl2:(f.pop n).stk.length=f.stk.length-n:=by show(f.stk.take _).length=_;rw[length_take];omega
 have hf:(f.pop n).fits (f.top n).length=true:=by
  refine Zt ?_;rw[hl,hl2];show(n:Int)≤f.room-_;omega
 have:(f.pop n).push (f.top n)={f.pop n with stk:=(f.pop n).stk++f.top n}:=if_pos hf;rw[this];show({f with stk:=f.stk.take (f.stk.length-n)++f.stk.drop (f.stk.length-n)}:Fm)=f;rw[take_append_drop]
theorem Ypz(hr:(f.stk.length:Int)≤f.room):f.push []=f:=by
 have hf:f.fits (([]:List Val).length:Nat)=true:=Zt (by show((0:Nat):Int)≤_;omega);have:f.push []={f with stk:=f.stk++[]}:=if_pos hf;rw[this,append_nil]
def ShowV (v:AV):Option (List Val)→Prop
 |none=>∃w,v= .tup [w,.bool false]
 |some l=>∃w,v= .tup [w,.bool true]∧TV w l
end Go.Vm
set_option maxRecDepth 100000
namespace Go.Proofs
open List
open Go.Proofs.Tryz
variable {g:Ya} {c:Mc} {a:Ac} {azs:List Ac} {im:Image} {x:Vm} {f:Fm} {fs:List Fm}
theorem v200{n:Nat}(M:MV g c (a::azs) im {x with acts:=f::fs})(V:VOk im {x with acts:=f::fs})(hn:n≤16):HM prog ann 200 [.ptr c.mi 0,.ptr a.i 0,I n] g (MX c (a::azs) im {x with acts:=f::fs}) fun v ys _=>ShowV v (({x with acts:=f::fs}:Vm).any n).2∧∃a',ys=MX c (a'::azs) im (({x with acts:=f::fs}:Vm).any n).1∧MV g c (a'::azs) im (({x with acts:=f::fs}:Vm).any n).1∧a'.i=a.i:=by
 intro G hg hD;have F:=V.fr f (.head _);have hF:=M.fr0;have hlen:=F.len;have hst:=F.stk;refine Yt rfl rfl func200 Zw rfl ?_;refine tM ?_;refine Q4 (g:=g) [false,false,false,false,false,false,false,false,false,true,false,true] hD hg rfl rfl rfl rfl (v92 hF.stk hlen hn) ?_;rintro w ys G1 hR hx1 hD;by_cases h1:f.stk.length<n
 ·rw[if_pos h1]at hR;obtain⟨rfl,rfl⟩:=hR;have hD:Dis G1 (MX c (a::azs) im {x with acts:=f::fs}).flatten:=hD;have es:({x with acts:=f::fs}:Vm).any n=(({x with acts:=f::fs}:Vm).ends 6,none):=by
   unfold Vm.any Vm.topV;simp only[if_pos h1]
  rw[es];refine tM ?_;refine Q4 (g:=g) (xs:=MX c (a::azs) im {x with acts:=f::fs}) [false,false,false,false,false,false,false,false,false,true,false,true] hD (hg.trans hx1) rfl rfl rfl rfl (v90 (l:=[]) hF.stk hlen F.room .nil (Nat.zero_le _)) ?_;rintro _ _ G2 ⟨rfl,vk2,Lk2,rfl,hk2⟩ hx2 hD;rw[Ypz hst]at hD hk2 ⊢;have hD:Dis G2 (MX c ({a with vk:=vk2,Lk:=Lk2}::azs) im {x with acts:=f::fs}).flatten:=hD;refine tM ?_;refine Xf (g:=g) (xs:=MX c ({a with vk:=vk2,Lk:=Lk2}::azs) im {x with acts:=f::fs}) 0 hD (hg.trans (hx1.trans hx2)) rfl rfl rfl rfl (v41 (x:={x with acts:=f::fs})) ?_;rintro _ _ G3 rfl hx3 hD;refine tM ?_;exact hS0 (ys:=MX c ({a with vk:=vk2,Lk:=Lk2}::azs) im (({x with acts:=f::fs}:Vm).ends 6)) (.tmp rfl (.tmp rfl .nil)) rfl hD (hx1.trans (hx2.trans hx3)) ⟨⟨_,rfl⟩,_,rfl,MV.ends (M.topF (a':={a with vk:=vk2,Lk:=Lk2}) (f':=f) rfl ⟨hF.code,hF.traps,hF.loc,hk2⟩),rfl⟩
 ·rw[if_neg h1]at hR;obtain⟨w',rfl,hw',vk',rfl,hk'⟩:=hR;have hD:Dis G1 (MX c ({a with vk:=vk'}::azs) im {x with acts:=f.pop n::fs}).flatten:=hD;have es:({x with acts:=f::fs}:Vm).any n=({x with acts:=f::fs},some (f.top n)):=by
   unfold Vm.any Vm.topV;simp only[if_neg h1]
  rw[es];have hpl:(f.pop n).stk.length≤16:=by show(f.stk.take _).length≤16;rw[length_take];omega
  have htl:(f.top n).length≤16:=by unfold Fm.top;rw[length_drop];omega
  refine tM ?_;refine Q4 (g:=g) (xs:=MX c ({a with vk:=vk'}::azs) im {x with acts:=f.pop n::fs}) [false,false,false,false,false,false,false,false,false,true,false,true] hD (hg.trans hx1) rfl rfl rfl rfl (v90 (a:={a with vk:=vk'}) (f:=f.pop n) hk' hpl F.room hw' htl) ?_;rintro _ _ G2 ⟨rfl,vk2,Lk2,rfl,hk2⟩ hx2 hD;rw[Ypy (by omega) hst]at hD hk2 ⊢;have hD:Dis G2 (MX c ({a with vk:=vk2,Lk:=Lk2}::azs) im {x with acts:=f::fs}).flatten:=hD;refine tM ?_;exact hS0 (ys:=MX c ({a with vk:=vk2,Lk:=Lk2}::azs) im {x with acts:=f::fs}) (.tmp rfl (.tmp rfl .nil)) rfl hD (hx1.trans hx2) ⟨⟨_,rfl,hw'⟩,_,rfl,M.topF (a':={a with vk:=vk2,Lk:=Lk2}) (f':=f) rfl ⟨hF.code,hF.traps,hF.loc,hk2⟩,rfl⟩
end Go.Proofs
end
