import Derived.Test.YtibdecjfdpmfoaaGreatImParts
open Go Go.Abs Go.Proofs.SlimCode Go.Img
set_option maxRecDepth 100000
namespace Go.Proofs
open List
open Go.Proofs.Tryz
variable {v:AV} {bs:B} {x:Cls} {c:List AV} {l:List Cls} {a i:Nat} {g h:Ya}
theorem p39{w:Nat}(hc:RCls g c x)(hw:x.WF):Kd prog ann 54 [.ptr w 0,.agg c] w (Ykz x) g:=by
 intro bs h H hl;have hone:=hc.one;obtain⟨vr,vs,vt,vf,rfl,v1,v2',v3,v4⟩:=hc;have e0:Ykz x=Yao x.name++([x.super,x.init,x.array,x.elem].flatMap put++(Jy x.thrown++(Y4 Jy x.refs++(Y4 put x.subs++(Y4 put x.slots++Y4 Yfx x.faces))))):=by simp[Ykz]
 rw[e0]at hl ⊢;simp only[length_append]at hl;have hF4:∀n∈[x.super,x.init,x.array,x.elem],I64 n:=by
  intro n hn;simp only[mem_cons,not_mem_nil,or_false]at hn;rcases hn with rfl|rfl|rfl|rfl
  ·exact hw.super
  ·exact hw.init
  ·exact hw.array
  ·exact hw.elem
 refine Yz rfl func54 Zw rfl ?_;refine tS ?_;apply Yee rfl rfl rfl;intro b hbn;apply Yq rfl rfl hone
 with_reducible apply X8
 with_reducible apply X0
 with_reducible apply K5
 have H':=H.box (o:= .cells [.ptr w 0]) hbn;have hwb:w≠b:=fun e=>H.live (by rw[e,hbn]);have hgb:g b=none:=by
  cases hh:g b with
  |none=>rfl
  |some o=>rw[H.ext b o hh]at hbn;cases hbn
 have hx2:Ext g (upd g b (some (.cells [.ptr w 0]))):= .upd hgb;obtain⟨v,hv,O⟩:=H'.own;show Yb5 _ _ _ _ _ _ [b] (upd h b (some (.cells [.ptr w 0]))) _;generalize hg':upd g b (some (.cells [.ptr w 0]))=g' at *;generalize hh':upd h b (some (.cells [.ptr w 0]))=h' at *;have hb':h' b=some (.cells [.ptr w 0]):=by rw[←hh',upd_same]
 have gb':g' b=some (.cells [.ptr w 0]):=by rw[←hg',upd_same]
 apply Ybe [b,w] [.B,.B,.A,.A,.B,.A,.A,.A,.A,.A,.D] (by
  intro id hid;simp only[mem_cons,not_mem_nil,or_false]at hid;rcases hid with rfl|rfl
  ·rw[hb'];simp
  ·rw[hv];simp) rfl
 apply x_ld rfl rfl hb' (by simp) rfl;apply x_ld rfl rfl hb' (by simp) rfl;apply x_v rfl rfl trivial;apply x_v rfl rfl trivial;apply x_ld rfl rfl hv (by simp) rfl;apply x_v rfl rfl trivial;apply x_v rfl rfl trivial;have O1:OSl g 1 v (ubs bs) bs.length (Yv [b,w] h'):=by
  refine O.kill (hx2.trans (.upd H'.fresh)) ?_;intro id hid;simp only[mem_cons,not_mem_nil,or_false]at hid;rcases hid with rfl|rfl
  ·exact⟨by rw[Ys hwb.symm,gb'];simp,hgb⟩
  ·exact⟨by rw[upd_same];simp,H.fresh⟩
 refine x_A (R:=fun E' bx' h1=>∃v2,E'=(13,v2)::_∧bx'=[b]∧OSl g 1 v2 (ubs (bs++Yao x.name)) (bs++Yao x.name).length h1) (Yb rfl rfl rfl rfl (p95 (s:=x.name) O1 (by simp only[length_append];omega)) fun v2 h1 O2=>X8 ⟨rfl,v2,rfl,rfl,O2⟩) ?_;rintro _ _ h1 ⟨v2,rfl,rfl,O2⟩ hS1;apply x_v rfl rfl trivial;apply x_v rfl rfl trivial;have O3:OSl (upd g' w (some (.cells [v]))) 1 v2 (ubs (bs++Yao x.name)) (bs++Yao x.name).length (Jv [b,w] h' h1):=by
  refine O2.join O.ext hS1 fun id hid=>?_;simp only[mem_cons,not_mem_nil,or_false,not_or]at hid;rw[Ys hid.2,←hg',Ys hid.1]
 obtain⟨hw2,W2⟩:=Wr.put H'.fresh O3;refine x_D (R:=fun E' bx' h2=>E'=_∧bx'=[b]∧h2=upd (Jv [b,w] h' h1) w (some (.cells [v2]))) (K7 rfl rfl rfl rfl O3.view.one hw2 Nat.zero_lt_one (X8 ⟨rfl,rfl,rfl,rfl⟩)) ?_;rintro _ _ _ ⟨rfl,rfl,rfl⟩;refine⟨?_,?_⟩
 ·intro id hid;simp only[mem_cons,not_mem_nil,or_false]at hid;rcases hid with rfl|rfl
  ·rw[Ys hwb.symm];rw[O3.ext id _ (by rw[Ys hwb.symm];exact gb')];simp
  ·rw[upd_same];simp
 apply Yba;generalize upd (Jv [b,w] h' h1) w (some (.cells [v2]))=hh3 at W2 ⊢;refine tV ?_;refine tw ?_;refine tV ?_;refine Xv (fun k:Nat=>[(2,.ptr b 0),(3,.tptr [.str x.name,I x.super,I x.init,vr,vs,vt,vf,I x.array,I x.elem,.bool x.thrown] 0),(24,.agg ([x.super,x.init,x.array,x.elem].map I)),(25,.int .i64 (k:Int))]) (fun k h=>k≤4∧Wr g' w (bs++Yao x.name++([x.super,x.init,x.array,x.elem].take k).flatMap put) h) (fun k=>4-k) 0
  tU ⟨Nat.zero_le _,by simpa using W2⟩ ?_
 rintro k h2 ⟨hk,H2⟩;refine tV ?_
 (refine tG ?_;refine oB fun b hb=>?_;cases b)
 case true=>
  have hk4:k<[x.super,x.init,x.array,x.elem].length:=by simp at hb;show k<4;omega
  refine tV ?_;apply Y1 (w:=I ([x.super,x.init,x.array,x.elem][k])) rfl rfl ⟨by omega,(show(k:Int)<4 by have:k<4:=hk4;omega),by simpa using hk4⟩ (Yik hk4);refine tV ?_;apply Y2 rfl rfl (H2.ext b _ gb') (fun h=>by omega) rfl;refine tV ?_;apply Yb rfl rfl rfl rfl (p42 (n:=[x.super,x.init,x.array,x.elem][k]) (hF4 _ (getElem_mem hk4)) _ h2 H2 (by have:=Yl0 put hk4;simp only[length_append]at this ⊢;omega));rintro _ h3 ⟨rfl,H3⟩;refine tW ?_;rw[w64 (n:=(k:Int)+1) (by omega) (by omega)];refine⟨k+1,(show 4-(k+1)<4-k by have:k<4:=hk4;omega),tU,rfl,hk4,?_⟩;rw[X2 put hk4,←append_assoc];exact H3
 have hk4:k=4:=by simp at hb;omega
 subst hk4;have H3:Wr g' w (bs++Yao x.name++[x.super,x.init,x.array,x.elem].flatMap put) h2:=H2;refine tV ?_;apply Y2 rfl rfl (H3.ext b _ gb') (fun h=>by omega) rfl;refine tV ?_;apply Yb rfl rfl rfl rfl (p47 (b:=x.thrown) _ h2 H3 (by simp only[length_append];omega));rintro _ h4 ⟨rfl,H4⟩;refine tV ?_;apply Y2 rfl rfl (H4.ext b _ gb') (fun h=>by omega) rfl;refine tV ?_;apply Y2 rfl rfl (H4.ext b _ gb') (fun h=>by omega) rfl;refine tV ?_;apply Yb rfl rfl rfl rfl (p46 (e:=Jy) (v1.mono RB.mono hx2) hw.refs (fun a _ g' _=>p47) _ h4 H4 (by simp only[length_append];omega));rintro _ h5 ⟨rfl,H5⟩;refine tV ?_;apply Y2 rfl rfl (H5.ext b _ gb') (fun h=>by omega) rfl;refine tV ?_;apply Y2 rfl rfl (H5.ext b _ gb') (fun h=>by omega) rfl;refine tV ?_;apply Yb rfl rfl rfl rfl (p43 (e:=put) (v2'.mono RN.mono hx2) hw.subs.1 (fun a ha g' _=>p42 (hw.subs.2 a ha)) _ h5 H5 (by simp only[length_append];omega));rintro _ h6 ⟨rfl,H6⟩;refine tV ?_;apply Y2 rfl rfl (H6.ext b _ gb') (fun h=>by omega) rfl;refine tV ?_;apply Y2 rfl rfl (H6.ext b _ gb') (fun h=>by omega) rfl;refine tV ?_;apply Yb rfl rfl rfl rfl (p43 (e:=put) (v3.mono RN.mono hx2) hw.slots.1 (fun a ha g' _=>p42 (hw.slots.2 a ha)) _ h6 H6 (by simp only[length_append];omega));rintro _ h7 ⟨rfl,H7⟩;refine tV ?_;apply Y2 rfl rfl (H7.ext b _ gb') (fun h=>by omega) rfl;refine tV ?_;apply Yb rfl rfl rfl rfl (p96 (e:=Yfx) (v4.mono RPair.mono hx2) hw.faces.1 (fun a ha g'' c hx hc=>p97 hc (hw.faces.2 a ha).1 (hw.faces.2 a ha).2 (hx b _ gb')) _ h7 H7 (by simp only[length_append];omega));rintro _ h8 ⟨rfl,H8⟩;simp only[append_assoc]at H8;have hbx:∀i∈[b],g' i≠none∧g i=none:=by
  intro i hi;simp only[mem_cons,not_mem_nil,or_false]at hi;subst hi;exact⟨by rw[gb'];simp,hgb⟩
 refine tW ?_
 (first|apply X7|apply Xx)
 ·exact(rfl:Yb8 _ []=some [])
 ·exact rfl
 ·exact⟨rfl,H8.kill hx2 hbx⟩
 ·exact fun _=> .inr ⟨w,H.changed (H8.base hx2) (by intro h;unfold Yao at h;simp only[append_assoc]at h;exact Jw _ (append_eq_nil_iff.1 h).1)⟩
theorem cvb(m:Nat):AV.int .u8 (IntKind.wrap .u8 (m:Int))=ub (UInt8.ofNat m):=by
 simp[IntKind.wrap,IntKind.bits,IntKind.signed,ub]
theorem bvn(a:Nat):BitVec.ofInt 32 (a:Int)=BitVec.ofNat 32 a:=BitVec.ofInt_natCast ..
theorem wrap32(h:a<4294967296):IntKind.wrap .u32 (a:Int)=(a:Int):=wu32 (by omega) (by omega)
theorem xor32{b:Nat}(ha:a<4294967296)(hb:b<4294967296):AV.int .u32 (IntKind.wrap .u32 ((BitVec.ofInt (IntKind.bits .u32) (a:Int) ^^^ BitVec.ofInt (IntKind.bits .u32) (b:Int)).toNat))= .int .u32 ((a ^^^ b:Nat):Int):=by
 show AV.int .u32 (IntKind.wrap .u32 ((BitVec.ofInt 32 (a:Int) ^^^ BitVec.ofInt 32 (b:Int)).toNat))=_;rw[bvn,bvn,BitVec.toNat_xor,BitVec.toNat_ofNat,BitVec.toNat_ofNat,Nat.mod_eq_of_lt ha,Nat.mod_eq_of_lt hb,wrap32 (Nat.xor_lt_two_pow (n:=32) ha hb)]
theorem and32{b:Nat}(ha:a<4294967296)(hb:b<4294967296):AV.int .u32 (IntKind.wrap .u32 ((BitVec.ofInt (IntKind.bits .u32) (a:Int) &&& BitVec.ofInt (IntKind.bits .u32) (b:Int)).toNat))= .int .u32 ((a &&& b:Nat):Int):=by
 show AV.int .u32 (IntKind.wrap .u32 ((BitVec.ofInt 32 (a:Int) &&& BitVec.ofInt 32 (b:Int)).toNat))=_;rw[bvn,bvn,BitVec.toNat_and,BitVec.toNat_ofNat,BitVec.toNat_ofNat,Nat.mod_eq_of_lt ha,Nat.mod_eq_of_lt hb,wrap32 (Nat.lt_of_le_of_lt Nat.and_le_left ha)]
theorem neg32(x:Nat):AV.int .u32 (IntKind.wrap .u32 (0-((x%2:Nat):Int)))= .int .u32 ((if x%2=1 then 4294967295 else 0:Nat):Int):=by
 rcases Nat.mod_two_eq_zero_or_one x with h|h
 ·rw[h];rfl
 ·rw[h];rfl
theorem poly32(x:Nat):(3988292384 &&& (if x%2=1 then 4294967295 else 0):Nat)=if x%2=1 then poly else 0:=by
 split<;>rfl
theorem p48{n:Nat}(_hn:n<4294967296):HCallC prog ann 63 [.int .u32 (n:Int)] h fun v h'=>OSl h 1 v (ubs (Ynx n)) (Ynx n).length h':=by
 refine Yz rfl func63 Zw rfl ?_;refine tV ?_
 (refine tG ?_;(with_reducible apply Ykl (a:=n) (b:=24));exact rfl;exact rfl;exact rfl;(decide))
 apply Y1 (w:=ub (UInt8.ofNat (n/2^24))) rfl rfl trivial (cvb _);refine tV ?_
 (refine tG ?_;(with_reducible apply Ykl (a:=n) (b:=16));exact rfl;exact rfl;exact rfl;(decide))
 apply Y1 (w:=ub (UInt8.ofNat (n/2^16))) rfl rfl trivial (cvb _);refine tV ?_
 (refine tG ?_;(with_reducible apply Ykl (a:=n) (b:=8));exact rfl;exact rfl;exact rfl;(decide))
 apply Y1 (w:=ub (UInt8.ofNat (n/2^8))) rfl rfl trivial (cvb _);refine tV ?_;apply Y1 (w:=ub (UInt8.ofNat n)) rfl rfl trivial (cvb _);apply Ync rfl rfl rfl;intro i hi;have H:OSl h 1 (.sl i 0 4 1) (ubs (Ynx n)) (Ynx n).length (upd h i (some (.cells (ubs (Ynx n))))):=⟨.upd hi,.inr ⟨i,rfl,hi,upd_same,rfl⟩⟩;refine tW ?_
 (first|apply X7|apply Xx)
 ·exact rfl
 ·exact rfl
 ·rw[Yl];exact H
 ·exact fun h=>by cases h
theorem p103(hv:VSl h 1 v (ubs bs) bs.length)(hl:bs.length≤9223372036854775807):Looks prog ann 125 [.int .u32 0,v] h (.int .u32 (crc bs:Int)):=by
 refine Yo rfl func125 Zw rfl ?_;refine tV ?_;apply Y1 (w:= .int .u32 ((4294967295:Nat):Int)) rfl rfl trivial rfl;refine tV ?_;apply Yec rfl rfl hv;refine tV ?_;refine Xv (fun i:Nat=>[(5,.int .u32 (RS 4294967295 (bs.take i):Int)),(10,v),(11,.int .i64 bs.length),(12,.int .i64 (i:Int))]) (fun i h'=>h'=h∧i≤bs.length) (fun i=>bs.length-i) 0
  tU ⟨rfl,Nat.zero_le _⟩ ?_
 rintro i h' ⟨rfl,hi⟩;refine tW ?_
 (refine tG ?_;refine oB fun b hb=>?_;cases b)
 case false=>
  have hil:i=bs.length:=by simp at hb;omega
  subst hil;rw[Zk (Zl _)];refine tV ?_;apply Y1 (w:= .int .u32 (crc bs:Int)) rfl rfl trivial (by
   have:=xor32 (a:=4294967295) (b:=RS 4294967295 bs) (by decide) (RS_lt (by decide));refine Eq.trans this ?_;rw[Nat.xor_comm];rfl)
  refine tW ?_
  (first|apply Y3|apply lret_norm)
  ·exact rfl
  ·exact rfl
  ·exact rfl
  ·exact .refl
  ·simp
 have hil:i<bs.length:=by simpa using hb
 refine tV ?_;apply o_iaV rfl rfl rfl hv (by omega) (by omega);intro p hp;have hc:((ubs bs).drop ((i:Int).toNat*1)).take 1=[ub bs[i]]:=by
  rw[Zn,Nat.mul_one];unfold ubs;rw[drop_eq_getElem_cons (by simpa using hil)];simp
 rw[hc]at hp;apply Ydb rfl rfl hp (fun h=>by omega);refine tV ?_;have hb8:(bs[i].toNat:Int)<256:=by have:=bs[i].toNat_lt;omega
 (refine tG ?_;(with_reducible apply o_cvN (a:=bs[i].toNat));exact rfl;exact rfl;exact wu32 (by omega) (by omega))
 have hr:RS 4294967295 (bs.take i)<4294967296:=RS_lt (by decide);apply Y1 (w:= .int .u32 ((RS 4294967295 (bs.take i) ^^^ bs[i].toNat:Nat):Int)) rfl rfl trivial (xor32 hr (by omega));refine tV ?_;refine Xv (fun j:Nat=>[(5,.int .u32 (TI j (RS 4294967295 (bs.take i) ^^^ bs[i].toNat):Int)),(10,v),(11,.int .i64 bs.length),(12,.int .i64 (i:Int)),(20,.int .i64 (j:Int))]) (fun j h2=>h2=h'∧j≤8) (fun j=>8-j) 0
  tU ⟨rfl,by omega⟩ ?_
 rintro j h2 ⟨rfl,hj⟩;have hx:TI j (RS 4294967295 (bs.take i) ^^^ bs[i].toNat)<4294967296:=TI_lt (Nat.xor_lt_two_pow (n:=32) hr (by omega));have hnext:TI (j+1) (RS 4294967295 (bs.take i) ^^^ bs[i].toNat)=TN (TI j (RS 4294967295 (bs.take i) ^^^ bs[i].toNat)):=by rw[TI_add];rfl
 refine tW ?_
 (refine tG ?_;refine oB fun b hb=>?_;cases b)
 case false=>
  have hj8:j=8:=by simp at hb;omega
  subst hj8;refine tW ?_;rw[w64 (n:=(i:Int)+1) (by omega) (by omega)];refine⟨i+1,by simp only;omega,Ka ?_ tU,rfl,rfl,hil⟩;have:RS 4294967295 (bs.take (i+1))=TI 8 (RS 4294967295 (bs.take i) ^^^ bs[i].toNat):=by
   rw[take_add_one,Zg hil,Option.toList_some,RS_append];rfl
  rw[this];rfl
 generalize TI j (RS 4294967295 (bs.take i) ^^^ bs[i].toNat)=x at hx hnext ⊢;refine tV ?_
 (refine tG ?_;(with_reducible apply Ykl (a:=x) (b:=1));exact rfl;exact rfl;exact rfl;(decide))
 refine tV ?_;apply Y1 (w:= .int .u32 ((x%2:Nat):Int)) rfl rfl trivial (by
  refine(and32 hx (b:=1) (by decide)).trans ?_;rw[Nat.and_one_is_mod])
 apply Y1 rfl rfl trivial (neg32 x);apply Y1 (w:= .int .u32 ((if x%2=1 then poly else 0:Nat):Int)) rfl rfl trivial (by
  refine(and32 (a:=3988292384) (by decide) (by split<;>decide)).trans ?_;rw[poly32])
 apply Y1 (w:= .int .u32 (TN x:Int)) rfl rfl trivial (xor32 (by omega) (by split<;>decide));refine tW ?_;rw[w64 (n:=(j:Int)+1) (by omega) (by omega)];refine⟨j+1,by simp only;simp at hb;omega,Ka ?_ tU,rfl,rfl,by simp at hb;omega⟩;rw[hnext];rfl
theorem p49(hv:VSl h 1 v (ubs bs) bs.length)(hl:bs.length≤9223372036854775807):Looks prog ann 64 [v] h (.int .u32 (crc bs:Int)):=by
 refine Yo rfl func64 Zw rfl ?_;refine tV ?_;apply Yb rfl rfl rfl rfl (p103 hv hl).go;rintro _ h1 ⟨rfl,hx⟩;refine tW ?_
 (first|apply Y3|apply lret_norm)
 ·exact rfl
 ·exact rfl
 ·exact rfl
 ·exact hx
 ·simp
def turnL (a b c d:UInt8):Nat→List AV
 |0=>[ub a,ub b,ub c,ub d]
 |1=>[ub d,ub b,ub c,ub a]
 |_=>[ub d,ub c,ub b,ub a]
theorem Yic{o:AObj}(hi:h i=some o):upd h i (some o)=h:=by
 funext j;unfold upd;split
 ·rename_i e;rw[e,hi]
 ·rfl
theorem p50{a b c d:UInt8}(hi:h i=some (.cells [ub a,ub b,ub c,ub d])):HCallC prog ann 65 [.sl i 0 4 1] h fun v h'=>v= .tup []∧h'=upd h i (some (.cells [ub d,ub c,ub b,ub a])):=by
 refine Yz rfl func65 Zw rfl ?_;refine tV ?_;refine tw ?_;refine tV ?_;refine Xv (fun k:Nat=>[(0,.sl i 0 4 1),(2,.int .i64 (k:Int)),(3,.int .i64 ((3-k:Nat):Int))]) (fun k h'=>k≤2∧h'=upd h i (some (.cells (turnL a b c d k)))) (fun k=>3-k) 0
  tU ⟨by omega,(Yic hi).symm⟩ ?_
 rintro k h' ⟨hk,rfl⟩;obtain rfl|rfl|rfl:k=0∨k=1∨k=2:=by omega
 ·refine tW ?_;apply Yq rfl rfl ⟨rfl,by decide,by decide⟩;apply Y2 rfl rfl upd_same (fun _=>by rw[upd_same];simp) rfl;refine tV ?_;apply Yq rfl rfl ⟨rfl,by decide,by decide⟩;apply Y2 rfl rfl upd_same (fun _=>by rw[upd_same];simp) rfl;apply Yq rfl rfl ⟨rfl,by decide,by decide⟩;apply K7 rfl rfl rfl rfl rfl upd_same (show(0:Nat)<4 by decide);apply Yq rfl rfl ⟨rfl,by decide,by decide⟩;apply K7 rfl rfl rfl rfl rfl upd_same (show(3:Nat)<4 by decide);refine tW ?_;rw[Xm,Xm];exact⟨1,by decide,tU,rfl,by decide,rfl⟩
 ·refine tW ?_;apply Yq rfl rfl ⟨rfl,by decide,by decide⟩;apply Y2 rfl rfl upd_same (fun _=>by rw[upd_same];simp) rfl;refine tV ?_;apply Yq rfl rfl ⟨rfl,by decide,by decide⟩;apply Y2 rfl rfl upd_same (fun _=>by rw[upd_same];simp) rfl;apply Yq rfl rfl ⟨rfl,by decide,by decide⟩;apply K7 rfl rfl rfl rfl rfl upd_same (show(1:Nat)<4 by decide);apply Yq rfl rfl ⟨rfl,by decide,by decide⟩;apply K7 rfl rfl rfl rfl rfl upd_same (show(2:Nat)<4 by decide);refine tW ?_;rw[Xm,Xm];exact⟨2,by decide,tU,rfl,by decide,rfl⟩
 ·refine tW ?_
  (first|apply X7|apply Xx)
  ·exact(rfl:Yb8 _ []=some [])
  ·exact rfl
  ·rw[Yl];exact⟨rfl,rfl⟩
  ·intro _;by_cases e:AObj.cells (turnL a b c d 2)= .cells [ub a,ub b,ub c,ub d]
   ·left;refine⟨rfl,?_⟩;show h=upd h i (some (.cells (turnL a b c d 2)));rw[e,Yic hi]
   ·right;refine⟨i,by rw[hi];simp,?_⟩;rw[upd_same,hi];intro e';exact e (Option.some.inj e')
theorem p37(hc:RCls g c x)(hn:x.name.length≤1048576):Looks prog ann 52 [.agg c] h (.bool false):=by
 have hone:=hc.one;obtain⟨vr,vs,vt,vf,rfl,v1,v2,v3,v4⟩:=hc;refine Yo rfl func52 Zw rfl ?_;refine tS ?_;apply Yq rfl rfl hone;refine tV ?_
 (refine tG ?_;refine oB fun b hb=>?_)
 have:b=false:=by rw[hb];simp;omega
 subst this;refine tW ?_
 (first|apply Y3|apply lret_norm)
 ·exact rfl
 ·exact rfl
 ·exact rfl
 ·exact .refl
 ·simp
theorem p94(hv:Sl RCls 10 h v l)(hl:l.length≤9223372036854775807)(hn:∀x∈l,x.name.length≤1048576):Looks prog ann 116 [v,.fn 52 [] []] h (.int .i64 (-1)):=by
 refine Yo rfl func116 Zw rfl ?_;refine tV ?_;apply Yai rfl rfl .refl hv;refine tV ?_;refine Xv (fun i:Nat=>[(0,v),(1,.fn 52 [] []),(7,.int .i64 l.length),(8,.int .i64 (i:Int))]) (fun i h'=>Ext h h'∧i≤l.length) (fun i=>l.length-i) 0
  tU ⟨.refl,Nat.zero_le _⟩ ?_
 rintro i h' ⟨hx,hi⟩;refine tW ?_
 (refine tG ?_;refine oB fun b hb=>?_;cases b)
 case false=>
  refine tW ?_
  (first|apply Y3|apply lret_norm)
  ·exact rfl
  ·exact rfl
  ·exact rfl
  ·exact hx
  ·simp
 have hil:i<l.length:=by simpa using hb
 refine tV ?_;apply Yjw rfl rfl rfl hx hv hil;intro p c hpc hc hcl;apply Ycm rfl rfl hpc hcl (fun h=>by omega);apply Yb rfl rfl rfl rfl (p37 hc (hn _ (getElem_mem hil))).go;rintro _ h3 ⟨rfl,hx3⟩;refine tW ?_;rw[w64 (n:=(i:Int)+1) (by omega) (by omega)];exact⟨i+1,by simp only;omega,tU,rfl,hx.trans hx3,hil⟩
theorem p36(hv:Sl RCls 10 h v l)(hl:l.length≤9223372036854775807)(hn:∀x∈l,x.name.length≤1048576):Looks prog ann 51 [v,.fn 52 [] []] h (.bool false):=by
 refine Yo rfl func51 Zw rfl ?_;refine tV ?_;apply Yb rfl rfl rfl rfl (p94 hv hl hn).go;rintro _ h3 ⟨rfl,hx3⟩;refine tW ?_
 (first|apply Y3|apply lret_norm)
 ·exact rfl
 ·exact rfl
 ·exact rfl
 ·exact hx3
 ·simp
theorem Yoo{s n:Nat}{cs:List AV}(H:OSl g s v cs n h)(h0:0<n):∃i,v= .sl i 0 n s∧g i=none∧h i=some (.cells cs)∧cs.length=n*s:=by
 rcases H.own with ⟨_,_,rfl⟩|h1
 ·omega
 ·exact h1
theorem p16{m:Image}(hc:RImg h c m)(hw:m.WF)(hs:(Img.body m).length≤1099511627776) :
  HCallC prog ann 27 [.agg c] h fun v h'=>(size m≤1048576∧OSl h 1 v (ubs (Qy m)) (Qy m).length h')∨(1048576<size m∧v= .nil .sl∧Ext h h'):=by
 have hone:=hc.one;obtain⟨vc,vm,vg,vw,vr,vs,vf,rfl,v1,v2',v3,v4,v5,v6,v7⟩:=hc;unfold Img.body at hs;simp only[length_append]at hs;refine Yz rfl func27 Zw rfl ?_;refine tS ?_;apply Yq rfl rfl hone;refine tV ?_;apply Yb rfl rfl rfl rfl (p36 v1 hw.classes.1 (fun x hx=>(hw.classes.2 x hx).name)).go;rintro _ g ⟨rfl,hx⟩;refine tV ?_;refine tw ?_;apply Yee rfl rfl rfl;intro w hwn;have H0:Wr g w [] (upd g w (some (.cells [.nil .sl]))):=Wr.start hwn;show Yu _ _ _ _ _ _ _ _ [] (upd g w (some (.cells [.nil .sl]))) _;generalize upd g w (some (.cells [.nil .sl]))=h0 at H0 ⊢;refine tV ?_;apply Yb rfl rfl rfl rfl (p38 (e:=Ykz) (v1.mono RCls.mono hx) hw.classes.1 (fun a ha g' c _ hc=>p39 hc (hw.classes.2 a ha)) _ h0 H0 (by simp only[length_append,length_nil];omega));rintro _ h1 ⟨rfl,H1⟩;refine tV ?_;apply Yb rfl rfl rfl rfl (p40 (e:=Yqm) (v2'.mono RMth.mono hx) hw.methods.1 (fun a ha g' c _ hc=>p41 hc (hw.methods.2 a ha)) _ h1 H1 (by simp only[length_append,length_nil];omega));rintro _ h2 ⟨rfl,H2⟩;refine tV ?_;apply Yb rfl rfl rfl rfl (p42 hw.entry _ h2 H2 (by simp only[length_append,length_nil];omega));rintro _ h3 ⟨rfl,H3⟩;refine tV ?_;apply Yb rfl rfl rfl rfl (p42 hw.need _ h3 H3 (by simp only[length_append,length_nil];omega));rintro _ h4 ⟨rfl,H4⟩;refine tV ?_;apply Yb rfl rfl rfl rfl (p43 (e:=put) (v3.mono RN.mono hx) hw.given.1 (fun a ha g' _=>p42 (hw.given.2 a ha)) _ h4 H4 (by simp only[length_append,length_nil];omega));rintro _ h5 ⟨rfl,H5⟩;refine tV ?_;apply Yb rfl rfl rfl rfl (p44 (e:=put) (v4.mono RN.mono hx) hw.words.1 (fun a ha g' _=>p45 (hw.words.2 a ha)) _ h5 H5 (by simp only[length_append,length_nil];omega));rintro _ h6 ⟨rfl,H6⟩;refine tV ?_;apply Yb rfl rfl rfl rfl (p43 (e:=put) (v5.mono RN.mono hx) hw.rel.1 (fun a ha g' _=>p42 (hw.rel.2 a ha)) _ h6 H6 (by simp only[length_append,length_nil];omega));rintro _ h7 ⟨rfl,H7⟩;refine tV ?_;apply Yb rfl rfl rfl rfl (p44 (e:=put) (v6.mono RN.mono hx) hw.stat.1 (fun a ha g' _=>p45 (hw.stat.2 a ha)) _ h7 H7 (by simp only[length_append,length_nil];omega));rintro _ h8 ⟨rfl,H8⟩;refine tV ?_;apply Yb rfl rfl rfl rfl (p46 (e:=Jy) (v7.mono RB.mono hx) hw.statref (fun a _ g' _=>p47) _ h8 H8 (by simp only[length_append,length_nil];omega));rintro _ h9 ⟨rfl,H9⟩;have eb:[]++Y4 Ykz m.classes++Y4 Yqm m.methods++put m.entry++put m.need++Y4 put m.given++Y4 put m.words++Y4 put m.rel++Y4 put m.stat++Y4 Jy m.statref=Img.body m:=by
  unfold Img.body;simp only[append_assoc,nil_append]
 rw[eb]at H9;clear H0 H1 H2 H3 H4 H5 H6 H7 H8 eb;have hs':(Img.body m).length≤1099511627776:=by
  unfold Img.body;simp only[length_append];exact hs
 obtain⟨v,hv,O⟩:=H9.own;refine tV ?_;apply Y2 rfl rfl hv (fun h=>by omega) rfl;apply Yec rfl rfl O.view
 (refine tG ?_;(with_reducible apply Yko (a:=8) (b:=(Img.body m).length));exact rfl;exact rfl;exact rfl;exact w64 (by omega) (by omega))
 (refine tG ?_;(with_reducible apply Yko (a:=8+(Img.body m).length) (b:=4));exact rfl;exact rfl;exact rfl;exact w64 (by omega) (by omega))
 refine tV ?_
 (refine tG ?_;refine oB fun b hb=>?_;cases b)
 case true=>
  have hsz:1048576<size m:=by unfold size;simp at hb;omega
  refine tW ?_
  (first|apply X7|apply Xx)
  ·exact rfl
  ·exact rfl
  ·rw[Yl];exact .inr ⟨hsz,rfl,hx.trans H9.ext⟩
  ·exact fun _=> .inl (.inr ⟨hsz,rfl,.refl⟩)
 have hsz:size m≤1048576:=by unfold size;simp at hb;omega
 have hlb:(Img.body m).length≤1048576:=by unfold size at hsz;omega
 with_reducible apply X8
 with_reducible apply X0
 (with_reducible apply Yb6)
 exact rfl
 with_reducible apply Yci
 with_reducible apply X0
 with_reducible apply K5
 have hS0:∀id∈[w],h9 id≠none:=by
  intro id hid;simp only[mem_cons,not_mem_nil,or_false]at hid;subst hid;rw[hv];simp
 apply Ybe [w] [.A,.A,.A,.C,.C,.A,.A,.A,.A,.B,.D,.A] hS0 rfl;refine x_A (R:=fun E' bx' k1=>∃i,E'=(71,.sl i 0 4 1)::_∧bx'=[]∧Yv [w] h9 i=none∧k1=upd (Yv [w] h9) i (some (.cells (ubs Img.head)))) (Ync rfl rfl rfl (fun i hi=>X8 ⟨rfl,i,rfl,rfl,hi,rfl⟩)) ?_;rintro _ _ _ ⟨i,rfl,rfl,hi,rfl⟩ hS1;have hiw:i∉[w]:=by
  intro hc;have:=hS1 i hc;rw[upd_same]at this;cases this
 rw[Ygk hiw];have hi9:h9 i=none:=(Ky hiw).symm.trans hi;have hi1:upd h9 i (some (.cells (ubs Img.head))) i=some (.cells (ubs Img.head)):=upd_same;have hx1:Ext h9 (upd h9 i (some (.cells (ubs Img.head)))):= .upd hi9;generalize upd h9 i (some (.cells (ubs Img.head)))=k1 at hi1 hx1 ⊢;refine x_A (R:=fun E' bx' k2=>E'=(72,.sl i 0 4 1)::_∧bx'=[]∧k2=Yv [w] k1) (o_cvs rfl rfl (by decide) (by rw[Ky hiw];exact hi1) (fun h=>by omega) rfl (X8 ⟨rfl,rfl,rfl,rfl⟩)) ?_;rintro _ _ _ ⟨rfl,rfl,rfl⟩ _;rw[Ya8];apply x_v rfl rfl trivial;apply x_vC (v:= .int .u32 ((8+(Img.body m).length+4:Nat):Int)) rfl rfl (by
  show some (True,AV.int .u32 (IntKind.wrap .u32 ((8+(Img.body m).length+4:Nat):Int)))=_;rw[wrap32 (by omega)]) trivial
 apply x_callC rfl rfl rfl (p48 (n:=8+(Img.body m).length+4) (by omega));intro v4 k4 O4 hn4;obtain⟨j,rfl,_,hj,_⟩:=Yoo O4 (Nat.zero_lt_succ 3);have hxp:Ext k1 (plus k1 k4):=Yll;have hjp:plus k1 k4 j=some (.cells (ubs (Ynx (8+(Img.body m).length+4)))):=by
  unfold plus;rw[hn4 j (by rw[hj];simp)];exact hj
 have hjw:j∉[w]:=by
  intro hc;simp only[mem_cons,not_mem_nil,or_false]at hc;subst hc;have:=hn4 j (by rw[hj];simp);rw[hx1 j _ hv]at this;cases this
 generalize plus k1 k4=hp at hxp hjp ⊢;have O5:OSl (Yv [w] h9) 1 (.sl i 0 4 1) (ubs Img.head) 4 (Yv [w] hp):=by
  refine⟨(hx1.trans hxp).killed,.inr ⟨i,rfl,hi,?_,rfl⟩⟩;rw[Ky hiw];exact hxp i _ hi1
 refine x_A (R:=fun E' bx' k5=>∃v5,E'=(76,v5)::_∧bx'=[]∧OSl (Yv [w] h9) 1 v5 (ubs Img.head++ubs (Ynx (8+(Img.body m).length+4))) 8 k5)
  (Yfm (new:=ubs (Ynx (8+(Img.body m).length+4))) (n:=4) rfl rfl rfl rfl O5 (by simp only[Yaf,if_true,Ky hjw,hjp];rfl) rfl rfl (by decide) fun v5 k5 O _=>X8 ⟨rfl,v5,rfl,rfl,O⟩) ?_
 rintro _ _ k5 ⟨v5,rfl,rfl,O6⟩ hS5;have O7:OSl h9 1 v5 (ubs Img.head++ubs (Ynx (8+(Img.body m).length+4))) 8 (Jv [w] hp k5):=O6.join (hx1.trans hxp) hS5 fun id hid=>(Ky hid).symm;generalize Jv [w] hp k5=hq at O7 ⊢;apply x_v rfl rfl trivial;apply x_v rfl rfl trivial;apply x_v rfl rfl trivial;apply x_ld rfl rfl (O7.ext w _ hv) (by simp) rfl;refine x_D (R:=fun E' bx' k6=>∃v6,E'=(81,v6)::_∧bx'=[]∧OSl h9 1 v6 (ubs Img.head++ubs (Ynx (8+(Img.body m).length+4))++ubs (Img.body m)) (8+(Img.body m).length) k6)
  (Yfm (new:=ubs (Img.body m)) (n:=(Img.body m).length) rfl rfl rfl rfl O7 (Yiv (O.view.mono O7.ext)) (by simp[ubs]) (by simp[ubs,AV.one]) (by omega) fun v6 k6 O _=>X8 ⟨rfl,v6,rfl,rfl,O⟩) ?_
 rintro _ _ k6 ⟨v6,rfl,rfl,O8⟩;refine⟨fun id hid=>?_,?_⟩
 ·simp only[mem_cons,not_mem_nil,or_false]at hid;subst hid;rw[O8.ext id _ hv];simp
 apply x_v rfl rfl trivial;apply Yba;have O9:OSl h9 1 v6 (ubs (Yfi m)) (Yfi m).length k6:=by
  have e1:ubs (Yfi m)=ubs Img.head++ubs (Ynx (8+(Img.body m).length+4))++ubs (Img.body m):=by
   unfold Yfi;rw[Yey,Yey,append_assoc]
  rw[e1,Yen];exact O8
 have hfl:(Yfi m).length≤1048584:=by rw[Yen];omega
 clear O8 O7 O6 O5;refine tV ?_;apply Yb rfl rfl rfl rfl (p49 O9.view (by omega)).go;rintro _ ks ⟨rfl,hxs⟩;apply Yb rfl rfl rfl rfl (p48 (crc_lt (Yfi m)));intro v7 kt O10;obtain⟨j2,rfl,hj2s,hj2,_⟩:=Yoo O10 (Nat.zero_lt_succ 3);refine tV ?_;apply Yb rfl rfl rfl rfl (p50 hj2);rintro _ _ ⟨rfl,rfl⟩;have O11:OSl h 1 v6 (ubs (Yfi m)) (Yfi m).length (upd kt j2 (some (.cells (ubs (Ynx (crc (Yfi m))).reverse)))):=by
  have hg9:Ext h h9:=hx.trans H9.ext;have hns:∀id,ks id≠none→id≠j2:=fun id hid e=>hid (by rw[e];exact hj2s);have O12:=(O9.up hxs).weaken hg9;refine⟨fun id o e=>?_,?_⟩
  ·have e2:=O12.ext id o e;rw[Ys (hns id (by rw[e2];simp))];exact O10.ext id o e2
  ·rcases O12.own with h0|⟨i,e,g1,g2,g3⟩
   ·exact .inl h0
   ·refine .inr ⟨i,e,g1,?_,g3⟩;rw[Ys (hns i (by rw[g2];simp))];exact O10.ext i _ g2
 refine tV ?_;apply Yfm (new:=ubs (Ynx (crc (Yfi m))).reverse) (n:=4) rfl rfl rfl rfl O11 (by simp only[Yaf,if_true,upd_same];rfl) rfl rfl (by omega);intro v8 k8 O13 _;have O14:OSl h 1 v8 (ubs (Qy m)) (Qy m).length k8:=by
  have e1:Qy m=Yfi m++(Ynx (crc (Yfi m))).reverse:=rfl;rw[e1,Yey,length_append];exact O13
 refine tW ?_
 (first|apply X7|apply Xx)
 ·exact rfl
 ·exact rfl
 ·rw[Yl];exact .inl ⟨hsz,O14⟩
 ·intro ht;have:=notree O14 (by rw[Ya9];unfold size;omega);rw[show Yx [v8]=v8 from rfl,this]at ht;cases ht
end Go.Proofs
namespace Go.Img
open List
structure Cls.Wide (c:Cls):Prop where
 name:c.name.length≤9223372036854775807
 super:I64 c.super
 init:I64 c.init
 array:I64 c.array
 elem:I64 c.elem
 refs:Len c.refs
 subs:Len c.subs∧∀n∈c.subs,I64 n
 slots:Len c.slots∧∀n∈c.slots,I64 n
 faces:Len c.faces∧∀p∈c.faces,I64 p.1∧I64 p.2
structure Image.Wide (m:Image):Prop where
 classes:Len m.classes∧∀c∈m.classes,c.Wide
 methods:Len m.methods∧∀c∈m.methods,c.WF
 entry:I64 m.entry
 need:I64 m.need
 given:Len m.given∧∀n∈m.given,I64 n
 words:Len m.words∧∀n∈m.words,I32 n
 rel:Len m.rel∧∀n∈m.rel,I64 n
 stat:Len m.stat∧∀n∈m.stat,I32 n
 statref:Len m.statref
end Go.Img
namespace Go.Proofs
open List hiding cons nil
variable {α:Type} {l:List α}
theorem sl_cells{R:Ya→List AV→α→Prop}{s:Nat}{h:Ya}{v:AV}(H:Sl R s h v l)(h1:∀c a,R h c a→c.all AV.one=true):∃cs,VSl h s v cs l.length∧Chunks (R h) s cs l∧cs.all AV.one=true:=by
 obtain⟨cs,a,b⟩:=H;refine⟨cs,a,b,?_⟩;clear a
 induction b with
 |nil=>rfl
 |cons hl ha H ih=>rw[all_append,h1 _ _ ha,ih];rfl
structure Cls.Small (c:Cls):Prop where
 name:c.name.length≤12
 refs:c.refs.length≤11
 subs:c.subs.length≤21
 slots:c.slots.length≤11
 faces:c.faces.length≤7
structure Mth.Small (m:Mth):Prop where
 code:m.code.length≤31
 traps:m.traps.length≤4
structure Image.Small (m:Image):Prop where
 classes:m.classes.length≤20∧∀c∈m.classes,Cls.Small c
 methods:m.methods.length≤12∧∀c∈m.methods,Mth.Small c
 given:m.given.length≤12
 words:m.words.length≤201
 rel:m.rel.length≤60
 stat:m.stat.length≤20
 statref:m.statref.length≤21
theorem Km{e:α→B}{k n:Nat}(h:∀a∈l,(e a).length≤k)(hl:l.length≤n)(hn:n≤1000):(Y4 e l).length≤10+n*k:=by
 unfold Y4;rw[length_append];have h1:=X1 (n:=l.length) (by unfold I64;omega);have h2:(l.flatMap e).length≤l.length*k:=by
  clear hl h1
  induction l with
  |nil=>simp
  |cons a l ih=>
   rw[flatMap_cons,length_append,length_cons,Nat.add_mul];have:=h a (by simp);have:=ih (fun b hb=>h b (by simp[hb]));omega
 have h3:l.length*k≤n*k:=Zr k hl;omega
theorem Ygt(t:Bool):(Jy t).length≤10:=X1 (by unfold I64;split<;>omega)
theorem Yqn{p:Kr}(h:F64 p):(Ybu p).length≤40:=by
 unfold Ybu;simp only[length_append];have:=X1 h.1;have:=X1 h.2.1;have:=X1 h.2.2.1;have:=X1 h.2.2.2;omega
theorem eCls_le{c:Cls}(hw:c.WF)(hs:Cls.Small c):(Ykz c).length≤700:=by
 unfold Ykz Yao;simp only[length_append];have:=hs.name;have:=X1 (n:=c.name.length) (by unfold I64;omega);have:=X1 hw.super;have:=X1 hw.init;have:=X1 hw.array;have:=X1 hw.elem;have:=Ygt c.thrown;have:=Km (e:=Jy) (k:=10) (fun a _=>Ygt a) hs.refs (by decide);have:=Km (e:=put) (k:=10) (fun a ha=>X1 (hw.subs.2 a ha)) hs.subs (by decide);have:=Km (e:=put) (k:=10) (fun a ha=>X1 (hw.slots.2 a ha)) hs.slots (by decide);have:=Km (e:=Yfx) (k:=20) (fun a ha=>by
  unfold Yfx;rw[length_append];have:=X1 (hw.faces.2 a ha).1;have:=X1 (hw.faces.2 a ha).2;omega) hs.faces (by decide)
 omega
theorem eMth_le{m:Mth}(hw:m.WF)(hs:Mth.Small m):(Yqm m).length≤1500:=by
 unfold Yqm;simp only[length_append];have:=X1 hw.args;have:=X1 hw.locals;have:=X1 hw.stack;have:=Ygt m.gives;have:=Km (e:=Ybu) (k:=40) (fun a ha=>Yqn (hw.code.2 a ha)) hs.code (by decide);have:=Km (e:=Ybu) (k:=40) (fun a ha=>Yqn (hw.traps.2 a ha)) hs.traps (by decide);omega
theorem Ynr{n:Int}(h:I32 n):I64 n:=by unfold I32 at h;unfold I64;omega
theorem Yd8{m:Image}(hw:m.WF)(hs:Image.Small m):(Img.body m).length≤50000:=by
 unfold Img.body;simp only[length_append];have:=Km (e:=Ykz) (k:=700) (fun a ha=>eCls_le (hw.classes.2 a ha) (hs.classes.2 a ha)) hs.classes.1 (by decide);have:=Km (e:=Yqm) (k:=1500) (fun a ha=>eMth_le (hw.methods.2 a ha) (hs.methods.2 a ha)) hs.methods.1 (by decide);have:=X1 hw.entry;have:=X1 hw.need;have:=Km (e:=put) (k:=10) (fun a ha=>X1 (hw.given.2 a ha)) hs.given (by decide);have:=Km (e:=put) (k:=10) (fun a ha=>X1 (Ynr (hw.words.2 a ha))) hs.words (by decide);have:=Km (e:=put) (k:=10) (fun a ha=>X1 (hw.rel.2 a ha)) hs.rel (by decide);have:=Km (e:=put) (k:=10) (fun a ha=>X1 (Ynr (hw.stat.2 a ha))) hs.stat (by decide);have:=Km (e:=Jy) (k:=10) (fun a _=>Ygt a) hs.statref (by decide);omega
end Go.Proofs
