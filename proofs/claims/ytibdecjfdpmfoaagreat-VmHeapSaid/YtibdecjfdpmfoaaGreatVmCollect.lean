import Derived.Test.YtibdecjfdpmfoaaGreatVmCopy2
section
open Go Go.Abs Go.Proofs.SlimCode Go.Img Go.Vm
namespace Go.Vm
open List
variable {b:Int}
theorem Yk8(x:BitVec 32):IntKind.wrap .i32 (x.toNat:Int)=x.toInt:=by
 have:=x.isLt;rw[Proofs.wrap_w32,BitVec.toInt_eq_toNat_cond];unfold Img.w32;split<;>omega
theorem and31:IntKind.wrap .i32 (((BitVec.ofInt 32 b &&& BitVec.ofInt 32 31).toNat:Nat):Int)=b%32:=by
 have e1:(BitVec.ofInt 32 b &&& BitVec.ofInt 32 31).toNat=(b%32).toNat:=by
  rw[BitVec.toNat_and,show(BitVec.ofInt 32 31).toNat=2^5-1 from rfl,Nat.and_two_pow_sub_one_eq_mod,BitVec.toNat_ofInt];omega
 rw[e1,Proofs.wrap_w32];unfold Img.w32;omega
theorem wrap_u32{a:Int}:IntKind.wrap .u32 a=a%4294967296:=by simp[IntKind.wrap,IntKind.bits,IntKind.signed]
theorem min32:min (b%32).toNat 32=(b%32).toNat:=by omega
end Go.Vm
set_option maxRecDepth 100000
namespace Go.Proofs
open List
open Go.Proofs.Tryz
variable {h:Ya} {op a b:Int}
def dv (op a b:Int):Option Int:=if b=0 then none else if op=11 then some (Img.w32 (a.tdiv b)) else some (a.tmod b)
def oV (o:Option Int):AV:= .tup [.int .i32 (o.getD 0),.bool o.isSome]
theorem p164(_hb:I32 b)(_ha:I32 a):Jj prog ann 164 [I op,.int .i32 a,.int .i32 b] h (oV (dv op a b)):=by
 unfold I32 at _ha _hb;refine Yz rfl func164 Zw rfl ?_;refine tM ?_;refine oI (b=0) (fun h0=>?_) (fun h0=>?_)<;>refine tM ?_
 ·exact kx rfl rfl (by unfold dv;rw[if_pos h0];rfl)
 refine oI (op=11) (fun h1=>?_) (fun h1=>?_)<;>refine tM ?_
 ·refine oI (b= -1) (fun h2=>?_) (fun h2=>?_)<;>refine tM ?_
  ·apply Y1 (w:= .int .i32 (Img.w32 (a.tdiv b))) rfl rfl trivial (by rw[wrap_w32,h2,Int.tdiv_neg,Int.tdiv_one,Int.zero_sub]);refine tM ?_;exact kx rfl rfl (by unfold dv;rw[if_neg h0,if_pos h1];rfl)
  refine oI (op=11) (fun _=>?_) (fun h=>absurd h1 h)<;>refine tM ?_
  apply Y1 (w:= .int .i32 (Img.w32 (a.tdiv b))) rfl rfl h0 (by rw[wrap_w32]);refine tM ?_;exact kx rfl rfl (by unfold dv;rw[if_neg h0,if_pos h1];rfl)
 refine oI (op=11) (fun h=>absurd h h1) (fun _=>?_)<;>refine tM ?_
 refine oI (b= -1) (fun h2=>?_) (fun h2=>?_)<;>refine tM ?_
 ·exact kx rfl rfl (by unfold dv;rw[if_neg h0,if_neg h1,h2,Int.tmod_neg,Int.tmod_one];rfl)
 apply Y1 (w:= .int .i32 (a.tmod b)) rfl rfl h0 rfl;refine tM ?_;exact kx rfl rfl (by unfold dv;rw[if_neg h0,if_neg h1];rfl)
theorem n85(ha:I32 a)(hb:I32 b):Jj prog ann 85 [I op,.int .i32 a,.int .i32 b] h (oV (two op a b)):=by
 refine Yz rfl func85 Zw rfl ?_;refine tM ?_;refine oI (op=8) (fun n8=>?_) (fun n8=>?_)<;>refine tM ?_
 ·apply Y1 (w:= .int .i32 (Img.w32 (a+b))) rfl rfl trivial (by rw[wrap_w32]);refine tM ?_;exact kx rfl rfl (by unfold two;rw[if_pos n8];rfl)
 refine oI (op=9) (fun n9=>?_) (fun n9=>?_)<;>refine tM ?_
 ·apply Y1 (w:= .int .i32 (Img.w32 (a-b))) rfl rfl trivial (by rw[wrap_w32]);refine tM ?_;exact kx rfl rfl (by unfold two;rw[if_neg n8,if_pos n9];rfl)
 refine oI (op=10) (fun n10=>?_) (fun n10=>?_)<;>refine tM ?_
 ·apply Y1 (w:= .int .i32 (Img.w32 (a*b))) rfl rfl trivial (by rw[wrap_w32]);refine tM ?_;exact kx rfl rfl (by unfold two;rw[if_neg n8,if_neg n9,if_pos n10];rfl)
 refine oI (op=11) (fun n11=>?_) (fun n11=>?_)<;>refine tM ?_
 ·apply Xh (p164 hb ha);refine tM ?_;exact kx rfl rfl (by unfold two;rw[if_neg n8,if_neg n9,if_neg n10,if_pos n11];unfold dv;rw[if_pos n11];rfl)
 refine oI (op=12) (fun n12=>?_) (fun n12=>?_)<;>refine tM ?_
 ·apply Xh (p164 hb ha);refine tM ?_;exact kx rfl rfl (by unfold two;rw[if_neg n8,if_neg n9,if_neg n10,if_neg n11,if_pos n12];unfold dv;rw[if_neg n11];rfl)
 refine oI (op=14) (fun n14=>?_) (fun n14=>?_)<;>refine tM ?_
 ·apply Y1 (w:= .int .i32 ((bv a &&& bv b).toInt)) rfl rfl trivial (by exact congrArg _ (Yk8 _));refine tM ?_;exact kx rfl rfl (by unfold two;rw[if_neg n8,if_neg n9,if_neg n10,if_neg n11,if_neg n12,if_pos n14];rfl)
 refine oI (op=15) (fun n15=>?_) (fun n15=>?_)<;>refine tM ?_
 ·apply Y1 (w:= .int .i32 ((bv a ||| bv b).toInt)) rfl rfl trivial (by exact congrArg _ (Yk8 _));refine tM ?_;exact kx rfl rfl (by unfold two;rw[if_neg n8,if_neg n9,if_neg n10,if_neg n11,if_neg n12,if_neg n14,if_pos n15];rfl)
 refine oI (op=16) (fun n16=>?_) (fun n16=>?_)<;>refine tM ?_
 ·apply Y1 (w:= .int .i32 ((bv a ^^^ bv b).toInt)) rfl rfl trivial (by exact congrArg _ (Yk8 _));refine tM ?_;exact kx rfl rfl (by unfold two;rw[if_neg n8,if_neg n9,if_neg n10,if_neg n11,if_neg n12,if_neg n14,if_neg n15,if_pos n16];rfl)
 refine oI (op=17) (fun n17=>?_) (fun n17=>?_)<;>refine tM ?_
 ·apply Y1 (w:= .int .i32 (b%32)) rfl rfl trivial (by rw[←and31];rfl);refine tM ?_;apply Y1 (w:= .int .i32 (Img.w32 (a*2^(b%32).toNat))) rfl rfl (show 0≤b%32 by omega) (by rw[wrap_w32];show AV.int .i32 (Img.w32 (a*2^(min (b%32).toNat 32)))=_;rw[min32]);refine tM ?_;exact kx rfl rfl (by unfold two;rw[if_neg n8,if_neg n9,if_neg n10,if_neg n11,if_neg n12,if_neg n14,if_neg n15,if_neg n16,if_pos n17];rfl)
 refine oI (op=18) (fun n18=>?_) (fun n18=>?_)<;>refine tM ?_
 ·apply Y1 (w:= .int .i32 (b%32)) rfl rfl trivial (by rw[←and31];rfl);refine tM ?_;apply Y1 (w:= .int .i32 (a.fdiv (2^(b%32).toNat))) rfl rfl (show 0≤b%32 by omega) (by show AV.int .i32 (a.fdiv (2^(min (b%32).toNat 32)))=_;rw[min32]);refine tM ?_;exact kx rfl rfl (by unfold two;rw[if_neg n8,if_neg n9,if_neg n10,if_neg n11,if_neg n12,if_neg n14,if_neg n15,if_neg n16,if_neg n17,if_pos n18];rfl)
 refine oI (op=19) (fun n19=>?_) (fun n19=>?_)<;>refine tM ?_
 ·apply Y1 (w:= .int .u32 (a%4294967296)) rfl rfl trivial (by rw[wrap_u32]);refine tM ?_;apply Y1 (w:= .int .i32 (b%32)) rfl rfl trivial (by rw[←and31];rfl);refine tM ?_;apply Y1 (w:= .int .u32 ((a%4294967296).fdiv (2^(b%32).toNat))) rfl rfl (show 0≤b%32 by omega) (by show AV.int .u32 ((a%4294967296).fdiv (2^(min (b%32).toNat 32)))=_;rw[min32]);refine tM ?_;apply Y1 (w:= .int .i32 (Img.w32 ((a%4294967296).fdiv (2^(b%32).toNat)))) rfl rfl trivial (by rw[wrap_w32]);refine tM ?_;exact kx rfl rfl (by unfold two;rw[if_neg n8,if_neg n9,if_neg n10,if_neg n11,if_neg n12,if_neg n14,if_neg n15,if_neg n16,if_neg n17,if_neg n18,if_pos n19];rfl)
 exact kx rfl rfl (by unfold two;rw[if_neg n8,if_neg n9,if_neg n10,if_neg n11,if_neg n12,if_neg n14,if_neg n15,if_neg n16,if_neg n17,if_neg n18,if_neg n19];rfl)
theorem n86:Jj prog ann 86 [I op,.int .i32 a] h (.int .i32 (if op=13 then Img.w32 (-a) else 0)):=by
 refine Yz rfl func86 Zw rfl ?_;refine tM ?_;refine oI (op≠13) (fun h1=>?_) (fun h1=>?_)<;>refine tM ?_
 ·exact kx rfl rfl (by rw[if_neg h1];rfl)
 apply Y1 (w:= .int .i32 (Img.w32 (-a))) rfl rfl trivial (by rw[wrap_w32,Int.zero_sub]);refine tM ?_;exact kx rfl rfl (by rw[if_pos (by omega)];rfl)
def Yar (o a b:Int):Bool:=if o=27 then decide (a=b) else if o=28 then !decide (a=b) else if o=29 then decide (a<b) else if o=30 then decide (b≤a) else if o=31 then decide (b<a) else if o=32 then decide (a≤b) else false
theorem Yoz(h:21≤op∧op≤26):goes op a b=Yar (op+6) a 0:=by unfold goes Yar;simp only[if_pos h]
theorem Ygn(h:¬(21≤op∧op≤26)):goes op a b=Yar op a b:=by unfold goes Yar;simp only[if_neg h]
theorem n87(hop : -1000≤op∧op≤1000):Jj prog ann 87 [I op,.int .i32 a,.int .i32 b] h (.bool (goes op a b)):=by
 refine Yz rfl func87 Zw rfl ?_;refine tM ?_;refine oI (21≤op) (fun h1=>?_) (fun h1=>?_)<;>refine tM ?_
 ·refine oI (op≤26) (fun h2=>?_) (fun h2=>?_)<;>refine tM ?_
  ·apply Y1 (w:=I (op-21)) rfl rfl trivial (by rw[w64 (by omega) (by omega)]);refine tM ?_;apply Y1 (w:=I (op+6)) rfl rfl trivial (by rw[w64 (by omega) (by omega)];congr 1;omega);refine tM ?_;refine oI (op+6=27) (fun n27=>?_) (fun n27=>?_)<;>refine tM ?_
   ·apply Y1 (w:= .bool (decide (a=0))) rfl rfl trivial rfl;refine tM ?_;exact kx rfl rfl (by rw[Yoz ⟨h1,h2⟩];unfold Yar;rw[if_pos n27];rfl)
   refine oI (op+6=28) (fun n28=>?_) (fun n28=>?_)<;>refine tM ?_
   ·apply Y1 (w:= .bool (!decide (a=0))) rfl rfl trivial rfl;refine tM ?_;exact kx rfl rfl (by rw[Yoz ⟨h1,h2⟩];unfold Yar;rw[if_neg n27,if_pos n28];rfl)
   refine oI (op+6=29) (fun n29=>?_) (fun n29=>?_)<;>refine tM ?_
   ·apply Y1 (w:= .bool (decide (a<0))) rfl rfl trivial rfl;refine tM ?_;exact kx rfl rfl (by rw[Yoz ⟨h1,h2⟩];unfold Yar;rw[if_neg n27,if_neg n28,if_pos n29];rfl)
   refine oI (op+6=30) (fun n30=>?_) (fun n30=>?_)<;>refine tM ?_
   ·apply Y1 (w:= .bool (decide (0≤a))) rfl rfl trivial rfl;refine tM ?_;exact kx rfl rfl (by rw[Yoz ⟨h1,h2⟩];unfold Yar;rw[if_neg n27,if_neg n28,if_neg n29,if_pos n30];rfl)
   refine oI (op+6=31) (fun n31=>?_) (fun n31=>?_)<;>refine tM ?_
   ·apply Y1 (w:= .bool (decide (0<a))) rfl rfl trivial rfl;refine tM ?_;exact kx rfl rfl (by rw[Yoz ⟨h1,h2⟩];unfold Yar;rw[if_neg n27,if_neg n28,if_neg n29,if_neg n30,if_pos n31];rfl)
   refine oI (op+6=32) (fun n32=>?_) (fun n32=>?_)<;>refine tM ?_
   ·apply Y1 (w:= .bool (decide (a≤0))) rfl rfl trivial rfl;refine tM ?_;exact kx rfl rfl (by rw[Yoz ⟨h1,h2⟩];unfold Yar;rw[if_neg n27,if_neg n28,if_neg n29,if_neg n30,if_neg n31,if_pos n32];rfl)
   exact kx rfl rfl (by rw[Yoz ⟨h1,h2⟩];unfold Yar;rw[if_neg n27,if_neg n28,if_neg n29,if_neg n30,if_neg n31,if_neg n32];rfl)
  refine oI (op=27) (fun n27=>?_) (fun n27=>?_)<;>refine tM ?_
  ·apply Y1 (w:= .bool (decide (a=b))) rfl rfl trivial rfl;refine tM ?_;exact kx rfl rfl (by rw[Ygn (fun h=>h2 h.2)];unfold Yar;rw[if_pos n27];rfl)
  refine oI (op=28) (fun n28=>?_) (fun n28=>?_)<;>refine tM ?_
  ·apply Y1 (w:= .bool (!decide (a=b))) rfl rfl trivial rfl;refine tM ?_;exact kx rfl rfl (by rw[Ygn (fun h=>h2 h.2)];unfold Yar;rw[if_neg n27,if_pos n28];rfl)
  refine oI (op=29) (fun n29=>?_) (fun n29=>?_)<;>refine tM ?_
  ·apply Y1 (w:= .bool (decide (a<b))) rfl rfl trivial rfl;refine tM ?_;exact kx rfl rfl (by rw[Ygn (fun h=>h2 h.2)];unfold Yar;rw[if_neg n27,if_neg n28,if_pos n29];rfl)
  refine oI (op=30) (fun n30=>?_) (fun n30=>?_)<;>refine tM ?_
  ·apply Y1 (w:= .bool (decide (b≤a))) rfl rfl trivial rfl;refine tM ?_;exact kx rfl rfl (by rw[Ygn (fun h=>h2 h.2)];unfold Yar;rw[if_neg n27,if_neg n28,if_neg n29,if_pos n30];rfl)
  refine oI (op=31) (fun n31=>?_) (fun n31=>?_)<;>refine tM ?_
  ·apply Y1 (w:= .bool (decide (b<a))) rfl rfl trivial rfl;refine tM ?_;exact kx rfl rfl (by rw[Ygn (fun h=>h2 h.2)];unfold Yar;rw[if_neg n27,if_neg n28,if_neg n29,if_neg n30,if_pos n31];rfl)
  refine oI (op=32) (fun n32=>?_) (fun n32=>?_)<;>refine tM ?_
  ·apply Y1 (w:= .bool (decide (a≤b))) rfl rfl trivial rfl;refine tM ?_;exact kx rfl rfl (by rw[Ygn (fun h=>h2 h.2)];unfold Yar;rw[if_neg n27,if_neg n28,if_neg n29,if_neg n30,if_neg n31,if_pos n32];rfl)
  exact kx rfl rfl (by rw[Ygn (fun h=>h2 h.2)];unfold Yar;rw[if_neg n27,if_neg n28,if_neg n29,if_neg n30,if_neg n31,if_neg n32];rfl)
 refine oI (op=27) (fun n27=>?_) (fun n27=>?_)<;>refine tM ?_
 ·apply Y1 (w:= .bool (decide (a=b))) rfl rfl trivial rfl;refine tM ?_;exact kx rfl rfl (by rw[Ygn (fun h=>h1 h.1)];unfold Yar;rw[if_pos n27];rfl)
 refine oI (op=28) (fun n28=>?_) (fun n28=>?_)<;>refine tM ?_
 ·apply Y1 (w:= .bool (!decide (a=b))) rfl rfl trivial rfl;refine tM ?_;exact kx rfl rfl (by rw[Ygn (fun h=>h1 h.1)];unfold Yar;rw[if_neg n27,if_pos n28];rfl)
 refine oI (op=29) (fun n29=>?_) (fun n29=>?_)<;>refine tM ?_
 ·apply Y1 (w:= .bool (decide (a<b))) rfl rfl trivial rfl;refine tM ?_;exact kx rfl rfl (by rw[Ygn (fun h=>h1 h.1)];unfold Yar;rw[if_neg n27,if_neg n28,if_pos n29];rfl)
 refine oI (op=30) (fun n30=>?_) (fun n30=>?_)<;>refine tM ?_
 ·apply Y1 (w:= .bool (decide (b≤a))) rfl rfl trivial rfl;refine tM ?_;exact kx rfl rfl (by rw[Ygn (fun h=>h1 h.1)];unfold Yar;rw[if_neg n27,if_neg n28,if_neg n29,if_pos n30];rfl)
 refine oI (op=31) (fun n31=>?_) (fun n31=>?_)<;>refine tM ?_
 ·apply Y1 (w:= .bool (decide (b<a))) rfl rfl trivial rfl;refine tM ?_;exact kx rfl rfl (by rw[Ygn (fun h=>h1 h.1)];unfold Yar;rw[if_neg n27,if_neg n28,if_neg n29,if_neg n30,if_pos n31];rfl)
 refine oI (op=32) (fun n32=>?_) (fun n32=>?_)<;>refine tM ?_
 ·apply Y1 (w:= .bool (decide (a≤b))) rfl rfl trivial rfl;refine tM ?_;exact kx rfl rfl (by rw[Ygn (fun h=>h1 h.1)];unfold Yar;rw[if_neg n27,if_neg n28,if_neg n29,if_neg n30,if_neg n31,if_pos n32];rfl)
 exact kx rfl rfl (by rw[Ygn (fun h=>h1 h.1)];unfold Yar;rw[if_neg n27,if_neg n28,if_neg n29,if_neg n30,if_neg n31,if_neg n32];rfl)
end Go.Proofs
namespace Go.Vm
open List
variable {g:Ya} {c:Mc} {az:List Ac} {im:Image} {x:Vm}
theorem MV.cls(M:MV g c az im x):Sl RCls 10 g c.ic im.classes:=by
 obtain⟨vc,vm,vg,vw,vr,vs,vf,e,v1,v2,v3,v4,v5,v6,v7⟩:=M.img;simp only[Mc.img,List.cons.injEq]at e;rw[e.1];exact v1
theorem MV.mth(M:MV g c az im x):Sl RMth 6 g c.iM im.methods:=by
 obtain⟨vc,vm,vg,vw,vr,vs,vf,e,v1,v2,v3,v4,v5,v6,v7⟩:=M.img;simp only[Mc.img,List.cons.injEq]at e;rw[e.2.1];exact v2
theorem Frs.len{g:Ya}:∀{az:List Ac} {fs:List Fm},Frs g az fs→az.length=fs.length
 |_,_,.nil=>rfl
 |_,_,.cons _ H=>by rw[length_cons,length_cons,H.len]
end Go.Vm
set_option maxRecDepth 100000
namespace Go.Proofs
open List
open Go.Proofs.Tryz
variable {v:AV} {a:Ac}
variable {g h0':Ya} {c:Mc} {az:List Ac} {im:Image} {x:Vm}
theorem v81{e:Int}:HM prog ann 81 [.ptr c.mi 0,I e] g (MX c az im x) fun _ ys _=>ys=MX c az im (x.ends e):=by
 intro G hg hD;refine Yt rfl rfl func81 Zw rfl ?_;refine tM ?_;refine Qs 0 hD rfl rfl rfl rfl rfl rfl (show 17<20 by decide) fun hD=>?_;refine tM ?_;exact hSn rfl hD .refl rfl
theorem v41:HM prog ann 41 [.ptr c.mi 0] g (MX c az im x) fun _ ys _=>ys=MX c az im (x.ends 6):=by
 intro G hg hD;refine Yt rfl rfl func41 Zw rfl ?_;refine tM ?_;refine Xf 0 hD hg rfl rfl rfl rfl v81 ?_;rintro _ _ G' rfl hx hD;refine tM ?_;exact hSn rfl hD hx rfl
theorem last_ac{az:List Ac}{L:OL}(H:SlE eP 1 v ((a::az).reverse.map Ac.i) L):∃i js,v= .sl i 0 (az.length+1) 1∧L=[(i,.cells (((a::az).reverse.map Ac.i).flatMap eP++js))]∧(((a::az).reverse.map Ac.i).flatMap eP++js)[az.length]?=some (.ptr a.i 0):=by
 rcases H with ⟨_,e,_⟩|⟨i,js,e1,e2⟩
 ·simp at e
 ·refine⟨i,js,by rw[e1];simp,e2,?_⟩;have h1:az.length<((a::az).reverse.map Ac.i).length:=by simp
  have:=J8 (js:=js) encP h1 (show 0<1 by decide);rw[Nat.mul_one,Nat.add_zero]at this;rw[this];simp[eP]
theorem Ymr{cs:List AV}{n:Nat}(h:cs[n]?=some v):Yp cs n 1=some [v]:=by
 obtain⟨h1,rfl⟩:=Zi.1 h;unfold Yp;rw[if_pos (by omega),drop_eq_getElem_cons h1];rfl
theorem v38(M:MV g c (a::az) im x)(h64:az.length<64){G:Ya}(hD:Dis G (MX c (a::az) im x).flatten):Jj prog ann 38 [.ptr c.mi 0] (hset G (MX c (a::az) im x).flatten) (.ptr a.i 0):=by
 obtain⟨i,js,e1,e2,e3⟩:=last_ac M.ac;have h7:hset G (MX c (a::az) im x).flatten i=some (.cells (((a::az).reverse.map Ac.i).flatMap eP++js)):=Xi (k:=7) hD rfl _ (by rw[e2];exact .head _);have h0:hset G (MX c (a::az) im x).flatten c.mi=some (.cells (c.M im x)):=Yk hD (.head _);refine Yt rfl rfl func38 Zw rfl ?_;refine tM ?_;refine Ke [(c.mi,13,1,[.sl i 0 (az.length+1) 1])] [.C,.C,.C,.L,.C,.C,.C,.L,.C,.C,.C,.W,.C] (Ybs h0 (by rw[←e1];rfl) .nil) ?_;refine tD ?_;apply Yia (w:=I ((az.length:Nat):Int)) rfl trivial (by rw[w64 (by omega) (by omega)];congr 1;omega);refine tD ?_;apply Yia (w:= .ptr i az.length) rfl ⟨rfl,by omega,by omega⟩ (by simp);refine d_ldW rfl rfl rfl h7 e3 ?_;refine tD ?_;refine tM ?_;exact Xd (.tmp rfl .nil) rfl ⟨rfl,Yl⟩
theorem v35{k i:Int}(h0:h0' c.mi=some (.cells (c.M im x)))(hc:Sl RCls 10 h0' c.ic im.classes)(hi:0≤i∧i<1000):Jj prog ann 35 [.ptr c.mi 0,I k,I i] h0' (.bool (Yjd im k i)):=by
 refine Yt rfl rfl func35 Zw rfl ?_;refine tM ?_;refine oI (k<0) (fun H1=>?_) (fun H1=>?_)
 ·refine tM ?_;refine Xd (vs:=[.bool false]) (.tmp rfl .nil) rfl ?_;exact⟨by unfold Yjd;rw[if_neg (by omega)];rfl,Yl⟩
 refine tM ?_;apply Y0 rfl rfl hc;refine tM ?_;refine oI ((im.classes.length:Int)≤k) (fun H2=>?_) (fun H2=>?_)
 ·refine tM ?_;exact Xd (.tmp rfl .nil) rfl ⟨by unfold Yjd;rw[if_neg (by omega)];rfl,Yl⟩
 obtain⟨n,rfl⟩:=Int.eq_ofNat_of_zero_le (Int.not_lt.1 H1);have hn:n<im.classes.length:=by omega
 have e0:Yjd im n i=Jf im.classes[n] i.toNat:=by
  unfold Yjd cAt;rw[if_pos (by omega),Zn,Zg hn];rfl
 rw[e0];obtain⟨z,rfl⟩:=Int.eq_ofNat_of_zero_le hi.1;rw[Zn];generalize ex:im.classes[n]=y;refine tM ?_;apply Qg rfl rfl rfl hc hn;intro p d hp hd _;rw[ex]at hd;obtain⟨vr,vs,vt,vf,rfl,r1,r2,r3,r4⟩:=hd;refine tM ?_;show Yu _ _ _ _ _ _ _ _ _ (hset h0' ([]:CL).flatten) _;refine Jd (xs:=[]) trivial rfl fun b hD=>?_;refine tM ?_;refine Kb 0 hD rfl rfl rfl rfl rfl rfl rfl (RCls.one (p:=y) ⟨vr,vs,vt,vf,rfl,r1,r2,r3,r4⟩) fun hD=>?_;have hx:Ext h0' _:=Yr hD;have r1':=r1.mono RB.mono hx;have fin:∀{E:Env} {v:Bool},lk E 6=some (.bool v)→v=Jf y z→Yj6 prog ann 35 f35.results.toList (fun w h'=>w= .bool (Jf y z)∧h'=h0') .ret E [b] (hset h0' ([[(b,.cells [.str y.name,I y.super,I y.init,vr,vs,vt,vf,I y.array,I y.elem,.bool y.thrown])]]:CL).flatten):=by
  intro E v e1 e2;obtain⟨k1,k2⟩:=J2 (bs:=[[(b,.cells [.str y.name,I y.super,I y.init,vr,vs,vt,vf,I y.array,I y.elem,.bool y.thrown])]]) (ys:=[]) (bx:=[b]) hD (by intro i;simp);exact Xd (.tmp e1 .nil) rfl ⟨by rw[e2];rfl,k1⟩
 refine tM ?_;refine oI (y.array=2) (fun H3=>?_) (fun H3=>?_)
 ·refine tM ?_;exact fin rfl (by unfold Jf;rw[Zt H3];rfl)
 refine tM ?_;refine oI (y.array=0) (fun H4=>?_) (fun H4=>?_);rotate_left
 ·refine tM ?_;exact fin rfl (by unfold Jf;rw[Zx H3,Zx H4];rfl)
 refine tM ?_;apply Y0 rfl rfl r1';refine tM ?_;refine oI (z<y.refs.length) (fun H5=>?_) (fun H5=>?_);rotate_left
 ·refine tM ?_;exact fin rfl (by unfold Jf;rw[Zx H3,Zt H4,getD_ge (by omega)];rfl)
 refine tM ?_;apply Qg rfl rfl rfl r1' H5;intro p d hp hd _;obtain rfl:d=[.bool _]:=hd;refine tM ?_;exact fin rfl (by unfold Jf;rw[Zx H3,Zt H4,←atD H5];rfl)
end Go.Proofs
namespace Go.Abs
open List
theorem enc_slice{α:Type}{enc:α→List AV}{s:Nat}{l:List α}{z:Nat}{js:List AV}(he:Enc enc s)(hz:z<l.length):Yp (l.flatMap enc++js) (z*s) s=some (enc l[z]):=by
 have e:l=l.take z++(l[z]::l.drop (z+1)):=by rw[←drop_eq_getElem_cons hz,take_append_drop]
 have hl:((l.take z).flatMap enc).length=z*s:=by rw[enc_len he,length_take,Nat.min_eq_left (by omega)]
 have h1:(z+1)*s≤l.length*s:=Zr s hz;rw[Nat.add_mul]at h1;unfold Yp;rw[if_pos (by rw[length_append,enc_len he];omega)]
 congr 1
 conv=>lhs;rw[e]
 rw[flatMap_append,flatMap_cons,append_assoc,drop_append,hl,drop_of_length_le (by omega),nil_append,Nat.sub_self,drop_zero,append_assoc,take_append,(he _).1,Nat.sub_self,take_zero,append_nil,Zk (by rw[(he _).1];exact Zl _)]
end Go.Abs
namespace Go.Vm
open List
theorem Ykg(l:List Val)(v:Val):Jh (l++[v])=Jh l++(if v.1=true then [v.2-1] else []):=by
 unfold Jh;rw[filter_append,map_append];cases hv:v.1<;>simp[List.filter,hv]
theorem Yea(l:List Val):(Jh l).length≤l.length:=by
 unfold Jh;rw[length_map];exact length_filter_le _ _
end Go.Vm
set_option maxRecDepth 100000
namespace Go.Proofs
open List hiding cons nil
open Go.Proofs.Tryz
variable {g h:Ya} {c:Mc} {az:List Ac} {im:Image} {x:Vm}
theorem v78G{mi:Nat}{y0 y1 y2 y3 y4 y5 y6 y7 y8 y9 y11 y12 y13 y14 y15 y16 y17 y18 y19 vst:AV}{st:List Val}{Lst:OL}(h0:h mi=some (.cells [y0,y1,y2,y3,y4,y5,y6,y7,y8,y9,vst,y11,y12,y13,y14,y15,y16,y17,y18,y19]))(hs:SlE eV 2 vst st Lst)(hh:Has h Lst)(hl:st.length≤1000)(h32:∀v∈st,I32 v.2):HCallC prog ann 78 [.ptr mi 0] h fun w h'=>∃L,SlE eI 1 w (Jh st) L∧h'=hset h ([L]:CL).flatten∧Dis h ([L]:CL).flatten:=by
 refine Yt rfl rfl func78 Zw rfl ?_;refine tM ?_;refine Kg (fun s:Nat×AV×OL×OL=>[(3,s.2.1),(9,vst),(10,I st.length),(11,I s.1)]) (fun s=>s.2.2.2.map Prod.fst) (fun s h'=>s.1≤st.length∧SlE eI 1 s.2.1 (Jh (st.take s.1)) s.2.2.1∧h'=hset h ([s.2.2.2,s.2.2.1]:CL).flatten∧Dis h ([s.2.2.2,s.2.2.1]:CL).flatten) (fun s=>st.length-s.1) (0,.nil .sl,[],[]) tU rfl ⟨by omega,.inl ⟨rfl,rfl,rfl⟩,rfl,trivial⟩ ?_;rintro⟨j,w,L,B⟩ _ ⟨hj,hw,rfl,hD⟩;simp only at hj hw hD ⊢;refine tM ?_;refine oI (j<st.length) (fun H=>?_) (fun H=>?_);rotate_left
 ·obtain rfl:j=st.length:=by omega
  rw[take_length]at hw;refine tM ?_;obtain⟨k1,k2⟩:=J2 (bs:=[B]) (ys:=[L]) (bx:=B.map Prod.fst) hD (by intro i;simp);exact Xd (.tmp rfl .nil) rfl ⟨L,hw,k1,k2⟩
 have hx:=h32 _ (getElem_mem H);unfold I32 at hx;have et:=take_succ_eq_append_getElem H;rcases hs with ⟨_,e,_⟩|⟨i,js,ev,eL⟩
 ·rw[e]at H;cases H
 have hi:hset h ([B,L]:CL).flatten i=some (.cells (st.flatMap eV++js)):=Yr hD _ _ (hh _ (by rw[eL];exact .head _));refine tM ?_;rw[ev];apply Y1 (w:= .ptr i (j*2)) rfl rfl ⟨rfl,by omega,by omega⟩ (by simp);refine X3 rfl rfl hi (fun h=>absurd h (by decide)) (enc_slice Yh9 H) ?_;refine Jd hD rfl fun b hD=>?_;refine tM ?_;generalize hv:st[j]=v at hx et;refine Kb (c:=eV v) 0 hD rfl rfl rfl rfl rfl rfl rfl rfl fun hD=>?_;unfold eV at hD ⊢;refine tM ?_;have lw:=Yea (st.take j);rw[length_take]at lw;rw[←ev]at *;cases hb:v.1 with
 |false=>
  refine tM ?_;apply Y1 (w:=I ((j+1:Nat):Int)) rfl rfl trivial (by rw[w64 (by omega) (by omega)];rfl);refine tM ?_;refine⟨(j+1,w,L,(b,.cells [.bool false,.int .i32 v.2])::B),by simp only;omega,tU,rfl,by simp only;omega,?_,?_,?_⟩
  ·simp only;rw[et,Ykg,hb];simpa using hw
  ·rfl
  ·exact hD
 |true=>
  refine tM ?_;apply Y1 (w:=I v.2) rfl rfl trivial (by rw[w64 (by omega) (by omega)]);refine tM ?_;apply Y1 (w:=I (v.2-1)) rfl rfl trivial (by rw[w64 (by omega) (by omega)]);refine tM ?_;refine Ydx (m:=[v.2-1]) 2 Yrw hw hD rfl rfl rfl rfl rfl rfl (by show(_+1)*9≤_;omega) fun w' L' hw' hD=>?_;refine tM ?_;apply Y1 (w:=I ((j+1:Nat):Int)) rfl rfl trivial (by rw[w64 (by omega) (by omega)];rfl);refine tM ?_;refine⟨(j+1,w',L',(b,.cells [.bool true,.int .i32 v.2])::B),by simp only;omega,tU,rfl,by simp only;omega,?_,?_,?_⟩
  ·simp only;rw[et,Ykg,hb];exact hw'
  ·rfl
  ·exact hD
theorem v78(h0:h c.mi=some (.cells (c.M im x)))(hs:SlE eV 2 c.vst x.stat c.Lst)(hh:Has h c.Lst)(hl:x.stat.length≤1000)(h32:∀v∈x.stat,I32 v.2):HCallC prog ann 78 [.ptr c.mi 0] h fun w h'=>∃L,SlE eI 1 w (Jh x.stat) L∧h'=hset h ([L]:CL).flatten∧Dis h ([L]:CL).flatten:=v78G h0 hs hh hl h32
theorem Frs_get{g:Ya}:∀{az:List Ac} {fs:List Fm} {j:Nat},Frs g az fs→(h1:j<az.length)→(h2:j<fs.length)→FrV g az[j] fs[j]∧(AX az fs)[4*j]?=some [(az[j].i,.cells (az[j].A fs[j]))]∧(AX az fs)[4*j+1]?=some [(az[j].fi,.cells (az[j].F fs[j]))]∧(AX az fs)[4*j+2]?=some az[j].Ll∧(AX az fs)[4*j+3]?=some az[j].Lk
 |_,_,_,.nil,h1,_=>by cases h1
 |_,_,0,.cons h H,_,_=>⟨h,rfl,rfl,rfl,rfl⟩
 |_::az,_::fs,j+1,.cons h H,h1,h2=>by
  obtain⟨k1,k2,k3,k4,k5⟩:=Frs_get (j:=j) H (by simpa using h1) (by simpa using h2);refine⟨k1,?_,?_,?_,?_⟩
  ·exact k2
  ·exact k3
  ·exact k4
  ·exact k5
structure ROk (x:Vm):Prop where
 stat:x.stat.length≤1000
 s32:∀v∈x.stat,I32 v.2
 n:x.acts.length≤64
 fr:∀f∈x.acts,f.loc.length≤16∧f.stk.length≤16∧∀v∈f.loc++f.stk,I32 v.2
theorem Ypv(f:Fm):f.refs.length≤f.loc.length+f.stk.length:=by
 unfold Fm.refs;rw[length_append];have:=Yea f.loc;have:=Yea f.stk;omega
theorem Ymy{fs:List Fm}:(∀f∈fs,f.loc.length≤16∧f.stk.length≤16)→(fs.flatMap Fm.refs).length≤32*fs.length:=by
 induction fs with
 |nil=>intro _;exact Zl _
 |cons f fs ih=>
  intro h;have h1:=ih fun f hf=>h f (.tail _ hf);have h2:=h f (.head _);have h3:=Ypv f;rw[flatMap_cons,length_append,length_cons];omega
theorem v36(M:MV g c az im x)(R:ROk x){G:Ya}(hD0:Dis G (MX c az im x).flatten):HCallC prog ann 36 [.ptr c.mi 0] (hset G (MX c az im x).flatten) fun w h'=>TSl 1 w (x.roots.flatMap eI) x.roots.length∧h'=hset G (MX c az im x).flatten:=by
 have h0:hset G (MX c az im x).flatten c.mi=some (.cells (c.M im x)):=Yk hD0 (.head _);have hl:=M.fr.len;have hn:=R.n;have hst:=R.stat;refine Ye4 rfl rfl func36 Zw rfl ?_;refine tM ?_;apply Yb rfl rfl rfl rfl (v78 h0 M.st (Xi (k:=4) hD0 rfl) R.stat R.s32);rintro t _ ⟨L0,ht,rfl,hD1⟩;have hac:=M.ac;have hach:Has (hset G (MX c az im x).flatten) c.Lac:=Xi (k:=7) hD0 rfl;have lr:((az.reverse.map Ac.i)).length=az.length:=by simp
 have hfr:∀j,(h1:j<az.length)→(h2:j<x.acts.length)→FrV g az[j] x.acts[j]∧hset G (MX c az im x).flatten az[j].i=some (.cells (az[j].A x.acts[j]))∧hset G (MX c az im x).flatten az[j].fi=some (.cells (az[j].F x.acts[j]))∧Has (hset G (MX c az im x).flatten) az[j].Ll∧Has (hset G (MX c az im x).flatten) az[j].Lk:=fun j h1 h2=>by
  obtain⟨k1,k2,k3,k4,k5⟩:=Frs_get M.fr h1 h2;exact⟨k1,Yk hD0 (Yi (k:=4*j+8) k2 (.head _)),Yk hD0 (Yi (k:=4*j+1+8) k3 (.head _)),Xi (k:=4*j+2+8) hD0 k4,Xi (k:=4*j+3+8) hD0 k5⟩
 generalize hset G (MX c az im x).flatten=hm at h0 hach hD1 hfr ⊢;refine tM ?_;refine Y2 rfl rfl (Yr hD1 _ _ h0) (fun h=>absurd h (by decide)) rfl ?_;refine tM ?_;rw[lr];have hsl:=Yea x.stat;refine Xv (fun s:Nat×AV×OL=>[(3,s.2.1),(11,c.vac),(12,I az.length),(13,I s.1)]) (fun s h'=>s.1≤az.length∧SlE eI 1 s.2.1 (Jh x.stat++(x.acts.reverse.take s.1).flatMap Fm.refs) s.2.2∧h'=hset hm ([s.2.2]:CL).flatten∧Dis hm ([s.2.2]:CL).flatten) (fun s=>az.length-s.1) (0,t,L0) tU ⟨by omega,by simpa using ht,rfl,hD1⟩ ?_;rintro⟨j,w,L⟩ _ ⟨hj,hw,rfl,hD⟩;simp only at hj hw hD ⊢;refine tM ?_;refine oI (j<az.length) (fun H=>?_) (fun H=>?_);rotate_left
 ·obtain rfl:j=az.length:=by omega
  rw[Zk (by rw[length_reverse];omega)]at hw;refine tM ?_;obtain⟨t,t1,t2⟩:=fz_SlE Yrw (fun _ _ _ hx=>by obtain rfl:=Zm.1 hx;rfl) hw hD;exact Yns (vs:=[w]) (.tmp rfl .nil) rfl t1 ⟨t2,Yl⟩
 obtain⟨k1,k2,k3,k4,k5⟩:=hfr (az.length-1-j) (by omega) (by omega);have r1:(az.reverse.map Ac.i)[j]'(by omega)=az[az.length-1-j].i:=by rw[getElem_map,getElem_reverse]
 have r2:x.acts.reverse[j]'(by rw[length_reverse];omega)=x.acts[az.length-1-j]:=by rw[getElem_reverse];congr 1;omega
 have lw:=Ymy (fs:=x.acts.reverse.take j) fun f hf=>by
  have:=R.fr f (mem_reverse.1 (mem_of_mem_take hf));exact⟨this.1,this.2.1⟩
 rw[length_take]at lw;obtain⟨q1,q2,q3⟩:=R.fr _ (getElem_mem (show az.length-1-j<x.acts.length by omega));generalize az[az.length-1-j]=a at k1 k2 k3 k4 k5 r1;generalize x.acts[az.length-1-j]=f at k1 k2 k3 k4 k5 r2 q1 q2 q3;have hx:=Yr hD;rcases hac with ⟨_,e,_⟩|⟨i,js,ev,eL⟩
 ·rw[e]at lr;simp at lr;omega
 have hi:hset hm ([L]:CL).flatten i=some (.cells ((az.reverse.map Ac.i).flatMap eP++js)):=hx _ _ (hach _ (by rw[eL];exact .head _));have hA:=hx _ _ k2;have lf:=Ypv f;refine tM ?_;rw[ev];apply Y1 (w:= .ptr i j) rfl rfl ⟨rfl,by omega,by omega⟩ (by simp);refine Y2 rfl rfl hi (fun h=>absurd h (by decide)) (v:= .ptr a.i 0) (by have:=J8 (js:=js) encP (show j<(az.reverse.map Ac.i).length by omega) (show 0<1 by decide);rw[Nat.mul_one,Nat.add_zero]at this;rw[this,r1];rfl) ?_;rw[←ev];refine tM ?_;apply Yb rfl rfl rfl rfl (v79 (hx _ _ k3) k1.loc k1.stk (k4.up hx) (k5.up hx) q1 q2 q3);rintro u _ ⟨hu,rfl⟩;refine tM ?_;refine Ydx (m:=f.refs) 0 Yrw hw hD rfl rfl rfl rfl rfl (srcOf_T hu) (by rw[length_append];omega) fun w' L' hw' hD=>?_;refine tM ?_;apply Y1 (w:=I ((j+1:Nat):Int)) rfl rfl trivial (by rw[w64 (by omega) (by omega)];rfl);refine tM ?_;refine⟨(j+1,w',L'),by simp only;omega,tU,rfl,by simp only;omega,?_,rfl,hD⟩;simp only;rw[take_succ_eq_append_getElem (by rw[length_reverse];omega),flatMap_append,r2,←append_assoc];simpa using hw'
end Go.Proofs
end
section
namespace Go.Abs
open List
variable {v:AV} {p:Prop} {k:SK}
section
variable {P:Program} {A:Ann} {f nt q:Nat} {E:Env} {bx:List Nat} {h:Ya} {S:PS} {cls:List CD} {Q:AX→Env→List Nat→Ya→Prop}
theorem sv_opV{o:Oper}{rg:Nat→AV}(hro:Yg1 A f o.dst=false)(hk:slK P A (Yg1 A f o.dst) o.op=some k)(hs:Sat (lk E) rg)(hv:sv (lk E) k=some (p,v))(hp:p):opV (fun _ _=>AM.fail) P A f o rg=AM.pure v:=by
 rw[hro]at hk;unfold opV;split
 ·rename_i x args ts ho;rw[ho]at hk;simp only[slK]at hk;split at hk
  ·simp only[Zs]at hk;subst hk;simp[sv]at hv
  ·cases hk
 ·rename_i x m args ts ho;rw[ho]at hk;simp only[slK]at hk;split at hk
  ·simp only[Zs]at hk;subst hk;simp[sv]at hv
  ·cases hk
 ·rw[hro];simp only[Zf,if_false];exact sv_pure hk hs hv hp
theorem d_vL{d:Nat}{r:List SO}(hr:Yg1 A f (some d)=false)(hk:Yfg k=false)(hl:Ylp k=true)(hlt:(decide (d<nt))=true)(hv:sv (lk E) k=some (p,v))(hp:p)(H:Xu P A f nt S (q-1) cls r ((d,v)::E) bx h Q):Xu P A f nt S q (.L::cls) (⟨some d,none,k⟩::r) E bx h Q:=by
 intro ops l0 rg hl0 hs hS hL;obtain⟨o0,r0,rfl,h1,h2⟩:=Y7 hl0;obtain⟨e1,e2,e3⟩:=Xn h1;have hsl:=Jp e2 hk;refine Ym8 hS hL (by unfold Yy;rw[Yjh h1]) fun n hn=>?_;have hop:=sv_opV (by rw[←e1];exact hr) hsl hs hv hp;have e:opV (Xg P A 0) P A f o0 rg h n=some (v,h,n,([],[])):=by
  have:Xg P A 0=fun _ _=>AM.fail:=by
   funext g vs;rfl
  rw[this,hop];rfl
 exact⟨0,v,h,n,_,_,e,.inr ⟨rfl,rfl,Ygi h1 hl _⟩,Qw e1.symm (by simpa using hlt) (fun hb=>Yph hsl hv hb),H ops r0 _ h2 (hs.put d v) (fun hq=>hS (by omega)) hL⟩
end
end Go.Abs
end
section
open Go Go.Abs Go.Proofs.SlimCode Go.Img Go.Vm
namespace Go.Abs
open List
theorem d_hcallK{P:Program}{A:Ann}{f nt q d:Nat}{E:Env}{bx:List Nat}{h:Ya}{Q:AX→Env→List Nat→Ya→Prop}{S:PS}{cls:List CD}{x:SX}{args:List SX}{r:List SO}{g:Nat}{first cap vs:List AV}{R:AV→Prop}(hd:decide (d<nt)=true)(hx:ev (lk E) x=some (.fn g first cap))(ha:evS (lk E) args=some vs)(hc:HCallC P A g (first++vs++cap) h fun w h'=>R w∧h'=h)
  (H:∀v,R v→Xu P A f nt S (q-1) cls r ((d,v)::E) bx h Q):Xu P A f nt S q (.W::cls) (⟨some d,none,.call x args⟩::r) E bx h Q:=fun ops l0 rg hl hs hS hL=>
 d_W (R:=fun E' bx' h1=>∃v,R v∧E'=(d,v)::E∧bx'=bx∧h1=h) (fun _=>rfl) (Yb rfl (by simpa[Y8]using hd) hx ha hc fun v h' ⟨h1,h2⟩=>X8 ⟨rfl,v,h1,rfl,rfl,h2⟩) (by rintro _ _ _ ⟨v,h1,rfl,rfl,rfl⟩;exact⟨fun hq=>hS (by omega),hL,H v h1⟩) ops l0 rg hl hs hS hL
end Go.Abs
namespace Go.Vm
open List
open Go.Proofs
structure CopyOk (h:Hp) (l:List Int) (p:Hp×List Int):Prop where
 ok:HOk p.1
 n:p.1.n=h.n
 len:p.2.length=l.length
 at':∀t∈p.2,t= -1∨p.1.has t=true
def M8 (c:Mc) (im:Image) (x:Vm):CL:=[[(c.mi,.cells (c.M im x))],[(c.hi,.cells (c.H x))],c.Lw,c.Ls,c.Lst,c.Lat,c.Lo,c.Lac]
end Go.Vm
set_option maxRecDepth 100000
namespace Go.Proofs
open List
variable {g:Ya} {c:Mc} {az:List Ac} {im:Image} {x:Vm}
end Go.Proofs
end
