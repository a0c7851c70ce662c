import Derived.Test.YtibdecjfdpmfoaaGreatVmBeg3
open Go Go.Abs Go.Proofs.SlimCode Go.Img Go.Vm
namespace Go.Vm
open List
variable {a b n op x:Int}
theorem i32_two(ha:I32 a)(hb:I32 b)(h:two op a b=some n):I32 n:=by
 have hbv:∀q:BitVec 32,I32 q.toInt:=fun q=>by
  have h1:=q.toInt_lt;have h2:=q.le_toInt;unfold I32;omega
 unfold two at h
 repeat' split at h
 all_goals first|(cases h;done)|skip
 all_goals injection h with h
 all_goals subst h
 all_goals first|exact Yoy _|exact hbv _|skip
 ·rename_i hz;have h1:=Int.natAbs_tmod a b;have h2:a.natAbs%b.natAbs<b.natAbs:=Nat.mod_lt _ (by omega);unfold I32 at hb ⊢;omega
 ·have h1:(0:Int)<2^(b%32).toNat:=by exact_mod_cast Nat.two_pow_pos _
  rw[Int.fdiv_eq_ediv_of_nonneg _ (by omega)];generalize (2:Int)^(b%32).toNat=q at h1;unfold I32 at ha ⊢;have h2:=Int.mul_ediv_add_emod a q;have h3:=Int.emod_nonneg a (show q≠0 by omega);constructor
  ·rw[Int.le_ediv_iff_mul_le h1];have:(-2147483648)*q≤(-2147483648)*1:=Int.mul_le_mul_of_nonpos_left (by decide) (by omega);omega
  ·have:a/q<2147483648:=by
    rw[Int.ediv_lt_iff_lt_mul h1];have:2147483648*1≤2147483648*q:=Int.mul_le_mul_of_nonneg_left (by omega) (by decide);omega
   omega
open Go.Proofs
def Op2 (op b:Int):Prop:=8≤op∧op≤19∧op≠13∧¬(b=0∧(op=11∨op=12))
theorem two_some(h:Op2 op b):∃r,two op a b=some r:=by
 obtain⟨h1,h2,h3,h4⟩:=h;unfold two;by_cases e8:op=8
 ·exact⟨_,if_pos e8⟩
 rw[if_neg e8];by_cases e9:op=9
 ·exact⟨_,if_pos e9⟩
 rw[if_neg e9];by_cases e10:op=10
 ·exact⟨_,if_pos e10⟩
 rw[if_neg e10];by_cases e11:op=11
 ·rw[if_pos e11,if_neg (fun h=>h4 ⟨h,.inl e11⟩)];exact⟨_,rfl⟩
 rw[if_neg e11];by_cases e12:op=12
 ·rw[if_pos e12,if_neg (fun h=>h4 ⟨h,.inr e12⟩)];exact⟨_,rfl⟩
 rw[if_neg e12];by_cases e14:op=14
 ·exact⟨_,if_pos e14⟩
 rw[if_neg e14];by_cases e15:op=15
 ·exact⟨_,if_pos e15⟩
 rw[if_neg e15];by_cases e16:op=16
 ·exact⟨_,if_pos e16⟩
 rw[if_neg e16];by_cases e17:op=17
 ·exact⟨_,if_pos e17⟩
 rw[if_neg e17];by_cases e18:op=18
 ·exact⟨_,if_pos e18⟩
 rw[if_neg e18,if_pos (by omega)];exact⟨_,rfl⟩
theorem Yqp{im:Image}{x:Vm}{i:Kr}(h:8≤i.1∧i.1≤19∧i.1≠13):x.does im i=x.two im i:=by
 unfold Vm.does;rw[if_neg (by omega),if_neg (by omega),if_pos (by omega)]
theorem fn_two(h:8≤op∧op≤19∧op≠13):fnOf op=126:=by
 rcases(show op=8∨op=9∨op=10∨op=11∨op=12∨op=14∨op=15∨op=16∨op=17∨op=18∨op=19 by omega) with rfl|rfl|rfl|rfl|rfl|rfl|rfl|rfl|rfl|rfl|rfl<;>rfl
def iM (op a b:Int):Mth:=⟨0,4,4,false,[(1,a,0,0),(1,b,0,0),(op,0,0,0),(61,0,0,0)],[]⟩
def iIm (op a b:Int):Image:=smv (iM op a b) [0,0,10,1,1] [4] 3
section
variable {op a b r:Int}
theorem i64_32(h:I32 n):I64 n:=by unfold I32 at h;exact⟨by omega,by omega⟩
theorem iM_WF(ho:Op2 op b)(ha:I32 a)(hb:I32 b):(iM op a b).WF:=by
 have h:=ho.1;have h':=ho.2.1;have z0:I64 0:=Yrq;have z1:I64 1:=Yrq;have z4:I64 4:=Yrq;have z61:I64 61:=Yrq;refine⟨z0,z4,z4,⟨(by decide:4≤9223372036854775807),fun p hp=>?_⟩,⟨Nat.zero_le _,fun _ h=>nomatch h⟩⟩;have hp:p∈[((1,a,0,0):Kr),(1,b,0,0),(op,0,0,0),(61,0,0,0)]:=hp;simp only[mem_cons,not_mem_nil,or_false]at hp;rcases hp with rfl|rfl|rfl|rfl
 ·exact⟨z1,i64_32 ha,z0,z0⟩
 ·exact⟨z1,i64_32 hb,z0,z0⟩
 ·exact⟨Yrq (by show -100≤op∧op≤1000;omega),z0,z0,z0⟩
 ·exact⟨z61,z0,z0,z0⟩
theorem Ykw(ho:Op2 op b)(ha:I32 a)(hb:I32 b):ImOk (iIm op a b):=by
 have h1:=ho.1;have h2:=ho.2.1;refine⟨Ymq ?_ (by show 0<4;decide) rfl rfl Ypl,smv_WF (iM_WF ho ha hb) wW wR ⟨by decide,by decide⟩⟩;refine⟨(by decide:(0:Int)≤0∧(0:Int)≤7),(by decide:(0:Int)≤4∧(4:Int)≤16),(by decide:(0:Int)≤4∧(4:Int)≤16),fun _=>⟨(by decide:4≤100),(by decide:(0:Int)≤4),?_⟩,fun t ht=>(by cases ht),fun i hi=>?_⟩
 ·show Yg0 61;unfold Yg0;omega
 ·have hi:i∈[((1,a,0,0):Kr),(1,b,0,0),(op,0,0,0),(61,0,0,0)]:=hi;simp only[mem_cons,not_mem_nil,or_false]at hi;rcases hi with rfl|rfl|rfl|rfl<;>(refine⟨by show 1≤_∧_≤_;omega,?_,?_,?_,?_,?_,?_,?_,?_,?_,?_,?_,?_⟩<;>intro h<;>simp only at h<;>omega)
def iX (op a b:Int):Vm:=Vm.new (iIm op a b) [] (Hp.of 100 [0,0,10,1,1] [0,2])
def iS (op a b r:Int):Nat→Vm
 |0=>{iX op a b with acts:=[frS (iM op a b) 0 []],steps:=0,inp:=[],out:=[],fin:=0,code:=0}
 |1=>{iX op a b with acts:=[frS (iM op a b) 1 [(false,Img.w32 a)]],steps:=1,inp:=[],out:=[],fin:=0,code:=0}
 |2=>{iX op a b with acts:=[frS (iM op a b) 2 [(false,Img.w32 a),(false,Img.w32 b)]],steps:=2,inp:=[],out:=[],fin:=0,code:=0}
 |3=>{iX op a b with acts:=[frS (iM op a b) 3 [(false,r)]],steps:=3,inp:=[],out:=[],fin:=0,code:=0}
 |_=>{iX op a b with acts:=[frS (iM op a b) 3 [(false,r)]],steps:=4,inp:=[],out:=[],fin:=1,code:=r}
theorem iS_step(ho:Op2 op b)(hr:two op (Img.w32 a) (Img.w32 b)=some r):∀j,j<4→(iS op a b r j).step (iIm op a b)=iS op a b r (j+1)
 |0,_=>rfl
 |1,_=>rfl
 |2,_=>by
  have e:(iS op a b r 2).step (iIm op a b)=(stp {iX op a b with steps:=2,inp:=[],out:=[],fin:=0,code:=0} (frS (iM op a b) 2 [(false,Img.w32 a),(false,Img.w32 b)]) []).does (iIm op a b) (op,0,0,0):=rfl;rw[e,Yqp ⟨ho.1,ho.2.1,ho.2.2.1⟩];show(match two op (Img.w32 a) (Img.w32 b) with
   |none=>_
   |some n=>_)=_
  rw[hr];rfl
 |3,_=>rfl
theorem iX_ok(ho:Op2 op b)(ha:I32 a)(hb:I32 b):VOk (iIm op a b) (iX op a b):=new_ok (Ykw ho ha hb) (Yag 1) (by decide:¬(Hp.new 100).n<((5:Nat):Int)) (fun n hn=>nomatch hn)
theorem one_n{u:Hp}(h:I32 n):∀v∈([(false,n)]:List Val),VV u v:=numsV (l:=[n]) fun m hm=>by rw[Zm.1 hm];exact h
theorem iS_ok(ho:Op2 op b)(ha:I32 a)(hb:I32 b)(hr:I32 r):∀j,j<4→VOk (iIm op a b) (iS op a b r j)
 |0,_=>iX_ok ho ha hb
 |1,_=>Yiu (Ykw ho ha hb) (by show 0<4;decide) (iX_ok ho ha hb) (by show(0:Int)≤1∧(1:Int)≤(4:Nat);decide) (by show((1:Nat):Int)≤4;decide) (one_n (Yoy _)) (by decide) (fun _ h=>nomatch h)
 |2,_=>Yiu (Ykw ho ha hb) (by show 0<4;decide) (iX_ok ho ha hb) (by show(0:Int)≤2∧(2:Int)≤(4:Nat);decide) (by show((2:Nat):Int)≤4;decide) (numsV (l:=[Img.w32 a,Img.w32 b]) fun n hn=>by
   rcases mem_cons.1 hn with rfl|hn
   ·exact Yoy _
   ·rw[Zm.1 hn];exact Yoy _) (by decide) (fun _ h=>nomatch h)
 |3,_=>Yiu (Ykw ho ha hb) (by show 0<4;decide) (iX_ok ho ha hb) (by show(0:Int)≤3∧(3:Int)≤(4:Nat);decide) (by show((1:Nat):Int)≤4;decide) (one_n hr) (by decide) (fun _ h=>nomatch h)
end
theorem w32_id(h:I32 x):Img.w32 x=x:=by unfold I32 at h;unfold Img.w32;omega
theorem Yib:Img.w32 (IntKind.wrap .i64 x)=Img.w32 x:=by
 simp[IntKind.wrap,IntKind.bits,IntKind.signed,Img.w32];omega
theorem cv3:IntKind.wrap .i32 (IntKind.wrap .u32 (IntKind.wrap .u64 x))=Img.w32 x:=by
 simp[IntKind.wrap,IntKind.bits,IntKind.signed,Img.w32];omega
theorem and31L:IntKind.wrap .i64 (((BitVec.ofInt 64 b &&& BitVec.ofInt 64 31).toNat:Nat):Int)=b%32:=by
 have e1:(BitVec.ofInt 64 b &&& BitVec.ofInt 64 31).toNat=(b%32).toNat:=by
  rw[BitVec.toNat_and,show(BitVec.ofInt 64 31).toNat=2^5-1 from rfl,Nat.and_two_pow_sub_one_eq_mod,BitVec.toNat_ofInt];omega
 rw[e1,w64 (by omega) (by omega)];omega
theorem andFF:IntKind.wrap .i64 (((BitVec.ofInt 64 b &&& BitVec.ofInt 64 4294967295).toNat:Nat):Int)=b%4294967296:=by
 have e1:(BitVec.ofInt 64 b &&& BitVec.ofInt 64 4294967295).toNat=(b%4294967296).toNat:=by
  rw[BitVec.toNat_and,show(BitVec.ofInt 64 4294967295).toNat=2^32-1 from rfl,Nat.and_two_pow_sub_one_eq_mod,BitVec.toNat_ofInt];omega
 rw[e1,w64 (by omega) (by omega)];omega
theorem w32_nat{x:Nat}:Img.w32 x=(BitVec.ofNat 32 x).toInt:=by
 rw[←Yk8,Proofs.wrap_w32,BitVec.toNat_ofNat];unfold Img.w32;omega
theorem Yra:(BitVec.ofInt 64 a).setWidth 32=BitVec.ofInt 32 a:=by
 apply BitVec.eq_of_toNat_eq;rw[BitVec.toNat_setWidth,BitVec.toNat_ofInt,BitVec.toNat_ofInt];omega
theorem low{x:BitVec 64}:Img.w32 (x.toNat:Int)=(x.setWidth 32).toInt:=by
 rw[w32_nat]
 congr 1
theorem fdiv32{n:Nat}(h:I32 a):I32 (a.fdiv (2^n)):=by
 unfold I32 at *;have hp:(0:Int)<2^n:=by exact_mod_cast Nat.two_pow_pos n
 rw[Int.fdiv_eq_ediv_of_nonneg _ (by omega)];constructor
 ·have:=(Int.le_ediv_iff_mul_le hp).2 (show(-2147483648:Int)*2^n≤a by
   have:(-2147483648:Int)*2^n≤ -2147483648*1:=Int.mul_le_mul_of_nonpos_left (by omega) (by omega);omega)
  exact this
 ·have:=(Int.ediv_lt_iff_lt_mul hp).2 (show a<(2147483648:Int)*2^n by
   have:(2147483648:Int)*1≤2147483648*2^n:=Int.mul_le_mul_of_nonneg_left (by omega) (by omega);omega)
  omega
theorem tmod32(h:I32 a):I32 (a.tmod b):=by
 unfold I32 at *;have h1:=Int.natAbs_tmod a b;have h2:a.natAbs%b.natAbs≤a.natAbs:=Nat.mod_le _ _;have h1:(a.tmod b).natAbs=a.natAbs%b.natAbs:=h1;have h3:0≤a→0≤a.tmod b:=fun h=>Int.tmod_nonneg b h;have h4:a≤0→0≤ -(a.tmod b):=fun h=>by rw[←Int.neg_tmod];exact Int.tmod_nonneg b (by omega)
 omega
theorem tdiv64(h:I32 a) : -2147483648≤a.tdiv b∧a.tdiv b≤2147483648:=by
 unfold I32 at *;have h1:(a.tdiv b).natAbs=a.natAbs/b.natAbs:=Int.natAbs_tdiv a b;have h2:a.natAbs/b.natAbs≤a.natAbs:=Nat.div_le_self _ _;omega
theorem mul64(h:I32 a)(h2:I32 b) : -4611686018427387904≤a*b∧a*b≤4611686018427387904:=by
 unfold I32 at *;have h1:=Int.natAbs_mul a b;have h3:a.natAbs*b.natAbs≤2147483648*2147483648:=Nat.mul_le_mul (by omega) (by omega);omega
end Go.Vm
set_option maxRecDepth 100000
namespace Go.Proofs
open List
open Go.Proofs.Tryz
variable {n:Int}
variable {h:Ya} {op a b:Int}
theorem q82:Jj prog ann 82 [I a] h (.int .i32 (Img.w32 a)):=by
 refine Yz rfl func82 Zw rfl ?_;refine tM ?_;apply Y1 (w:= .int .u64 (IntKind.wrap .u64 a)) rfl rfl trivial rfl;refine tM ?_;apply Y1 (w:= .int .u32 (IntKind.wrap .u32 (IntKind.wrap .u64 a))) rfl rfl trivial rfl;refine tM ?_;apply Y1 (w:= .int .i32 (Img.w32 a)) rfl rfl trivial (by rw[←cv3]);refine tM ?_;exact kx rfl rfl rfl
theorem q42(ha:I32 a)(hb:I32 b):Jj prog ann 42 [I op,.int .i32 a,.int .i32 b] h (oV (two op a b)):=by
 have ha2:=ha;have hb2:=hb;unfold I32 at ha2 hb2;refine Yz rfl func42 Zw rfl ?_;refine tM ?_;apply Y1 (w:=I a) rfl rfl trivial (by rw[w64 (by omega) (by omega)]);refine tM ?_;apply Y1 (w:=I b) rfl rfl trivial (by rw[w64 (by omega) (by omega)]);refine tM ?_;apply Y1 (w:=I (b%32)) rfl rfl trivial (congrArg _ and31L);refine tM ?_;apply Y1 (w:= .int .u64 (b%32)) rfl rfl trivial (by rw[wu64 (by omega) (by omega)]);refine tM ?_;refine oI (op=8) (fun n8=>?_) (fun n8=>?_)<;>refine tM ?_
 ·apply Y1 (w:=I (a+b)) rfl rfl trivial (by rw[w64 (by omega) (by omega)]);refine tM ?_;apply Xh q82;refine tM ?_;exact kx rfl rfl (by unfold two;rw[if_pos n8];rfl)
 refine oI (op=9) (fun n9=>?_) (fun n9=>?_)<;>refine tM ?_
 ·apply Y1 (w:=I (a-b)) rfl rfl trivial (by rw[w64 (by omega) (by omega)]);refine tM ?_;apply Xh q82;refine tM ?_;exact kx rfl rfl (by unfold two;rw[if_neg n8,if_pos n9];rfl)
 refine oI (op=10) (fun n10=>?_) (fun n10=>?_)<;>refine tM ?_
 ·apply Y1 (w:=I (a*b)) rfl rfl trivial (by rw[w64 (by have:=mul64 ha hb;omega) (by have:=mul64 ha hb;omega)]);refine tM ?_;apply Xh q82;refine tM ?_;exact kx rfl rfl (by unfold two;rw[if_neg n8,if_neg n9,if_pos n10];rfl)
 refine oI (op=11) (fun n11=>?_) (fun n11=>?_)<;>refine tM ?_
 ·refine oI (b=0) (fun h0=>?_) (fun h0=>?_)<;>refine tM ?_
  ·exact kx rfl rfl (by unfold two;rw[if_neg n8,if_neg n9,if_neg n10,if_pos n11,if_pos h0];rfl)
  refine oI (op=11) (fun _=>?_) (fun h=>absurd n11 h)<;>refine tM ?_
  apply Y1 (w:=I (a.tdiv b)) rfl rfl h0 (by have:=tdiv64 (b:=b) ha;rw[w64 (by omega) (by omega)]);refine tM ?_;apply Xh q82;refine tM ?_;exact kx rfl rfl (by unfold two;rw[if_neg n8,if_neg n9,if_neg n10,if_pos n11,if_neg h0];rfl)
 refine oI (op=12) (fun n12=>?_) (fun n12=>?_)<;>refine tM ?_
 ·refine oI (b=0) (fun h0=>?_) (fun h0=>?_)<;>refine tM ?_
  ·exact kx rfl rfl (by unfold two;rw[if_neg n8,if_neg n9,if_neg n10,if_neg n11,if_pos n12,if_pos h0];rfl)
  refine oI (op=11) (fun h=>absurd h n11) (fun _=>?_)<;>refine tM ?_
  apply Y1 (w:=I (a.tmod b)) rfl rfl h0 rfl;refine tM ?_;apply Xh q82;refine tM ?_;exact kx rfl rfl (by unfold two;rw[if_neg n8,if_neg n9,if_neg n10,if_neg n11,if_pos n12,if_neg h0,w32_id (tmod32 ha)];rfl)
 refine oI (op=14) (fun n14=>?_) (fun n14=>?_)<;>refine tM ?_
 ·apply Y1 (w:=I (IntKind.wrap .i64 (((BitVec.ofInt 64 a &&& BitVec.ofInt 64 b).toNat:Nat):Int))) rfl rfl trivial rfl;refine tM ?_;apply Xh q82;refine tM ?_;exact kx rfl rfl (by unfold two;rw[if_neg n8,if_neg n9,if_neg n10,if_neg n11,if_neg n12,if_pos n14];rw[Yib,low,BitVec.setWidth_and,Yra,Yra];rfl)
 refine oI (op=15) (fun n15=>?_) (fun n15=>?_)<;>refine tM ?_
 ·apply Y1 (w:=I (IntKind.wrap .i64 (((BitVec.ofInt 64 a ||| BitVec.ofInt 64 b).toNat:Nat):Int))) rfl rfl trivial rfl;refine tM ?_;apply Xh q82;refine tM ?_;exact kx rfl rfl (by unfold two;rw[if_neg n8,if_neg n9,if_neg n10,if_neg n11,if_neg n12,if_neg n14,if_pos n15];rw[Yib,low,BitVec.setWidth_or,Yra,Yra];rfl)
 refine oI (op=16) (fun n16=>?_) (fun n16=>?_)<;>refine tM ?_
 ·apply Y1 (w:=I (IntKind.wrap .i64 (((BitVec.ofInt 64 a ^^^ BitVec.ofInt 64 b).toNat:Nat):Int))) rfl rfl trivial rfl;refine tM ?_;apply Xh q82;refine tM ?_;exact kx rfl rfl (by unfold two;rw[if_neg n8,if_neg n9,if_neg n10,if_neg n11,if_neg n12,if_neg n14,if_neg n15,if_pos n16];rw[Yib,low,BitVec.setWidth_xor,Yra,Yra];rfl)
 refine oI (op=17) (fun n17=>?_) (fun n17=>?_)<;>refine tM ?_
 ·apply Y1 (w:=I (IntKind.wrap .i64 (a*2^(b%32).toNat))) rfl rfl (show 0≤b%32 by omega) (by rw[show min (b%32).toNat (IntKind.bits .i64)=(b%32).toNat from(by show min _ 64=_;omega)]);refine tM ?_;apply Xh q82;refine tM ?_;exact kx rfl rfl (by unfold two;rw[if_neg n8,if_neg n9,if_neg n10,if_neg n11,if_neg n12,if_neg n14,if_neg n15,if_neg n16,if_pos n17];rw[Yib];rfl)
 refine oI (op=18) (fun n18=>?_) (fun n18=>?_)<;>refine tM ?_
 ·apply Y1 (w:=I (a.fdiv (2^(b%32).toNat))) rfl rfl (show 0≤b%32 by omega) (by rw[show min (b%32).toNat (IntKind.bits .i64)=(b%32).toNat from(by show min _ 64=_;omega)]);refine tM ?_;apply Xh q82;refine tM ?_;exact kx rfl rfl (by unfold two;rw[if_neg n8,if_neg n9,if_neg n10,if_neg n11,if_neg n12,if_neg n14,if_neg n15,if_neg n16,if_neg n17,if_pos n18];rw[w32_id (fdiv32 ha)];rfl)
 refine oI (op=19) (fun n19=>?_) (fun n19=>?_)<;>refine tM ?_
 ·apply Y1 (w:=I (a%4294967296)) rfl rfl trivial (congrArg _ andFF);refine tM ?_;apply Y1 (w:=I ((a%4294967296).fdiv (2^(b%32).toNat))) rfl rfl (show 0≤b%32 by omega) (by rw[show min (b%32).toNat (IntKind.bits .i64)=(b%32).toNat from(by show min _ 64=_;omega)]);refine tM ?_;apply Xh q82;refine tM ?_;exact kx rfl rfl (by unfold two;rw[if_neg n8,if_neg n9,if_neg n10,if_neg n11,if_neg n12,if_neg n14,if_neg n15,if_neg n16,if_neg n17,if_neg n18,if_pos n19];rfl)
 exact kx rfl rfl (by unfold two;rw[if_neg n8,if_neg n9,if_neg n10,if_neg n11,if_neg n12,if_neg n14,if_neg n15,if_neg n16,if_neg n17,if_neg n18,if_neg n19];rfl)
theorem q18(ha:I32 a)(hb:I32 b):Jj prog ann 18 [I op,.int .i32 a,.int .i32 b] h (.int .i32 ((two op a b).getD 0)):=by
 refine Yz rfl func18 Zw rfl ?_;refine tM ?_;apply Xh (q42 ha hb);unfold oV;refine tM ?_;exact kx rfl rfl rfl
set_option maxRecDepth 100000
variable {g:Ya} {op a b r:Int}
theorem iS_fin:∀j,0<j→j<4→(iS op a b r j).fin=0:=fun j h0 h4=>by
 match j,h0,h4 with
 |1,_,_=>rfl
 |2,_,_=>rfl
 |3,_,_=>rfl
theorem iRun(ho:Op2 op b)(hr:two op (Img.w32 a) (Img.w32 b)=some r):(iX op a b).run (iIm op a b) 50=(iS op a b r 4,⟨[],1,r,[]⟩):=Ymw (S:=iS op a b r) (N:=4) (by decide) (by decide) (iS_step ho hr) iS_fin (show(1:Int)≠0 by decide)
theorem iR{c:Mc}{az:List Ac}(ho:Op2 op b)(ha:I32 a)(hb:I32 b)(hr:two op (Img.w32 a) (Img.w32 b)=some r)(M:MV g c az (iIm op a b) (iX op a b)):HM prog ann 19 [.ptr c.mi 0,I (50:Nat)] g (MX c az (iIm op a b) (iX op a b)) fun w ys _=>Ygx w ((iX op a b).run (iIm op a b) 50).2∧∃c' az',ys=MX c' az' (iIm op a b) ((iX op a b).run (iIm op a b) 50).1∧MV g c' az' (iIm op a b) ((iX op a b).run (iIm op a b) 50).1∧c'.mi=c.mi:=by
 have hr32:I32 r:=i32_two (Yoy _) (Yoy _) hr;have hI:=Ykw ho ha hb;have hV:=iS_ok ho ha hb hr32;refine v19C (S:=iS op a b r) (N:=4) (n:=50) (by decide) (by decide) (by decide) (iS_step ho hr) iS_fin (show(1:Int)≠0 by decide) ?_ ?_ M
 ·intro j
  match j with
  |0=>exact Nat.zero_le _
  |1=>exact Nat.zero_le _
  |2=>exact Nat.zero_le _
  |3=>exact Nat.zero_le _
  |_+4=>exact Nat.zero_le _
 ·intro j h4
  match j,h4 with
  |0,h=>exact Ymn (x:={iX op a b with steps:=0,inp:=[],out:=[],fin:=0,code:=0}) (f:=frS (iM op a b) 0 []) (i:=(1,a,0,0)) hI (hV 0 h) rfl (show(0:Int)<2^40 by decide) rfl rfl fun c z M V=>v128c (x:={iX op a b with steps:=1,inp:=[],out:=[],fin:=0,code:=0}) hI M V
  |1,h=>exact Ymn (x:={iX op a b with steps:=1,inp:=[],out:=[],fin:=0,code:=0}) (f:=frS (iM op a b) 1 [(false,Img.w32 a)]) (i:=(1,b,0,0)) hI (hV 1 h) rfl (show(1:Int)<2^40 by decide) rfl rfl fun c z M V=>v128c (x:={iX op a b with steps:=2,inp:=[],out:=[],fin:=0,code:=0}) hI M V
  |2,h=>
    refine Ymn (x:={iX op a b with steps:=2,inp:=[],out:=[],fin:=0,code:=0}) (f:=frS (iM op a b) 2 [(false,Img.w32 a),(false,Img.w32 b)]) (i:=(op,0,0,0)) hI (hV 2 h) rfl (show(2:Int)<2^40 by decide) rfl rfl fun c z M V=>?_;have h3:=ho.1;have h4:=ho.2.1;have h5:=ho.2.2.1;rw[Yqp ⟨h3,h4,h5⟩,fn_two ⟨h3,h4,h5⟩];exact v126P (x:={iX op a b with steps:=3,inp:=[],out:=[],fin:=0,code:=0}) (f:=frS (iM op a b) 2 [(false,Img.w32 a),(false,Img.w32 b)]) (i:=(op,0,0,0)) hI M V fun e=>by
     have e:two op (Img.w32 a) (Img.w32 b)=none:=e;rw[hr]at e;cases e
  |3,h=>exact Ymn (x:={iX op a b with steps:=3,inp:=[],out:=[],fin:=0,code:=0}) (f:=frS (iM op a b) 3 [(false,r)]) (i:=(61,0,0,0)) hI (hV 3 h) rfl (show(3:Int)<2^40 by decide) rfl rfl fun c z M V=>v145 (x:={iX op a b with steps:=4,inp:=[],out:=[],fin:=0,code:=0}) M V
theorem w32_id(h:I32 n):Img.w32 n=n:=by unfold I32 at h;unfold Img.w32;omega
theorem p6v(ha:I32 a)(hb:I32 b)(_hop:I64 op):HCallC prog ann 6 [I op,.int .i32 a,.int .i32 b] hp0 fun v _=>v= .bool true∧True:=by
 refine Yt rfl rfl func6 Zw rfl ?_;apply K5;refine tR ?_;apply K5;refine tR ?_;apply Xh (first:=[]) (cap:=[]) (vs:=[]) b9.call;refine tR ?_;apply K5;apply K5;refine tR ?_;refine Jc (σ:=Unit) (fun _=>[(0,I op),(1,.int .i32 a),(2,.int .i32 b)]) (fun _ h'=>h'=hp0∧Op2 op b) ?_ ?_
 ·refine tM ?_;refine oI (op<8) (fun h1=>?_) (fun h1=>?_)
  ·refine tM ?_;exact Xd (.tmp rfl .nil) rfl ⟨rfl,trivial⟩
  refine tM ?_;refine oI (19<op) (fun h2=>?_) (fun h2=>?_)
  ·refine tM ?_;exact Xd (.tmp rfl .nil) rfl ⟨rfl,trivial⟩
  refine tM ?_;refine oI (op=13) (fun h3=>?_) (fun h3=>?_)
  ·refine tM ?_;exact Xd (.tmp rfl .nil) rfl ⟨rfl,trivial⟩
  refine tM ?_;refine oI (b=0) (fun h4=>?_) (fun h4=>?_)
  ·refine tM ?_;refine oI (op=11) (fun h5=>?_) (fun h5=>?_)
   ·refine tM ?_;exact Xd (.tmp rfl .nil) rfl ⟨rfl,trivial⟩
   refine tM ?_;refine oI (op=12) (fun h6=>?_) (fun h6=>?_)
   ·refine tM ?_;exact Xd (.tmp rfl .nil) rfl ⟨rfl,trivial⟩
   refine tM ?_;exact⟨(),tU,rfl,rfl,by omega,by omega,h3,fun h=>h.2.elim h5 h6⟩
  ·refine tM ?_;exact⟨(),tU,rfl,rfl,by omega,by omega,h3,fun h=>h4 h.1⟩
 rintro _ _ ⟨rfl,ho⟩;obtain⟨r,hr0⟩:=two_some (a:=a) ho;have hr:two op (Img.w32 a) (Img.w32 b)=some r:=by rw[w32_id ha,w32_id hb];exact hr0
 have hI:=Ykw ho ha hb;obtain⟨hbd,hdec⟩:=Ypo hI ⟨(by decide:4≤31),Nat.zero_le _⟩ (by decide) (by decide);have ha':=ha;have hb':=hb;unfold I32 at ha' hb';refine tM ?_;apply Y1 (w:=I a) rfl rfl trivial (by rw[w64 (by omega) (by omega)]);refine tM ?_;apply Y1 (w:=I b) rfl rfl trivial (by rw[w64 (by omega) (by omega)]);refine tM ?_;show Yu _ _ _ _ _ _ _ _ _ (hset hp0 ([]:CL).flatten) _;refine Xf (G:=hp0) (g:=hp0) (xs:=[]) 0 trivial .refl rfl rfl rfl rfl (v17 (vl:= .tsl [I 1,I a,I 0,I 0,I 1,I b,I 0,I 0,I op,I 0,I 0,I 0,I 61,I 0,I 0,I 0] 4) rfl) ?_;rintro _ _ G1 ⟨o7,o8,o10,vc,vg,vr,vf,rfl,rfl,hR⟩ hx1 hD;have hD:Dis G1 (CdY o7 o8 o10 (.tsl [I 1,I a,I 0,I 0,I 1,I b,I 0,I 0,I op,I 0,I 0,I 0,I 61,I 0,I 0,I 0] 4)).flatten:=hD;obtain⟨G2,e2,hD2,hx2,hH⟩:=Yim [true,true,true] hD;refine o_heap e2 ?_;have h8:G2 o8=some (.cells W5c):=hH _ (.head _);have h10:G2 o10=some (.cells [.int .i32 5,.int .i32 3]):=hH _ (.tail _ (.head _));have h7:G2 o7=some (.cells [I 0,I 4,I 4,.bool false,.tsl [I 1,I a,I 0,I 0,I 1,I b,I 0,I 0,I op,I 0,I 0,I 0,I 61,I 0,I 0,I 0] 4,.nil .sl]):=hH _ (.tail _ (.tail _ (.head _)));have hIm:RImg G2 [vc,.sl o7 0 1 6,I 0,I (-1),vg,.sl o8 0 5 1,vr,.sl o10 0 2 1,vf] (iIm op a b):=img_of hR hx2 ⟨_,.sl o7 0 1 _ _ h7 rfl,.one rfl ⟨_,_,rfl,⟨_,.tsl _ 4 rfl,.cons (c:=[_,_,_,_]) rfl rfl (.cons (c:=[_,_,_,_]) rfl rfl (.cons (c:=[_,_,_,_]) rfl rfl (.one rfl rfl)))⟩,.nil⟩⟩ ⟨_,.sl o8 0 5 _ _ h8 rfl,Chunks.of_map (g:=AV.int .i32) (l:=[0,0,10,1,1])⟩ ⟨_,.sl o10 0 2 _ _ h10 rfl,Chunks.of_map (g:=AV.int .i32) (l:=[5,3])⟩ (rel_of hR hx2);have hD:Dis G2 (([]:CL)++[]).flatten:=trivial;show Yu _ _ _ _ _ _ _ _ _ (hset G2 (([]:CL)++[]).flatten) _;refine tM ?_;refine Yi6 (g:=G2) (pre:=[]) (xs:=[]) hD .refl rfl rfl rfl rfl (v11 (inp:=[]) (n:=100) (b:=0) (f:=50) (l:=[0,2]) (vi:= .nil .sl) hI hIm hbd hdec ⟨by decide,by decide⟩ (Yag 1) .nil (by decide) (fun n hn=>nomatch hn) fun _ G' c az M=>iR ho ha hb hr M) ?_;rintro w ys G3 hRun hx3 hD;have eR:(Vm.new (iIm op a b) [] (Hp.of 100 (iIm op a b).words [0,2])).run (iIm op a b) 50=(iS op a b r 4,⟨[],1,r,[]⟩):=iRun ho hr;unfold RunR at hRun;have hnl:¬(Hp.new 100).n<((iIm op a b).words.length:Int):=(by decide:¬(Hp.new 100).n<((5:Nat):Int));rw[if_neg hnl,eR]at hRun;obtain⟨t,c,az,rfl,⟨vo,rfl,ht⟩,rfl,M⟩:=hRun;have hov:=(VSl.of_T (h:=G3) ht).one;refine tM ?_;refine Jd hD rfl fun b8 hD=>?_;refine Kb (c:=[vo,I 1,.int .i32 r,.str []]) 0 hD rfl rfl rfl rfl rfl rfl rfl (by show(vo.one&&_)=true;rw[hov];rfl) fun hD=>?_;refine tM ?_;have hb8:=Yk hD (.head _);refine Ke [(b8,1,1,[I 1]),(b8,2,1,[.int .i32 r])] [.C,.C,.C,.L,.C,.C,.C,.C,.L,.C,.C,.C,.W,.C,.C,.C] (Ybs hb8 rfl (Ybs hb8 rfl .nil)) ?_;refine tD ?_;have h18:=q18 (h:=hset G3 ([(b8,AObj.cells [vo,I 1,.int .i32 r,.str []])]::MX c az (iIm op a b) (iS op a b r 4)).flatten) (op:=op) ha hb;rw[hr0]at h18;apply Ydz h18;refine tD ?_;refine Yia (w:= .bool true) rfl trivial (by simp) rfl rfl rfl ?_;refine tD ?_;refine tM ?_;exact Xd (.tmp rfl .nil) rfl ⟨rfl,trivial⟩
theorem run_of_h{A:Abs.Ann}{P:Program}{f:Nat}{vs:List AV}{Q:Ya→Prop}(h:HCallC P A f vs (fun _=>none) fun v h'=>v= .bool true∧Q h'):∃n h' n' lg,Xg P A n f vs (fun _=>none) 0=some (.bool true,h',n',lg):=by
 obtain⟨k,v,h',n',lg,e,rfl,_⟩:=h 0 (fun _ _=>rfl);exact⟨k,h',n',lg,e⟩
theorem lw_i64(h:(Lit.int .i64 n).wf=true):I64 n:=by
 simp[Lit.wf,IntKind.min,IntKind.max,IntKind.bits,IntKind.signed]at h;unfold I64;omega
theorem lw_i32(h:(Lit.int .i32 n).wf=true):I32 n:=by
 simp[Lit.wf,IntKind.min,IntKind.max,IntKind.bits,IntKind.signed]at h;unfold I32;omega
theorem law_run(ps:List AV)(h:TyVs prog 4 f6.params.toList ps):∃n h' n' lg,Xg prog ann n 6 ps (fun _=>none) 0=some (.bool true,h',n',lg):=by
 obtain⟨v1,_,rfl,h1,v2,_,rfl,h2,v3,_,rfl,h3,rfl⟩:=h;obtain⟨n1,rfl,w1⟩:=ty_int (i:= .i64) (by kernel_rfl) h1;obtain⟨n2,rfl,w2⟩:=ty_int (i:= .i32) (by kernel_rfl) h2;obtain⟨n3,rfl,w3⟩:=ty_int (i:= .i32) (by kernel_rfl) h3;exact run_of_h (p6v (lw_i32 w2) (lw_i32 w3) (lw_i64 w1))
theorem extok:ExtOK prog SlimCode.ann:=by
 intro f e h;cases h
end Go.Proofs
