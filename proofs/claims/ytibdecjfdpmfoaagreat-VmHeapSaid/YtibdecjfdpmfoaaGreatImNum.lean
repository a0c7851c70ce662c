import Derived.Test.YtibdecjfdpmfoaaGreatAbsForce
import Derived.Test.YtibdecjfdpmfoaaGreatAbsLaw
import Derived.Test.YtibdecjfdpmfoaaGreatChecked
import Derived.KernelRfl
section
open Go Go.Abs
namespace Go.Proofs.SlimCode
open List
def roL:List (List Nat):=[[],[],[],[],[],[3,19,36],[46],[],[29,43],[25],[1,62,102],[5],[1],[2,3],[],[],[],[],[],[],[38,44],[],[],[],[],[],[],[1],[52,75,84],[2],[2],[2],[2,3],[1,113,145],[],[],[],[],[],[22],[],[],[],[],[],[],[13,25,29,37],[],[1],[],[],[],[1],[],[3],[],[3],[],[],[],[],[],[],[],[],[],[2],[],[],[83],[2],[],[],[3,4,5],[],[],[35],[],[22],[20],[],[],[],[],[2,3],[],[],[],[],[],[],[],[],[],[],[23],[],[23],[],[],[23],[23],[],[23],[],[],[],[1],[1],[2],[2],[5,51],[],[],[84],[],[],[],[],[2],[],[3],[],[3],[19,26],[],[5,12,40],[5,22,43,68,91],[5,12,42,49,66,95,107],[5,11,26],[5,25],[5,19,97],[5,26,40],[5],[5],[5],[5],[5,31],[5,13,50],[5,12,55],[5,35,118],[5,14,53,62],[5,12],[5,31],[5,11,26],[5,11],[],[],[],[3],[],[59],[],[],[],[],[35],[],[60],[],[],[],[2,3],[2,3],[],[],[7],[],[23],[],[23],[],[23],[],[],[],[],[2],[],[],[],[],[2],[2],[],[2],[],[],[3],[],[3],[3,4,5],[],[],[],[],[],[],[],[],[],[5],[],[],[3],[],[],[],[8],[1],[],[46,57],[],[],[4],[],[],[],[],[],[],[],[2],[],[],[2],[],[2],[],[3],[],[],[],[],[],[],[],[2,3],[],[18,19,30],[],[2,3],[],[2,3],[],[],[],[3],[],[],[1],[2,3],[],[],[],[],[],[],[],[],[],[],[],[],[],[],[],[],[],[],[],[],[],[],[],[],[],[],[],[],[],[],[],[],[],[],[],[],[],[],[],[],[],[],[],[],[],[],[]]
def escL:List (List Nat):=[[],[],[],[],[],[],[],[],[],[],[],[],[],[],[],[],[],[],[],[],[],[],[],[],[],[],[],[11],[25],[],[],[],[],[],[],[],[],[],[],[],[],[],[],[],[],[],[],[],[],[],[],[],[],[],[],[],[],[],[],[],[],[],[],[],[],[],[],[],[],[82],[],[],[],[],[],[],[],[],[],[],[],[],[],[],[],[],[],[],[35],[],[],[],[],[],[],[],[],[],[],[],[],[],[],[],[],[],[],[],[],[],[],[3],[],[2,3,5],[1,3,5],[],[],[],[],[],[],[],[],[],[],[],[],[],[],[],[],[],[],[],[],[],[],[],[],[],[],[],[],[],[],[],[7],[],[],[],[],[],[],[],[],[],[],[],[],[],[],[],[],[],[],[],[],[],[],[],[],[],[],[],[],[],[],[],[],[],[],[],[],[],[],[],[],[],[],[],[],[],[],[],[],[],[],[],[],[],[],[],[],[],[],[],[],[],[],[],[],[],[],[],[],[],[],[],[],[],[],[],[],[],[],[],[],[],[],[],[],[],[],[],[],[],[],[],[],[],[],[],[],[],[],[],[],[],[],[],[],[],[],[],[],[],[],[],[],[],[],[],[],[],[],[],[],[],[],[],[],[],[],[],[],[],[],[],[],[],[],[],[],[],[],[],[],[],[],[],[],[],[],[],[],[],[],[],[]]
def inL (l:List (List Nat)) (f d:Nat):Bool:=(l.getD f []).contains d
def purL:List Nat:=[9,22,23,44,45,46,67,83,159,216,230,235,236,238,239,249,267]
def extL:List (Nat×EK):=[]
def stirL:List Nat:=[3,4,5,6,7,8,11,13,14,15,16,17,18,19,21,28,34,35,36,37,38,39,40,41,42,47,69,76,78,79,80,81,82,85,86,87,88,89,90,91,92,93,94,95,96,97,98,99,100,101,102,103,104,126,127,128,129,130,131,132,133,134,135,136,137,138,139,140,141,142,143,144,145,151,155,156,157,158,164,165,166,167,168,169,170,171,172,173,196,197,198,199,200,201,202,203,204,205,206,207,208,209,210,211,212,214,215]
def fzL:List Nat:=[19,36,67,76,79,156]
def ann:Ann:={esc:=inL escL,fz:=fun f=>fzL.contains f,ro:=inL roL,still:=fun f => !stirL.contains f,pure:=fun f=>purL.contains f,glob:=fun _=>none,ext:=extL}
end Go.Proofs.SlimCode
end
section
namespace Go.Abs
open List
section
variable {P:Program} {k:Nat}
theorem ty_int{t:TypeId}{i:IntKind}{a:AV}(ht:P.underlying t=some (.int i))(h:TyV P (k+1) t a):∃n,a= .int i n∧(Lit.int i n).wf=true:=by
 simp only[TyV,ht,TyC]at h;obtain⟨n,e,w⟩:=h;exact⟨n,by simpa using e,w⟩
end
end Go.Abs
namespace Go.Img
open List hiding get head
abbrev B:=List UInt8
def leb (u:Nat):B:=if u<128 then [UInt8.ofNat u] else UInt8.ofNat (u%128+128)::leb (u/128)
termination_by u
decreasing_by omega
def zz (n:Int):Nat:=if n<0 then(-2*n-1).toNat else(2*n).toNat
def unzz (u:Nat):Int:=if u%2=1 then -((u/2:Nat):Int)-1 else((u/2:Nat):Int)
def put (n:Int):B:=leb (zz n)
inductive G where
 |ok (n:Int) (k:Nat)
 |err (e:Int)
 deriving DecidableEq
def Yqf:Nat→Nat→B→G
 |_,_,[]=> .err 2
 |i,u,c::r=>if i=9∧1<c.toNat then .err 1 else
   if 127<c.toNat then Yqf (i+1) (u+c.toNat%128*2^(7*i)) r
   else if 0<i∧c.toNat=0 then .err 1 else .ok (unzz (u+c.toNat%128*2^(7*i))) (i+1)
def get (b:B):G:=Yqf 0 0 b
def I64 (n:Int):Prop:= -9223372036854775808≤n∧n≤9223372036854775807
def I32 (n:Int):Prop:= -2147483648≤n∧n≤2147483647
theorem unzz_zz(n:Int):unzz (zz n)=n:=by
 unfold unzz zz;by_cases h:n<0
 ·rw[if_pos h];rw[if_pos (by omega)];omega
 ·rw[if_neg h];rw[if_neg (by omega)];omega
theorem zz_lt{n:Int}(h:I64 n):zz n<2^64:=by
 unfold zz I64 at *;split<;>omega
theorem Yow(u:Nat):0<(leb u).length:=by
 rw[leb];split<;>simp
theorem getL_leb:∀(v i u:Nat) (r:B),v*2^(7*i)<2^64→(i=0∨v≠0)→Yqf i u (leb v++r)= .ok (unzz (u+v*2^(7*i))) (i+(leb v).length):=by
 intro v
 induction v using Nat.strongRecOn with
 |_ v ih=>
  intro i u r hlt h0;have hi:i≤9∨v=0:=by
   rcases Nat.lt_or_ge 9 i with h|h
   ·right;rcases Nat.eq_zero_or_pos v with hv|hv
    ·exact hv
    ·have:2^70≤2^(7*i):=Nat.pow_le_pow_right (by omega) (by omega);have:1*2^(7*i)≤v*2^(7*i):=Nat.mul_le_mul_right _ hv;omega
   ·exact .inl h
  have h9:i=9→v≤1:=by
   rintro rfl;have:v*2^63<2^64:=hlt;omega
  rw[leb];split
  ·rename_i hv;have e:(UInt8.ofNat v).toNat=v:=by simp;omega
   simp only[List.cons_append,List.nil_append,Yqf,e];rw[if_neg (by omega),if_neg (by omega),if_neg (by omega),Nat.mod_eq_of_lt hv];rfl
  ·rename_i hv;have e:(UInt8.ofNat (v%128+128)).toNat=v%128+128:=by simp;omega
   have hne:i≠9:=fun h=>by have:=h9 h;omega
   simp only[List.cons_append,Yqf,e];rw[if_neg (by omega),if_pos (by omega)];have hp:2^(7*(i+1))=128*2^(7*i):=by rw[Nat.mul_add,Nat.pow_add,Nat.mul_comm]
   have hsum:v*2^(7*i)=v%128*2^(7*i)+v/128*2^(7*(i+1)):=by
    rw[hp,←Nat.mul_assoc,←Nat.add_mul]
    congr 1
    omega
   rw[ih (v/128) (by omega) (i+1) _ r (by omega) (.inr (by omega))];have e2:(v%128+128)%128=v%128:=by omega
   rw[e2,hsum];simp only[List.length_cons]
   congr 1
   ·congr 1;omega
   ·omega
theorem get_put{n:Int}(h:I64 n)(r:B):get (put n++r)= .ok n (put n).length:=by
 unfold get put;have:=getL_leb (zz n) 0 0 r (by have:=zz_lt h;simpa using this) (.inl rfl);rw[this];simp[unzz_zz]
theorem getL_ok:∀(b:B) (i u:Nat) {n:Int} {k:Nat},i≤9→u<2^(7*i)→Yqf i u b= .ok n k→I64 n∧i<k∧k≤i+b.length
 |[],i,u,n,k,_,_,h=>by simp[Yqf]at h
 |c::r,i,u,n,k,hi,hu,h=>by
  have hc:c.toNat<256:=c.toNat_lt;rw[Yqf]at h;split at h
  ·cases h
  ·rename_i h1;split at h
   ·rename_i h2;have hi':i+1≤9:=by
     rcases Nat.lt_or_ge i 9 with h|h
     ·omega
     ·exact absurd ⟨by omega,by omega⟩ h1
    have hp:2^(7*(i+1))=128*2^(7*i):=by rw[Nat.mul_add,Nat.pow_add,Nat.mul_comm]
    have hm:c.toNat%128*2^(7*i)≤127*2^(7*i):=Nat.mul_le_mul_right _ (by omega);have:=getL_ok r (i+1) _ hi' (by rw[hp];omega) h;simp only[List.length_cons];exact⟨this.1,by omega,by omega⟩
   ·rename_i h2;split at h
    ·cases h
    ·simp only[G.ok.injEq]at h;obtain⟨rfl,rfl⟩:=h;refine⟨?_,by omega,by simp only[List.length_cons];omega⟩;have hlt:u+c.toNat%128*2^(7*i)<2^64:=by
      rcases Nat.lt_or_ge i 9 with h9|h9
      ·have:c.toNat%128*2^(7*i)≤127*2^(7*i):=Nat.mul_le_mul_right _ (by omega);have h63:2^(7*(i+1))≤2^63:=Nat.pow_le_pow_right (by omega) (by omega);have hp:2^(7*(i+1))=128*2^(7*i):=by rw[Nat.mul_add,Nat.pow_add,Nat.mul_comm]
       omega
      ·obtain rfl:i=9:=by omega
       have:c.toNat≤1:=by
        rcases Nat.lt_or_ge 1 c.toNat with h|h
        ·exact absurd ⟨rfl,h⟩ h1
        ·exact h
       have:c.toNat%128*2^63≤1*2^63:=Nat.mul_le_mul_right _ (by omega);have:u<2^63:=hu;show u+c.toNat%128*2^63<2^64;omega
     unfold unzz I64;split<;>omega
theorem get_ok{b:B}{n:Int}{k:Nat}(h:get b= .ok n k):I64 n∧0<k∧k≤b.length:=by
 have:=getL_ok b 0 0 (by omega) (by simp) h;exact⟨this.1,by omega,by omega⟩
abbrev Pa (α:Type):=B→Option (α×B)
def Ye6:Pa Int:=fun b=>match get b with
 |.ok n k=>some (n,b.drop k)
 |.err _=>none
def Yi3 {α β:Type} (f:α→β) (p:Pa α):Pa β:=fun b=>(p b).map fun x=>(f x.1,x.2)
def Qp {α β:Type} (p:Pa α) (f:α→Pa β):Pa β:=fun b=>match p b with
 |some (a,b)=>f a b
 |none=>none
def pPure {α:Type} (a:α):Pa α:=fun b=>some (a,b)
def Yhw:Pa Bool:=Yi3 (fun n=>decide (n≠0)) Ye6
def w32 (n:Int):Int:=(n+2147483648)%4294967296-2147483648
def Yre:Pa Int:=Yi3 w32 Ye6
def Ym4:Pa B:=fun b=>match get b with
 |.ok n k=>if n<0∨1048576<n then none else if(b.length:Int)-k<n then none else some ((b.drop k).take n.toNat,b.drop (k+n.toNat))
 |.err _=>none
def Yp1 {α:Type} (p:Pa α):Nat→Pa (List α)
 |0=>pPure []
 |k+1=>Qp p fun a=>Yi3 (a:: ·) (Yp1 p k)
def Yah {α:Type} (p:Pa α):Pa (List α):=Qp Ye6 fun n=>Yp1 p n.toNat
structure Cls where
 name:B
 super:Int
 init:Int
 array:Int
 elem:Int
 thrown:Bool
 refs:List Bool
 subs:List Int
 slots:List Int
 faces:List (Int×Int)
 deriving DecidableEq
abbrev Kr:=Int×Int×Int×Int
structure Mth where
 args:Int
 locals:Int
 stack:Int
 gives:Bool
 code:List Kr
 traps:List Kr
 deriving DecidableEq
structure Image where
 classes:List Cls
 methods:List Mth
 entry:Int
 need:Int
 given:List Int
 words:List Int
 rel:List Int
 stat:List Int
 statref:List Bool
 deriving DecidableEq
def pPair:Pa (Int×Int):=Qp Ye6 fun a=>Yi3 (fun b=>(a,b)) Ye6
def Ym5:Pa Kr:=Qp Ye6 fun a=>Qp Ye6 fun b=>Qp Ye6 fun c=>Yi3 (fun d=>(a,b,c,d)) Ye6
def pCls:Pa Cls:=Qp Ym4 fun name=>Qp Ye6 fun super=>Qp Ye6 fun init=>Qp Ye6 fun array=>Qp Ye6 fun elem=>Qp Yhw fun thrown=>
 Qp (Yah Yhw) fun refs=>Qp (Yah Ye6) fun subs=>Qp (Yah Ye6) fun slots=>Yi3 (fun faces=>⟨name,super,init,array,elem,thrown,refs,subs,slots,faces⟩) (Yah pPair)
def pMth:Pa Mth:=Qp Ye6 fun args=>Qp Ye6 fun locals=>Qp Ye6 fun stack=>Qp Yhw fun gives=>Qp (Yah Ym5) fun code=>Yi3 (fun traps=>⟨args,locals,stack,gives,code,traps⟩) (Yah Ym5)
def Yhx:Pa Image:=Qp (Yah pCls) fun classes=>Qp (Yah pMth) fun methods=>Qp Ye6 fun entry=>Qp Ye6 fun need=>
 Qp (Yah Ye6) fun given=>Qp (Yah Yre) fun words=>Qp (Yah Ye6) fun rel=>Qp (Yah Yre) fun stat=>Yi3 (fun statref=>⟨classes,methods,entry,need,given,words,rel,stat,statref⟩) (Yah Yhw)
def Jy (t:Bool):B:=put (if t then 1 else 0)
def Yao (s:B):B:=put s.length++s
def Y4 {α:Type} (e:α→B) (l:List α):B:=put l.length++l.flatMap e
def Yfx (p:Int×Int):B:=put p.1++put p.2
def Ybu (p:Kr):B:=put p.1++(put p.2.1++(put p.2.2.1++put p.2.2.2))
def Ykz (c:Cls):B:=Yao c.name++(put c.super++(put c.init++(put c.array++(put c.elem++(Jy c.thrown++(Y4 Jy c.refs++(Y4 put c.subs++(Y4 put c.slots++Y4 Yfx c.faces))))))))
def Yqm (m:Mth):B:=put m.args++(put m.locals++(put m.stack++(Jy m.gives++(Y4 Ybu m.code++Y4 Ybu m.traps))))
def body (m:Image):B:=Y4 Ykz m.classes++(Y4 Yqm m.methods++(put m.entry++(put m.need++(Y4 put m.given++(Y4 put m.words++(Y4 put m.rel++(Y4 put m.stat++Y4 Jy m.statref)))))))
def RT {α:Type} (p:Pa α) (e:α→B) (a:α):Prop:=∀r,p (e a++r)=some (a,r)
theorem Kp{n:Int}(h:I64 n):RT Ye6 put n:=by
 intro r;unfold Ye6;rw[get_put h];simp
theorem Yie(t:Bool):RT Yhw Jy t:=by
 intro r;have:=Kp (n:=if t then 1 else 0) (by unfold I64;split<;>omega) r;unfold Yhw Yi3 Jy;rw[this];cases t<;>rfl
theorem rt_word{n:Int}(h:I32 n):RT Yre put n:=by
 intro r;have:=Kp (n:=n) (by unfold I32 at h;unfold I64;omega) r;unfold Yre Yi3;rw[this];simp only[Option.map_some,Option.some.injEq,Prod.mk.injEq,and_true];unfold w32 I32 at *;omega
theorem rt_text{s:B}(h:s.length≤1048576):RT Ym4 Yao s:=by
 intro r;unfold Ym4 Yao;rw[append_assoc,get_put (by unfold I64;omega)];simp only;rw[if_neg (by omega),if_neg (by simp only[length_append];omega)];have e:(put s.length++(s++r)).drop (put s.length).length=s++r:=by simp
 rw[e,←drop_drop,e];simp
theorem rt_rep{α:Type}{p:Pa α}{e:α→B}:∀{l:List α},(∀a∈l,RT p e a)→∀r,Yp1 p l.length (l.flatMap e++r)=some (l,r)
 |[],_,r=>rfl
 |a::l,h,r=>by
  show Qp p (fun a=>Yi3 (a:: ·) (Yp1 p l.length)) (((a::l).flatMap e)++r)=_;rw[flatMap_cons,append_assoc];unfold Qp;rw[h a (by simp) _];simp only;unfold Yi3;rw[rt_rep (fun b hb=>h b (by simp[hb])) r];rfl
theorem J1{α:Type}{p:Pa α}{e:α→B}{l:List α}(hl:l.length≤9223372036854775807)(h:∀a∈l,RT p e a):RT (Yah p) (Y4 e) l:=by
 intro r;unfold Yah Y4 Qp;rw[List.append_assoc,Kp (n:=l.length) (by unfold I64;omega)];simp only[Int.toNat_natCast];exact rt_rep h r
def Len {α:Type} (l:List α):Prop:=l.length≤9223372036854775807
structure Cls.WF (c:Cls):Prop where
 name:c.name.length≤1048576
 super:I64 c.super
 init:I64 c.init
 array:I64 c.array
 elem:I64 c.elem
 refs:Len c.refs
 subs:Len c.subs∧∀n∈c.subs,I64 n
 slots:Len c.slots∧∀n∈c.slots,I64 n
 faces:Len c.faces∧∀p∈c.faces,I64 p.1∧I64 p.2
def F64 (p:Kr):Prop:=I64 p.1∧I64 p.2.1∧I64 p.2.2.1∧I64 p.2.2.2
structure Mth.WF (m:Mth):Prop where
 args:I64 m.args
 locals:I64 m.locals
 stack:I64 m.stack
 code:Len m.code∧∀p∈m.code,F64 p
 traps:Len m.traps∧∀p∈m.traps,F64 p
structure Image.WF (m:Image):Prop where
 classes:Len m.classes∧∀c∈m.classes,c.WF
 methods:Len m.methods∧∀c∈m.methods,c.WF
 entry:I64 m.entry
 need:I64 m.need
 given:Len m.given∧∀n∈m.given,I64 n
 words:Len m.words∧∀n∈m.words,I32 n
 rel:Len m.rel∧∀n∈m.rel,I64 n
 stat:Len m.stat∧∀n∈m.stat,I32 n
 statref:Len m.statref
theorem pb{α β:Type}{p:Pa α}{e:α→B}{a:α}{f:α→Pa β}{x:B}{y:Option (β×B)}(h:RT p e a)(k:f a x=y):Qp p f (e a++x)=y:=by
 unfold Qp;rw[h];exact k
theorem pm{α β:Type}{p:Pa α}{e:α→B}{a:α}{f:α→β}(h:RT p e a)(r:B):Yi3 f p (e a++r)=some (f a,r):=by
 unfold Yi3;rw[h];rfl
theorem rt_pair{p:Int×Int}(h:I64 p.1∧I64 p.2):RT pPair Yfx p:=by
 intro r;unfold pPair Yfx;rw[append_assoc];exact pb (Kp h.1) (pm (Kp h.2) r)
theorem rt_four{p:Kr}(h:F64 p):RT Ym5 Ybu p:=by
 intro r;unfold Ym5 Ybu;simp only[append_assoc];exact pb (Kp h.1) (pb (Kp h.2.1) (pb (Kp h.2.2.1) (pm (Kp h.2.2.2) r)))
theorem rt_cls{c:Cls}(h:c.WF):RT pCls Ykz c:=by
 intro r;unfold pCls Ykz;simp only[append_assoc];exact pb (rt_text h.name) (pb (Kp h.super) (pb (Kp h.init) (pb (Kp h.array) (pb (Kp h.elem) (pb (Yie _) (pb (J1 h.refs fun t _=>Yie t)
  (pb (J1 h.subs.1 fun n hn=>Kp (h.subs.2 n hn)) (pb (J1 h.slots.1 fun n hn=>Kp (h.slots.2 n hn)) (pm (J1 h.faces.1 fun n hn=>rt_pair (h.faces.2 n hn)) r)))))))))
theorem rt_mth{m:Mth}(h:m.WF):RT pMth Yqm m:=by
 intro r;unfold pMth Yqm;simp only[append_assoc];exact pb (Kp h.args) (pb (Kp h.locals) (pb (Kp h.stack) (pb (Yie _) (pb (J1 h.code.1 fun n hn=>rt_four (h.code.2 n hn)) (pm (J1 h.traps.1 fun n hn=>rt_four (h.traps.2 n hn)) r)))))
theorem rt_image{m:Image}(h:m.WF):RT Yhx body m:=by
 intro r;unfold Yhx body;simp only[append_assoc];exact pb (J1 h.classes.1 fun n hn=>rt_cls (h.classes.2 n hn)) (pb (J1 h.methods.1 fun n hn=>rt_mth (h.methods.2 n hn)) (pb (Kp h.entry) (pb (Kp h.need)
  (pb (J1 h.given.1 fun n hn=>Kp (h.given.2 n hn)) (pb (J1 h.words.1 fun n hn=>rt_word (h.words.2 n hn)) (pb (J1 h.rel.1 fun n hn=>Kp (h.rel.2 n hn))
   (pb (J1 h.stat.1 fun n hn=>rt_word (h.stat.2 n hn)) (pm (J1 h.statref fun t _=>Yie t) r))))))))
open Go.Abs
abbrev I (n:Int):AV:= .int .i64 n
def RPair:Ya→List AV→Int×Int→Prop:=fun _ c p=>c=[I p.1,I p.2]
def RFour:Ya→List AV→Kr→Prop:=fun _ c p=>c=[I p.1,I p.2.1,I p.2.2.1,I p.2.2.2]
def RCls:Ya→List AV→Cls→Prop:=fun h c x=>∃vr vs vt vf,c=[.str x.name,I x.super,I x.init,vr,vs,vt,vf,I x.array,I x.elem,.bool x.thrown] ∧
 Sl RB 1 h vr x.refs∧Sl (RN .i64) 1 h vs x.subs∧Sl (RN .i64) 1 h vt x.slots∧Sl RPair 2 h vf x.faces
def RMth:Ya→List AV→Mth→Prop:=fun h c m=>∃vc vt,c=[I m.args,I m.locals,I m.stack,.bool m.gives,vc,vt]∧Sl RFour 4 h vc m.code∧Sl RFour 4 h vt m.traps
def RImg:Ya→List AV→Image→Prop:=fun h c m=>∃vc vm vg vw vr vs vf,c=[vc,vm,I m.entry,I m.need,vg,vw,vr,vs,vf] ∧
 Sl RCls 10 h vc m.classes∧Sl RMth 6 h vm m.methods∧Sl (RN .i64) 1 h vg m.given∧Sl (RN .i32) 1 h vw m.words∧Sl (RN .i64) 1 h vr m.rel∧Sl (RN .i32) 1 h vs m.stat∧Sl RB 1 h vf m.statref
theorem RPair.mono:Yqy RPair:=fun _ _ _ _ _ h=>h
theorem RFour.mono:Yqy RFour:=fun _ _ _ _ _ h=>h
theorem RCls.mono:Yqy RCls:=by
 rintro h h' c x e ⟨vr,vs,vt,vf,hc,h1,h2,h3,h4⟩;exact⟨vr,vs,vt,vf,hc,h1.mono RB.mono e,h2.mono RN.mono e,h3.mono RN.mono e,h4.mono RPair.mono e⟩
theorem RMth.mono:Yqy RMth:=by
 rintro h h' c x e ⟨vc,vt,hc,h1,h2⟩;exact⟨vc,vt,hc,h1.mono RFour.mono e,h2.mono RFour.mono e⟩
theorem RImg.mono:Yqy RImg:=by
 rintro h h' c x e ⟨vc,vm,vg,vw,vr,vs,vf,hc,h1,h2,h3,h4,h5,h6,h7⟩;exact⟨vc,vm,vg,vw,vr,vs,vf,hc,h1.mono RCls.mono e,h2.mono RMth.mono e,h3.mono RN.mono e,h4.mono RN.mono e,h5.mono RN.mono e,h6.mono RN.mono e,h7.mono RB.mono e⟩
theorem RCls.one{h:Ya}{c:List AV}{p:Cls}(H:RCls h c p):c.all AV.one=true:=by
 obtain⟨_,_,_,_,rfl,h1,h2,h3,h4⟩:=H;simp only[all_cons,h1.one,h2.one,h3.one,h4.one];rfl
theorem RMth.one{h:Ya}{c:List AV}{p:Mth}(H:RMth h c p):c.all AV.one=true:=by
 obtain⟨_,_,rfl,h1,h2⟩:=H;simp only[all_cons,h1.one,h2.one];rfl
theorem RImg.one{h:Ya}{c:List AV}{p:Image}(H:RImg h c p):c.all AV.one=true:=by
 obtain⟨_,_,_,_,_,_,_,rfl,h1,h2,h3,h4,h5,h6,h7⟩:=H;simp only[all_cons,h1.one,h2.one,h3.one,h4.one,h5.one,h6.one,h7.one];rfl
open Go.Abs
structure Wr (hb:Ya) (w:Nat) (bs:B) (h:Ya):Prop where
 ext:Ext hb h
 fresh:hb w=none
 st:∃v,h w=some (.cells [v])∧((v= .nil .sl∧bs=[])∨∃i,v= .sl i 0 bs.length 1∧i≠w∧hb i=none∧h i=some (.cells (ubs bs)))
theorem Wr.start{hb:Ya}{w:Nat}(hw:hb w=none):Wr hb w [] (upd hb w (some (.cells [.nil .sl]))):=⟨.upd hw,hw,_,upd_same,.inl ⟨rfl,rfl⟩⟩
theorem Wr.own{hb h:Ya}{w:Nat}{bs:B}(H:Wr hb w bs h):∃v,h w=some (.cells [v])∧OSl (upd hb w (some (.cells [v]))) 1 v (ubs bs) bs.length h:=by
 obtain⟨v,h1,h2⟩:=H.st;refine⟨v,h1,fun id o e=>?_,?_⟩
 ·unfold upd at e;split at e
  ·rename_i hid;rw[hid,h1,e]
  ·exact H.ext id o e
 ·rcases h2 with ⟨rfl,rfl⟩|⟨i,rfl,g1,g2,g3⟩
  ·exact .inl ⟨rfl,rfl,rfl⟩
  ·exact .inr ⟨i,rfl,by rw[Ys g1];exact g2,g3,by simp[ubs]⟩
theorem Wr.put{hb h:Ya}{w:Nat}{bs:B}{v v':AV}(hw:hb w=none)(H:OSl (upd hb w (some (.cells [v]))) 1 v' (ubs bs) bs.length h):h w=some (.cells [v])∧Wr hb w bs (upd h w (some (.cells [v']))):=by
 have hx:Ext hb (upd hb w (some (.cells [v]))):= .upd hw;refine⟨H.ext w _ upd_same,?_,hw,v',upd_same,?_⟩
 ·intro id o e;rw[Ys (fun hid=>by rw[hid,hw]at e;cases e)];exact H.ext id o (hx id o e)
 ·rcases H.own with ⟨rfl,h1,_⟩|⟨i,rfl,h1,h2,_⟩
  ·exact .inl ⟨rfl,by simpa[ubs]using h1⟩
  ·have hiw:i≠w:=by
    rintro rfl;rw[upd_same]at h1;cases h1
   rw[Ys hiw]at h1;exact .inr ⟨i,rfl,hiw,h1,by rw[Ys hiw];exact h2⟩
theorem Wr.changed{hb h h':Ya}{w:Nat}{bs e:B}(H:Wr hb w bs h)(H':Wr hb w (bs++e) h')(he:e≠[]):h w≠none∧h' w≠h w:=by
 obtain⟨v,h1,h2⟩:=H.st;obtain⟨v',h1',h2'⟩:=H'.st;have hpos:=length_pos_iff.mpr he;refine⟨by rw[h1];simp,?_⟩;rw[h1,h1'];intro hv;simp only[Zs,AObj.cells.injEq,List.cons.injEq,and_true]at hv;subst hv;rcases h2' with ⟨rfl,h3⟩|⟨i,rfl,_⟩
 ·simp at h3;exact he h3.2
 ·rcases h2 with ⟨h3,_⟩|⟨j,h3,_⟩
  ·cases h3
  ·simp only[AV.sl.injEq,length_append]at h3;omega
theorem Wr.live{g h:Ya}{w:Nat}{bs:B}(H:Wr g w bs h):h w≠none:=by
 obtain⟨v,h1,_⟩:=H.st;rw[h1];simp
theorem Wr.box{g h:Ya}{w b:Nat}{bs:B}{o:AObj}(H:Wr g w bs h)(hb:h b=none):Wr (upd g b (some o)) w bs (upd h b (some o)):=by
 have hw:w≠b:=fun e=>H.live (by rw[e,hb]);refine⟨fun id o' e=>?_,by rw[Ys hw];exact H.fresh,?_⟩
 ·unfold upd at e ⊢;split
  ·rename_i hid;rw[if_pos hid]at e;exact e
  ·rename_i hid;rw[if_neg hid]at e;exact H.ext id o' e
 ·obtain⟨v,h1,h2⟩:=H.st;refine⟨v,by rw[Ys hw];exact h1,?_⟩;rcases h2 with h2|⟨i,e,g1,g2,g3⟩
  ·exact .inl h2
  ·have hib:i≠b:=fun e=>by rw[e,hb]at g3;cases g3
   exact .inr ⟨i,e,g1,by rw[Ys hib];exact g2,by rw[Ys hib];exact g3⟩
theorem Wr.kill{g g' h:Ya}{w:Nat}{bs:B}{bx:List Nat}(H:Wr g' w bs h)(hx:Ext g g')(hb:∀b∈bx,g' b≠none∧g b=none):Wr g w bs (Yv bx h):=by
 have out:∀id,g' id=none→Yv bx h id=h id:=fun id hid=>by
  unfold Yv;rw[if_neg];intro hc;exact(hb id (by simpa using hc)).1 hid
 have none':∀id,g' id=none→g id=none:=fun id hid=>by
  cases e:g id with
  |none=>rfl
  |some o=>rw[hx id o e]at hid;cases hid
 refine⟨(hx.trans H.ext).kill fun i hi=>(hb i hi).2,none' w H.fresh,?_⟩;obtain⟨v,h1,h2⟩:=H.st;refine⟨v,by rw[out w H.fresh];exact h1,?_⟩;rcases h2 with h2|⟨i,e,g1,g2,g3⟩
 ·exact .inl h2
 ·exact .inr ⟨i,e,g1,none' i g2,by rw[out i g2];exact g3⟩
theorem Wr.base{g g' h:Ya}{w:Nat}{bs:B}(H:Wr g' w bs h)(hx:Ext g g'):Wr g w bs h:=by
 have:=H.kill (bx:=[]) hx (by simp);rwa[Yl]at this
def Kd (P:Program) (A:Ann) (f:Nat) (vs:List AV) (w:Nat) (e:B) (g:Ya):Prop:=∀bs h,Wr g w bs h→(bs++e).length≤1099511627776→HCallC P A f vs h fun v h'=>v= .tup []∧Wr g w (bs++e) h'
theorem Jw(n:Int):put n≠[]:=by
 have:=Yow (zz n);intro h;unfold put at h;rw[h]at this;simp at this
def poly:Nat:=0xedb88320
def TN (s:Nat):Nat:=(s/2) ^^^ (if s%2=1 then poly else 0)
def TI:Nat→Nat→Nat
 |0,s=>s
 |k+1,s=>TI k (TN s)
theorem TI_add:∀(j k s:Nat),TI (j+k) s=TI k (TI j s)
 |0,k,s=>by simp[TI]
 |j+1,k,s=>by
  have:j+1+k=(j+k)+1:=by omega
  rw[this];exact TI_add j k (TN s)
theorem TN_lt{s:Nat}(h:s<2^32):TN s<2^32:=by
 unfold TN;refine Nat.xor_lt_two_pow (by omega) ?_;split<;>decide
theorem TI_lt:∀{k s:Nat},s<2^32→TI k s<2^32
 |0,_,h=>h
 |k+1,_,h=>TI_lt (k:=k) (TN_lt h)
def RS (s:Nat) (bs:B):Nat:=bs.foldl (fun s c=>TI 8 (s ^^^ c.toNat)) s
def crc (bs:B):Nat:=RS 4294967295 bs ^^^ 4294967295
theorem RS_append(s:Nat)(a b:B):RS s (a++b)=RS (RS s a) b:=by
 unfold RS;rw[foldl_append]
theorem RS_lt:∀{bs:B} {s:Nat},s<2^32→RS s bs<2^32
 |[],_,h=>h
 |c::bs,s,h=>RS_lt (bs:=bs) (TI_lt (Nat.xor_lt_two_pow h (Nat.lt_of_lt_of_le c.toNat_lt (by decide))))
theorem crc_lt(bs:B):crc bs<2^32:=Nat.xor_lt_two_pow (RS_lt (by decide)) (by decide)
def Ynx (n:Nat):B:=[UInt8.ofNat (n/16777216),UInt8.ofNat (n/65536),UInt8.ofNat (n/256),UInt8.ofNat n]
theorem Yqi(n:Nat):(Ynx n).length=4:=rfl
def sealed (x:B):B:=x++(Ynx (crc x)).reverse
def head:B:=[68,65,71,85]
def Yfi (m:Image):B:=head++(Ynx (4+4+(body m).length+4)++body m)
def Qy (m:Image):B:=sealed (Yfi m)
def size (m:Image):Nat:=12+(body m).length
theorem Yen(m:Image):(Yfi m).length=8+(body m).length:=by
 simp only[Yfi,head,length_append,Yqi,length_cons,length_nil];omega
theorem Ya9(m:Image):(Qy m).length=size m:=by
 simp only[Qy,sealed,length_append,length_reverse,Yqi,Yen,size];omega
def Yj4 (b:B):B:=(b.take (b.length-4)).drop 8
theorem Ynp(m:Image):Yj4 (Qy m)=body m:=by
 unfold Yj4;rw[Ya9];have:(Qy m).take (size m-4)=Yfi m:=by
  unfold Qy sealed;rw[take_append_of_le_length (by rw[Yen];unfold size;omega)];exact Zk (by rw[Yen];unfold size;omega)
 rw[this];rfl
def decode (b:B):Option Image:=if b.length<12∨1048576<b.length then none else match Yhx (Yj4 b) with
 |some (m,_)=>if size m≤1048576∧Qy m=b then some m else none
 |none=>none
theorem Ydo{m:Image}(h:m.WF)(hs:size m≤1048576):decode (Qy m)=some m:=by
 unfold decode;rw[if_neg (by rw[Ya9];unfold size at *;omega),Ynp];have:=rt_image h [];rw[append_nil]at this;rw[this];simp[hs]
theorem Yo4{b:B}{m:Image}(h:decode b=some m):Qy m=b∧size m≤1048576:=by
 unfold decode at h;split at h
 ·cases h
 ·split at h
  ·split at h
   ·rename_i hc;simp only[Zs]at h;subst h;exact⟨hc.2,hc.1⟩
   ·cases h
  ·cases h
end Go.Img
end
section
open Go Go.Abs Go.Proofs.SlimCode Go.Img
set_option maxRecDepth 100000
namespace Go.Proofs
open List
open Go.Proofs.Tryz
variable {v:AV} {n:Int}
theorem leb_len:∀(k u:Nat),u<128^(k+1)→(leb u).length≤k+1
 |0,u,h=>by
  rw[leb,if_pos (by simpa using h)];simp
 |k+1,u,h=>by
  rw[leb];split
  ·simp
  ·simp only[length_cons];have:=leb_len k (u/128) (by rw[Nat.pow_succ]at h;omega);omega
theorem X1(h:I64 n):(put n).length≤10:=leb_len 9 _ (Nat.lt_of_lt_of_le (zz_lt h) (by decide))
theorem notree{hb h:Ya}{s n:Nat}{cs:List AV}(H:OSl hb s v cs n h)(h0:0<n):v.tree=false:=by
 rcases H.own with ⟨_,_,rfl⟩|⟨i,rfl,_⟩
 ·omega
 ·rfl
theorem shl1(_h:I64 n):AV.int .u64 (IntKind.wrap .u64 (IntKind.wrap .u64 n*2^(min (1:Int).toNat (IntKind.bits .u64))))= .int .u64 ((2*n)%18446744073709551616):=by
 simp[IntKind.wrap,IntKind.bits,IntKind.signed];omega
theorem xor64(m:Nat)(h:m<18446744073709551616):IntKind.wrap .u64 ((BitVec.ofInt 64 18446744073709551615 ^^^ BitVec.ofInt 64 (m:Int)).toNat)=((18446744073709551615-m:Nat):Int):=by
 have e:(BitVec.ofInt 64 18446744073709551615 ^^^ BitVec.ofInt 64 (m:Int)) = ~~~ (BitVec.ofNat 64 m):=by
  have e1:BitVec.ofInt 64 (18446744073709551615:Int)=BitVec.allOnes 64:=by decide
  have e2:BitVec.ofInt 64 (m:Int)=BitVec.ofNat 64 m:=by rw[BitVec.ofInt_natCast]
  rw[e1,e2,BitVec.allOnes_xor]
 rw[e,BitVec.toNat_not,BitVec.toNat_ofNat];simp only[IntKind.wrap,IntKind.bits,IntKind.signed];simp;omega
theorem or128(u:Nat):AV.int .u8 (IntKind.wrap .u8 ((BitVec.ofInt (IntKind.bits .u8) (IntKind.wrap .u8 (u:Int)) ||| BitVec.ofInt (IntKind.bits .u8) 128).toNat))=ub (UInt8.ofNat (u%128+128)):=by
 have e:IntKind.wrap .u8 (u:Int)=((u%256:Nat):Int):=by
  simp[IntKind.wrap,IntKind.bits,IntKind.signed]
 rw[e];have key:∀a:Nat,a<256→IntKind.wrap .u8 ((BitVec.ofInt 8 (a:Int) ||| BitVec.ofInt 8 128).toNat)=((a%128+128:Nat):Int):=by decide +kernel
 show AV.int .u8 (IntKind.wrap .u8 ((BitVec.ofInt 8 ((u%256:Nat):Int) ||| BitVec.ofInt 8 128).toNat))=_;rw[key _ (Nat.mod_lt _ (by decide))];simp[ub];omega
theorem p102{g h:Ya}{bs:B}(H:OSl g 1 v (ubs bs) bs.length h)(hn:I64 n)(hl:bs.length≤1099511627776) :
  HCallC prog ann 124 [v,I n] h fun v' h'=>OSl g 1 v' (ubs (bs++put n)) (bs++put n).length h':=by
 refine Yz rfl func124 Zw rfl ?_;refine tW ?_;apply Yq rfl rfl (show(0:Int)≤1 by decide);rw[shl1 hn];refine tw ?_
 ((with_reducible apply X8);(with_reducible apply X0))
 apply Jc (σ:=Unit) (fun _=>[(0,v),(5,.int .u64 (zz n:Int))]) (fun _ h'=>h'=h)
 ·refine tW ?_
  (refine tG ?_;refine oB fun b hb=>?_)
  cases b
  ·refine tW ?_;refine⟨(),Ka rfl (Ka ?_ Yg4),rfl,rfl⟩;have:(2*n)%18446744073709551616=(zz n:Int):=by
    unfold zz I64 at *;simp at hb;rw[if_neg (by omega)];omega
   rw[this];rfl
  ·refine tW ?_;refine⟨(),Ka rfl (Ka ?_ Yg4),rfl,rfl⟩;have e:(2*n)%18446744073709551616=(((2*n)%18446744073709551616).toNat:Int):=by omega
   rw[e];show some (AV.int .u64 (IntKind.wrap .u64 ((BitVec.ofInt 64 18446744073709551615 ^^^ BitVec.ofInt 64 _).toNat)))=_;rw[xor64 _ (by omega)];have:(18446744073709551615-((2*n)%18446744073709551616).toNat:Nat)=zz n:=by
    unfold zz I64 at *;simp at hb;rw[if_pos hb];omega
   rw[this]
 rintro _ h' rfl;refine tS ?_;refine Xv (fun s:AV×Nat×B=>[(0,s.1),(5,.int .u64 (s.2.1:Int))]) (fun s h'=>OSl g 1 s.1 (ubs s.2.2) s.2.2.length h'∧s.2.2++leb s.2.1=bs++put n) (fun s=>s.2.1) (v,zz n,bs)
  tU ⟨H,rfl⟩ ?_
 rintro⟨v,u,cs⟩ h' ⟨H,he⟩;simp only at H he ⊢;have hlen:cs.length+(leb u).length≤bs.length+10:=by
  have:=congrArg List.length he;rw[length_append,length_append]at this;have:=X1 hn;omega
 refine tW ?_
 (refine tG ?_;refine oB fun b hb=>?_)
 cases b
 ·have hu:u<128:=by simp at hb;omega
  refine tV ?_
  (refine tG ?_;(with_reducible apply o_cvN (a:=u));exact rfl;exact rfl;exact wu8 (by omega) (by omega))
  apply Yq rfl rfl (show(1=1*1∧_) from⟨rfl,rfl⟩);have e1:leb u=[UInt8.ofNat u]:=by rw[leb,if_pos hu]
  have e2:AV.int .u8 (u:Int)=ub (UInt8.ofNat u):=by
   simp[ub];omega
  rw[e2];apply Yfm (new:=ubs [UInt8.ofNat u]) rfl rfl rfl rfl H rfl rfl rfl (by simp;omega);intro v2 h2 H2 _;have H3:OSl g 1 v2 (ubs (bs++put n)) (bs++put n).length h2:=by
   rw[←he,e1];simpa[ubs]using H2
  refine tW ?_
  (first|apply X7|apply Xx)
  ·exact rfl
  ·exact rfl
  ·show OSl g 1 v2 _ _ (Yv [] h2);rw[Yl];exact H3
  ·intro ht;have:=notree H3 (by simp only[length_append];have:=Yow (zz n);unfold put;omega);rw[show Yx [v2]=v2 from rfl,this]at ht;cases ht
 ·have hu:¬u<128:=by simp at hb;omega
  refine tV ?_;refine tw ?_;apply Y1 rfl rfl trivial (or128 u);apply Yq rfl rfl (show(1=1*1∧_) from⟨rfl,rfl⟩);apply Yfm (new:=ubs [UInt8.ofNat (u%128+128)]) rfl rfl rfl rfl H rfl rfl rfl (by simp;omega);intro v2 h2 H2 _;refine tW ?_
  (refine tG ?_;(with_reducible apply Ykl (a:=u) (b:=7));exact rfl;exact rfl;exact rfl;(decide))
  refine tW ?_;have e1:leb u=UInt8.ofNat (u%128+128)::leb (u/128):=by rw[leb,if_neg hu]
  refine⟨(v2,u/128,cs++[UInt8.ofNat (u%128+128)]),by simp only;omega,tU,rfl,?_,?_⟩
  ·simpa[ubs]using H2
  ·rw[←he,e1];simp
end Go.Proofs
end
