import Derived.Test.YtibdecjfdpmfoaaGreatAbsOpsH
import Derived.Laws.Externs
open Go.RowKit (Below)
namespace Go.Abs
open List hiding Mem append cons map nil
variable {v x:AV} {vs:List Value} {id:Nat} {S:Sem Next} {α:Type}
section
variable {P:Program} {B:Nat} {w0:Anchor} {w:World} {μ:Mu} {M:Mem} {h h':Ya} {n n':Nat} {lg:Log}
theorem Jq{x:Option α}{y:α}(hx:x=none)(e:x=some y):False:=by rw[hx]at e;cases e
theorem Step1.value{cv:Value}(sr:SR B w0 μ M h w)(hr:VR μ M v cv)(e:S.run P w= .ok (.value cv) w):Step1 P B w0 μ M n n h w v S:=
 ⟨μ,w,_,cv,e,.inl rfl,sr,.refl _,fun _ _=>rfl,hr⟩
theorem VR.undef{μ:Mu}{M:Mem}:VR μ M .undef undef:= .tup [] #[] rfl (by simp)
theorem Step1.skip{w':World}(sr:SR B w0 μ M h' w')(e:S.run P w= .ok .skip w'):Step1 P B w0 μ M n n h' w .undef S:=
 ⟨μ,w',_,undef,e,.inr ⟨rfl,rfl⟩,sr,.refl _,fun _ _=>rfl,.undef⟩
theorem vrs_arr{cs:List AV}{a:Array Operand}{f:Operand→Value}(hv:VRs μ M cs (a.toList.map f)):VRs μ M cs (a.map f).toList:=by simpa using hv
theorem two_of{y:AV}(hv:VRs μ M [x,y] vs):∃xv yv,vs=[xv,yv]∧VR μ M x xv∧VR μ M y yv:=by
 have:=hv.1
 match vs,this with
 |[a,b],_=>exact⟨a,b,rfl,hv.2 0 x a rfl rfl,hv.2 1 y b rfl rfl⟩
theorem one_of(hv:VRs μ M [x] vs):∃xv,vs=[xv]∧VR μ M x xv:=by
 have:=hv.1
 match vs,this with
 |[a],_=>exact⟨a,rfl,hv.2 0 x a rfl rfl⟩
theorem noIface{P:Program}{t:TypeId}(h:¬Yhj P t=true):∃d,P.underlying t=some d∧∀ms,d≠ .interface ms:=by
 unfold Yhj at h;split at h
 ·exact absurd rfl h
 ·rename_i d hn hd;exact⟨d,hd,fun ms e=>hn ms e⟩
 ·exact absurd rfl h
theorem Yrz(sr:SR B w0 μ M h w){ts:Array TypeId}{ty:TypeId}{xv:Value}(hx:VR μ M x xv)
  (ex:Yn5 P ts.toList x h n=some (v,h',n',lg)):n'=n∧v= .undef∧∃cv w',(Builtin.clear_ ts ty #[xv]).run P w= .ok cv w'∧SR B w0 μ M h' w'∧VR μ M v cv:=by
 obtain⟨tl,rfl⟩:∃tl:List TypeId,ts=tl.toArray:=⟨ts.toList,by simp⟩;simp only at ex;unfold Yn5 at ex;split at ex
 ·rename_i x0 t tl id off len sz;obtain⟨e,_,_,_,_,e1,f1,_⟩:=bind_some ex;obtain⟨he,rfl,rfl⟩:=Ye e1;obtain⟨s,_,_,_,_,e2,f2,_⟩:=bind_some f1;obtain⟨hs,rfl,rfl⟩:=Ye e2;obtain⟨z,_,_,_,_,e3,f3,_⟩:=bind_some f2;obtain⟨hz,rfl,rfl⟩:=Ye e3;split at f3
  ·rename_i hc;obtain⟨rfl,hpos,hzl⟩:=hc;cases hx with
   |sl _ _ _ _ cap rg a hr hlc hcap=>
    split at f3
    ·rename_i h0;subst h0;obtain⟨rfl,rfl,rfl⟩:=Yh f3;refine⟨rfl,rfl,.tuple #[],w,?_,sr,.undef⟩;simp[Builtin.clear_,run_underlying (Ydn he)]
    ·rename_i h0;obtain⟨u,_,_,_,_,e4,f4,_⟩:=bind_some f3;obtain⟨rfl,rfl,rfl⟩:=Yh f4;obtain⟨zv,hzr,hzo,_⟩:=K9 hz;have hzv:=Ycl (μ:=μ) (M:=M) hzo;have hzs:zv.cells.size=s:=by have:=hzv.cells.1;simp at this;omega
     have hzz:=Yf2 hzv (by omega) (len*s);obtain⟨rfl,b,o,w',hpv,hrun,hsr⟩:=Yd6 (P:=P) sr (.ptr id off rg hr) hzz e4;simp only[Value.pointer.injEq,Zs,Addr.mk.injEq,and_true]at hpv;obtain⟨rfl,rfl⟩:=hpv;obtain⟨rfl,_⟩:=hcap (by omega);refine⟨rfl,rfl,.tuple #[],w',?_,hsr,.undef⟩;have hzc:(Builtin.zeroCells zv.cells len).toList=((Array.range (len*s)).map fun i=>zv.cells[i%zv.cells.size]!).toList:=by
      unfold Builtin.zeroCells;rw[hzs]
     cases len with
     |zero=>exact absurd rfl h0
     |succ m=>
      rw[hzc.symm]at hrun;simp[Builtin.clear_,run_underlying (Ydn he),hzr,hrun]
  ·exact(Yc f3).elim
 ·exact(Yc ex).elim
theorem idxL_eq(c:Nat):∀(l pre:List UInt8),idxL c l pre.length=(match((List.range' pre.length l.length).find? fun i=>((pre++l).getD i 0).toNat==c) with|some i=>(i:Int)|none=> -1)
 |[],pre=>rfl
 |b::l,pre=>by
  unfold idxL;have h1:(pre++b::l).getD pre.length 0=b:=by simp
  have h2:=idxL_eq c l (pre++[b]);simp only[length_append,length_cons,length_nil,append_assoc,singleton_append]at h2;rw[length_cons,range'_succ,find?_cons,h1];by_cases hb:b.toNat=c
  ·rw[if_pos (by simpa using hb)];simp[hb]
  ·rw[if_neg (by simpa using hb)];have:(b.toNat==c)=false:=by simpa using hb
   rw[this];exact h2
theorem Ykx{p q:Nat→Bool}:∀{l:List Nat},(∀i∈l,p i=q i)→l.find? p=l.find? q
 |[],_=>rfl
 |a::l,h=>by
  rw[find?_cons,find?_cons,h a (mem_cons_self ..),Ykx fun i hi=>h i (mem_cons_of_mem _ hi)]
theorem Yo2 (s : List UInt8) (c : UInt8) : firstIdx ⟨s.toArray⟩ c = idxL c.toNat s 0 := by
 have h := idxL_eq c.toNat s [];simp only [List.length_nil, List.nil_append] at h;rw [h];unfold firstIdx;have hsz : (ByteArray.mk s.toArray).size = s.length := by simp [ByteArray.size]
 rw [hsz, List.range_eq_range'];have hc : (List.range' 0 s.length).find? (fun i => (ByteArray.mk s.toArray)[i]! == c) = (List.range' 0 s.length).find? (fun i => (s.getD i 0).toNat == c.toNat) := by
  apply Ykx;intro i hi;have hi : i < s.length := by simpa using hi
  have : (ByteArray.mk s.toArray)[i]! = s[i] := by
   rw [getElem!_pos (ByteArray.mk s.toArray) i (by rw [hsz]; exact hi)];rfl
  rw [this, List.getD_eq_getElem?_getD, List.getElem?_eq_getElem hi, Option.getD_some];rw [Bool.eq_iff_iff];simp [UInt8.toNat_inj]
 rw [hc];rfl
theorem extA_sim(sr:SR B w0 μ M h w)(hB:B≤w0.w.heap.size)(hfree:∀id,n≤id→id<n'→μ id=none){k:EK}{vs:List AV}{args:Array Value}(hv:VRs μ M vs args.toList) 
  (e:extA k vs h n=some (v,h',n',lg)):∃cv w' μ',(k.sem args).run P w= .ok cv w'∧SR B w0 μ' M h' w'∧μ.le μ'∧(∀id,¬(n≤id∧id<n')→μ' id=μ id)∧VR μ' M v cv:=by
 unfold extA at e;split at e
 ·rename_i s c;obtain⟨rfl,rfl,rfl⟩:=Yh e;obtain⟨xv,yv,h1,h2,h3⟩:=two_of hv;have ha:args = #[xv,yv]:=by apply Array.ext';rw[h1]
  obtain rfl:xv= .string ⟨s.toArray⟩:=by cases h2;rfl
  obtain rfl:yv= .int .u8 c:=by cases h3;rfl
  subst ha;refine⟨.int .i64 (firstIdx ⟨s.toArray⟩ c.toNat.toUInt8),w,μ,by unfold EK.sem;exact run_indexByte_string _ _ w,sr,fun _ _ h=>h,fun _ _=>rfl,?_⟩;rw[Yo2];exact .int _ _
 ·rename_i t id;obtain⟨o,_,_,_,_,e1,f1,_⟩:=bind_some e;obtain⟨ho,rfl,rfl⟩:=Q6 e1;cases o with
  |cells cs=>exact(Yc f1).elim
  |map es=>
   simp only at f1;obtain⟨id',_,_,_,_,e2,f2,_⟩:=bind_some f1;obtain⟨rfl,rfl,rfl⟩:=Yaz e2;obtain⟨rfl,rfl,rfl⟩:=Yh f2;obtain⟨xv,h1,h2⟩:=one_of hv;have ha:args = #[xv]:=by apply Array.ext';rw[h1]
   subst ha;cases h2 with
   |ifc _ _ cv hcv=>
    cases hcv with
    |map _ r hr=>
     obtain⟨r',q1,_,hlt,p1,p2,en,cl,q2,q3,q4⟩:=sr.live id _ ho;rw[hr]at q1;cases q1;have hn:=hfree id' (Zl _) (by omega);have hle:μ.le (upd μ id' (some ⟨w.heap.size,0,1⟩)):=Ydv hn _;refine⟨.iface t (.map (some w.heap.size)),w.alloc (.map en cl),upd μ id' (some ⟨w.heap.size,0,1⟩),?_,?_,hle,Ks _,.ifc t _ _ (.map id' ⟨w.heap.size,0,1⟩ (by simp[upd]))⟩
     ·have h0:(EK.clone.sem #[.iface t (.map (some r.b))])=(do
        let .map entries clock ←Go.getObj r.b|stuck "maps.clone: a map expected"
        pure (.iface t (.map (some (←newObj (.map entries clock)))))):=rfl
      rw[h0];have hg:(Go.getObj r.b).run P w= .ok (.map en cl) w:=by simp[Go.getObj,Sem.run,q2]
      simp[Sem.run_bind,hg]
     ·refine sr.add (sr.le_size hB) ((Below.refl _ _).alloc (Zl _) _) (fun b hb c t lo hi e0=>by
       have hlt:=(Array.getElem?_eq_some_iff.1 e0).1;obtain rfl:b=w.heap.size:=by simp at hlt;omega
       rw[heap_alloc_new w _]at e0;cases e0) id' hn ⟨w.heap.size,0,1⟩ rfl (by simp) (.map es) ⟨rfl,rfl,en,cl,heap_alloc_new w _,q3,?_⟩
      intro i e x he hx;obtain⟨a,b⟩:=q4 i e x he hx;exact⟨a.mono hle (Mem.le.refl _),b.mono hle (Mem.le.refl _)⟩
 ·exact(Yc e).elim
theorem opM_sim(sr:SR B w0 μ M h w)(hB:B≤w0.w.heap.size)(hfree:∀id,n≤id→id<n'→μ id=none){ev:Operand→Option AV}{ρ:Operand→Value}(hev:EvR μ M ev ρ){o:Oper} 
  (e:opM P ev o.op h n=some (v,h',n',lg)):Step1 P B w0 μ M n n' h' w v (execOp ρ o):=by
 obtain⟨dst,op,type,pos,after,guard⟩:=o;simp only at e;cases op with
 |move x=>
  obtain⟨h1,rfl,rfl⟩:=Ye e;exact Step1.value sr (hev x v h1) rfl
 |assign x=>
  obtain⟨h1,rfl,rfl⟩:=Ye e;exact Step1.value sr (hev x v h1) rfl
 |pick c a b=>
  simp only[opM]at e;cases hc:ev c with
  |none=>rw[hc]at e;exact(Yc e).elim
  |some cv=>
   rw[hc]at e;cases cv with
   |bool t=>
    obtain⟨h1,rfl,rfl⟩:=Ye e;have hb:ρ c= .bool t:=by
     have:=hev c _ hc;generalize ρ c=y at this ⊢;cases this;rfl
    have h2:=hev _ _ h1;refine Step1.value sr h2 ?_;cases t<;>simp[execOp,hb,asBool]
   |_=>exact(Yc e).elim
 |alloc t=>
  simp only[opM]at e;obtain⟨z,_,_,_,_,e1,f1,_⟩:=bind_some e;obtain⟨hz,rfl,rfl⟩:=Ye e1;split at f1
  ·rename_i hc;obtain⟨id,_,_,_,_,e2,f2,_⟩:=bind_some f1;obtain⟨rfl,rfl,rfl⟩:=Yaz e2;obtain⟨rfl,rfl,rfl⟩:=Yh f2;obtain⟨zv,hzr,hzo,_⟩:=K9 hz;have hzv:=Ycl (μ:=μ) (M:=M) hzo;have hn:=hfree id (Zl _) (by omega);have hl:=hzv.cells.1;refine Step1.val (w':=w.alloc (.cells zv.cells t)) (cv:= .pointer (some ⟨w.heap.size,0,none⟩)) ?_ (sr.newCells (sr.le_size hB) hn zv.cells t (0,0) z.cells z.cells.length (Zl _) (by simp at hl;omega) (by simp) ?_) (Ydv hn _) (Ks _) ?_
   ·simp[Instr.alloc,hzr,newVar,newRow]
   ·rw[Zk (by omega)];exact hzv.cells
   ·exact .ptr id 0 ⟨w.heap.size,0,z.cells.length⟩ (by simp[upd])
  ·exact(Yc f1).elim
 |box t x=>
  simp only[opM]at e;obtain⟨z,_,_,_,_,e1,f1,_⟩:=bind_some e;obtain⟨hx,rfl,rfl⟩:=Ye e1;split at f1
  ·rename_i hc;obtain⟨id,_,_,_,_,e2,f2,_⟩:=bind_some f1;obtain⟨rfl,rfl,rfl⟩:=Yaz e2;obtain⟨rfl,rfl,rfl⟩:=Yh f2;have hzv:=hev x z hx;have hn:=hfree id (Zl _) (by omega);have hl:=hzv.cells.1;refine Step1.val (w':=w.alloc (.cells (ρ x).cells t)) (cv:= .pointer (some ⟨w.heap.size,0,none⟩)) ?_ (sr.newCells (sr.le_size hB) hn (ρ x).cells t (0,0) z.cells z.cells.length (Zl _) (by simp at hl;omega) (by simp) ?_) (Ydv hn _) (Ks _) ?_
   ·simp[Instr.box,newVar,newRow]
   ·rw[Zk (by omega)];exact hzv.cells
   ·exact .ptr id 0 ⟨w.heap.size,0,z.cells.length⟩ (by simp[upd])
  ·exact(Yc f1).elim
 |build t ps=>
  simp only[opM]at e;obtain⟨qs,_,_,_,_,e1,f1,_⟩:=bind_some e;obtain⟨hq,rfl,rfl⟩:=Ye e1;obtain⟨hb,rfl,rfl⟩:=Ye f1;obtain⟨hl,hr⟩:=Yfw hev hq;obtain⟨cv,hrun,hvr⟩:=build_sim (w:=w) hl hr hb;refine Step1.same sr hvr ?_;rw[←hrun]
  congr 2
  apply Array.ext';simp
 |buildSlice t k ps=>
  simp only[opM]at e;obtain⟨qs,_,_,_,_,e1,f1,_⟩:=bind_some e;obtain⟨hq,rfl,rfl⟩:=Ye e1;obtain⟨hl,hr⟩:=Yfw hev hq;have:=Yj8 sr hB hfree hl hr f1;have he:(List.map (fun x:Nat×Operand=>(x.1,ρ x.2)) ps.toList).toArray=ps.map fun(i,x)=>(i,ρ x):=by
   apply Array.ext';simp
  rw[he]at this;exact this
 |load t a=>
  simp only[opM]at e;obtain⟨p,_,_,_,_,e1,f1,_⟩:=bind_some e;obtain⟨hp,rfl,rfl⟩:=Ye e1;obtain⟨rfl,rfl,b,o,cv,hpv,hvr,hrun⟩:=Yja sr (hev a p hp) f1;refine Step1.same sr hvr ?_;rw[hpv];simp[Instr.loadAt,Instr.sureAddr,hrun]
 |store t a x=>
  simp only[opM]at e;obtain⟨p,_,_,_,_,e1,f1,_⟩:=bind_some e;obtain⟨hp,rfl,rfl⟩:=Ye e1;obtain⟨xv,_,_,_,_,e2,f2,_⟩:=bind_some f1;obtain⟨hx,rfl,rfl⟩:=Ye e2;obtain⟨rfl,rfl,w',hrun,hsr⟩:=Yq1 (P:=P) sr (hev a p hp) (hev x xv hx) f2;exact Step1.skip hsr (by simp[execOp,hrun])
 |nilCheck x=>
  simp only[opM]at e;cases hx:ev x with
  |none=>rw[hx]at e;exact(Yc e).elim
  |some xv=>
   rw[hx]at e;simp only at e;cases hn:Yak xv with
   |none=>rw[hn]at e;exact(Yc e).elim
   |some b=>
    rw[hn]at e;cases b with
    |true=>exact(Yc e).elim
    |false=>
     obtain⟨rfl,rfl,rfl⟩:=Yh e;have hvr:=hev x v hx;refine Step1.value sr hvr ?_;simp only[execOp];generalize ρ x=y at hvr;cases hvr<;>simp[Yak]at hn<;>rfl
 |binOp op t x y yt=>
  simp only[opM]at e;obtain⟨a,_,_,_,_,e1,f1,_⟩:=bind_some e;obtain⟨ha,rfl,rfl⟩:=Ye e1;obtain⟨b,_,_,_,_,e2,f2,_⟩:=bind_some f1;obtain⟨hb,rfl,rfl⟩:=Ye e2;obtain⟨hv,rfl,rfl⟩:=Ye f2;obtain⟨cv,hrun,hvr⟩:=binA_sim (P:=P) sr (hev x a ha) (hev y b hb) hv;exact Step1.same sr hvr hrun
 |unOp op t x=>
  simp only[opM]at e;obtain⟨a,_,_,_,_,e1,f1,_⟩:=bind_some e;obtain⟨ha,rfl,rfl⟩:=Ye e1;obtain⟨hv,rfl,rfl⟩:=Ye f1;obtain⟨c,hc,hv⟩:=Yho hv;obtain⟨r,hr,hv⟩:=Yho hv;have:=Yl9 hc (hev x a ha);refine Step1.same sr (Ycl hv) ?_;rw[this];exact Ylb hr w
 |convert s d x=>
  simp only[opM]at e;obtain⟨a,_,_,_,_,e1,f1,_⟩:=bind_some e;obtain⟨ha,rfl,rfl⟩:=Ye e1;exact Yn4 sr hB hfree (hev x a ha) f1
 |makeFunc fn first cap=>
  cases fn with
  |func f=>
   simp only[opM]at e;obtain⟨a,_,_,_,_,e1,f1,_⟩:=bind_some e;obtain⟨ha,rfl,rfl⟩:=Ye e1;obtain⟨b,_,_,_,_,e2,f2,_⟩:=bind_some f1;obtain⟨hb,rfl,rfl⟩:=Ye e2;obtain⟨rfl,rfl,rfl⟩:=Yh f2;have h1:=vrs_arr (Yhk hev ha);have h2:=vrs_arr (Yhk hev hb);refine Step1.same sr (cv:= .func (.func f) (first.map ρ) (cap.map ρ)) ?_ rfl;exact .fn f a b _ _ (by have:=h1.1;simpa using this) (by have:=h2.1;simpa using this)
    (fun i x y hx hy=>h1.2 i x y hx (by simpa using hy)) (fun i x y hx hy=>h2.2 i x y hx (by simpa using hy))
  |_=>exact(Yc (h:=h) (n:=n) e).elim
 |makeSlice t l c=>
  simp only[opM]at e;obtain⟨a,_,_,_,_,e1,f1,_⟩:=bind_some e;obtain⟨ha,rfl,rfl⟩:=Ye e1;obtain⟨b,_,_,_,_,e2,f2,_⟩:=bind_some f1;obtain⟨hb,rfl,rfl⟩:=Ye e2;exact Yj0 sr hB hfree (hev l a ha) (hev c b hb) f2
 |makeMap t r=>
  cases r with
  |some _=>exact(Yc (h:=h) (n:=n) e).elim
  |none=>
   simp only[opM]at e;cases hu:P.underlying t with
   |none=>rw[hu]at e;exact(Yc e).elim
   |some d=>
    rw[hu]at e;cases d with
    |map kt et=>
     simp only at e;obtain⟨id,_,_,_,_,e2,f2,_⟩:=bind_some e;obtain⟨rfl,rfl,rfl⟩:=Yaz e2;obtain⟨rfl,rfl,rfl⟩:=Yh f2;have hn:=hfree id (Zl _) (by omega);refine Step1.val (w':=w.alloc (.map #[] 0)) (cv:= .map (some w.heap.size)) (by simp[Instr.makeMap])
      (sr.add (sr.le_size hB) ((Below.refl _ _).alloc (Zl _) _) (fun b hb c t lo hi e0=>by
       have hlt:=(Array.getElem?_eq_some_iff.1 e0).1;obtain rfl:b=w.heap.size:=by simp at hlt;omega
       rw[heap_alloc_new w _]at e0;cases e0) id hn ⟨w.heap.size,0,1⟩ rfl (by simp) (.map []) ⟨rfl,rfl,#[],0,heap_alloc_new w _,rfl,by simp⟩) (Ydv hn _) (Ks _) ?_
     exact .map id ⟨w.heap.size,0,1⟩ (by simp[upd])
    |_=>exact(Yc e).elim
 |slice t x lo hi mx=>
  cases mx with
  |some _=>exact(Yc (h:=h) (n:=n) e).elim
  |none=>
   simp only[opM]at e;obtain⟨a,_,_,_,_,e1,f1,_⟩:=bind_some e;obtain⟨ha,rfl,rfl⟩:=Ye e1;obtain⟨l,_,_,_,_,e2,f2,_⟩:=bind_some f1;obtain⟨hl,rfl,rfl⟩:=Ye e2;obtain⟨r,_,_,_,_,e3,f3,_⟩:=bind_some f2;obtain⟨hr,rfl,rfl⟩:=Ye e3;obtain⟨rfl,rfl,cv,hrun,hvr⟩:=Yq7 sr (hev x a ha) (evo_rel hev hl) (evo_rel hev hr) f3;exact Step1.same sr hvr hrun
 |fieldAddr t x i=>
  simp only[opM]at e;obtain⟨a,_,_,_,_,e1,f1,_⟩:=bind_some e;obtain⟨ha,rfl,rfl⟩:=Ye e1;obtain⟨hv,rfl,rfl⟩:=Ye f1;obtain⟨cv,hrun,hvr⟩:=Yj7 (w:=w) (hev x a ha) hv;exact Step1.same sr hvr hrun
 |field t x i=>
  simp only[opM]at e;obtain⟨a,_,_,_,_,e1,f1,_⟩:=bind_some e;obtain⟨ha,rfl,rfl⟩:=Ye e1;obtain⟨hv,rfl,rfl⟩:=Ye f1;obtain⟨cv,hrun,hvr⟩:=Yru (w:=w) (hev x a ha) hv;exact Step1.same sr hvr hrun
 |indexAddr t x ix=>
  simp only[opM]at e;obtain⟨a,_,_,_,_,e1,f1,_⟩:=bind_some e;obtain⟨ha,rfl,rfl⟩:=Ye e1;obtain⟨b,_,_,_,_,e2,f2,_⟩:=bind_some f1;obtain⟨hb,rfl,rfl⟩:=Ye e2;obtain⟨hv,rfl,rfl⟩:=Ye f2;obtain⟨cv,hrun,hvr⟩:=Yj5 (w:=w) (hev x a ha) (hev ix b hb) hv;exact Step1.same sr hvr hrun
 |index t x ix=>
  simp only[opM]at e;obtain⟨a,_,_,_,_,e1,f1,_⟩:=bind_some e;obtain⟨ha,rfl,rfl⟩:=Ye e1;obtain⟨b,_,_,_,_,e2,f2,_⟩:=bind_some f1;obtain⟨hb,rfl,rfl⟩:=Ye e2;obtain⟨hv,rfl,rfl⟩:=Ye f2;obtain⟨cv,hrun,hvr⟩:=Yrp (w:=w) (hev x a ha) (hev ix b hb) hv;exact Step1.same sr hvr hrun
 |lookup t x k ok=>
  simp only[opM]at e;obtain⟨a,_,_,_,_,e1,f1,_⟩:=bind_some e;obtain⟨ha,rfl,rfl⟩:=Ye e1;obtain⟨b,_,_,_,_,e2,f2,_⟩:=bind_some f1;obtain⟨hb,rfl,rfl⟩:=Ye e2;obtain⟨rfl,rfl,cv,hrun,hvr⟩:=Yor (P:=P) sr (hev x a ha) (hev k b hb) f2;exact Step1.same sr hvr hrun
 |mapUpdate t m k x=>
  simp only[opM]at e;obtain⟨a,_,_,_,_,e1,f1,_⟩:=bind_some e;obtain⟨ha,rfl,rfl⟩:=Ye e1;obtain⟨b,_,_,_,_,e2,f2,_⟩:=bind_some f1;obtain⟨hb,rfl,rfl⟩:=Ye e2;obtain⟨c,_,_,_,_,e3,f3,_⟩:=bind_some f2;obtain⟨hc,rfl,rfl⟩:=Ye e3;obtain⟨rfl,rfl,w',hrun,hsr⟩:=Yfn (P:=P) sr (hev m a ha) (hev k b hb) (hev x c hc) f3;exact Step1.skip hsr (by simp[execOp,hrun])
 |insert t m k x=>
  simp only[opM]at e;obtain⟨a,_,_,_,_,e1,f1,_⟩:=bind_some e;obtain⟨ha,rfl,rfl⟩:=Ye e1;obtain⟨b,_,_,_,_,e2,f2,_⟩:=bind_some f1;obtain⟨hb,rfl,rfl⟩:=Ye e2;obtain⟨c,_,_,_,_,e3,f3,_⟩:=bind_some f2;obtain⟨hc,rfl,rfl⟩:=Ye e3;obtain⟨rfl,rfl,w',hrun,hsr⟩:=Yfn (P:=P) sr (hev m a ha) (hev k b hb) (hev x c hc) f3;exact Step1.skip hsr (by simp[execOp,hrun])
 |extract t i=>
  simp only[opM]at e;cases ht:ev t with
  |none=>rw[ht]at e;exact(Yc e).elim
  |some tv=>
   rw[ht]at e;cases tv with
   |tup vs=>
    obtain⟨hv,rfl,rfl⟩:=Ye e;have hvr:=hev t _ ht;generalize hρ:ρ t=y at hvr;cases hvr with
    |tup _ us h1 h2=>
     have hlt:i<us.size:=by rw[←h1];exact(Zi.1 hv).1
     refine Step1.same sr (h2 i v us[i] hv (Array.getElem?_eq_getElem hlt)) ?_;rw[hρ];simp[Instr.extract,hlt]
   |_=>exact(Yc e).elim
 |makeInterface t x=>
  simp only[opM]at e;obtain⟨a,_,_,_,_,e1,f1,_⟩:=bind_some e;obtain⟨ha,rfl,rfl⟩:=Ye e1;obtain⟨hv,rfl,rfl⟩:=Ye f1;unfold ifcA at hv;split at hv
  ·cases hv
  ·rename_i hni;simp only[Zs]at hv;subst hv;obtain⟨d,hd,hdi⟩:=noIface hni;refine Step1.same sr (.ifc t a _ (hev x a ha)) ?_;simp only[Instr.makeInterface,Sem.run_bind,run_underlying hd,Result.andThen_ok];cases d<;>first|exact absurd rfl (hdi _)|simp
 |typeAssert x xt t ok=>
  simp only[opM]at e;obtain⟨a,_,_,_,_,e1,f1,_⟩:=bind_some e;obtain⟨ha,rfl,rfl⟩:=Ye e1;obtain⟨hv,rfl,rfl⟩:=Ye f1;have hvr:=hev x a ha;cases a with
  |ifc u b=>
   simp only[Yo8]at hv;split at hv
   ·cases hv
   ·rename_i hni;split at hv
    ·rename_i hu;subst hu;simp only[Zs]at hv;subst hv;obtain⟨d,hd,hdi⟩:=noIface hni;generalize hρ:ρ x=y at hvr;cases hvr with
     |ifc _ _ cv hb=>
      cases ok with
      |true=>
       refine Step1.same sr (cv:= .tuple #[cv,.bool true]) (by
        simp only[if_true];exact .tup _ _ rfl (fun i a v ha hv=>(VRs.cons hb (.cons (.bool true) .nil)).2 i a v ha (by simpa using hv))) ?_
       simp only[hρ,Instr.typeAssert,Sem.run_bind,run_underlying hd,Result.andThen_ok];cases d<;>first|exact absurd rfl (hdi _)|simp
      |false=>
       refine Step1.same sr (cv:=cv) (by simpa using hb) ?_;simp only[hρ,Instr.typeAssert,Sem.run_bind,run_underlying hd,Result.andThen_ok];cases d<;>first|exact absurd rfl (hdi _)|simp
    ·cases hv
  |_=>cases hv
 |call c=>
  obtain⟨callee,args,argTypes⟩:=c;cases callee with
  |builtin b=>
   simp only[opM]at e;obtain⟨vs,_,_,_,_,e1,f1,_⟩:=bind_some e;obtain⟨hvs,rfl,rfl⟩:=Ye e1;have hrel:=Yhk hev hvs;have hargs:(args.map ρ).toList=args.toList.map ρ:=by simp
   cases b with
   |len=>
    obtain⟨tl,htl⟩:∃tl,argTypes.toList=tl:=⟨_,rfl⟩;rw[htl]at f1;cases vs with
    |nil=>exact(Jq rfl f1).elim
    |cons x vs=>
     cases vs with
     |cons _ _=>exact(Jq rfl f1).elim
     |nil=>
      cases tl with
      |nil=>exact(Jq rfl f1).elim
      |cons t tl=>
       obtain⟨xv,hx1,hx2⟩:=one_of hrel;have ht:argTypes[0]?=some t:=by rw[←Array.getElem?_toList,htl];rfl
       have ha:(args.map ρ)[0]?=some xv:=by rw[←Array.getElem?_toList,hargs,hx1];rfl
       obtain⟨rfl,rfl,cv,hrun,hvr⟩:=lenA_sim (ty:=type) sr ht ha hx2 f1;exact Step1.same sr hvr hrun
   |append=>
    match vs,f1 with
    |[x,y],f1=>
     obtain⟨xv,yv,hx1,hx2,hy2⟩:=two_of hrel;have ha:args.map ρ = #[xv,yv]:=by apply Array.ext';rw[hargs,hx1]
     have:=Yo9 (ty:=type) sr hB hfree hx2 hy2 f1;rw[←ha]at this;exact this
    |[],f1=>exact(Jq rfl f1).elim
    |[_],f1=>exact(Jq rfl f1).elim
    |_::_::_::_,f1=>exact(Jq rfl f1).elim
   |copy=>
    match vs,f1 with
    |[x,y],f1=>
     obtain⟨xv,yv,hx1,hx2,hy2⟩:=two_of hrel;have ha:args.map ρ = #[xv,yv]:=by apply Array.ext';rw[hargs,hx1]
     obtain⟨rfl,cv,w',hrun,hsr,hvr⟩:=copyA_sim (ty:=type) sr hx2 hy2 f1;rw[←ha]at hrun;exact Step1.val hrun hsr (.refl _) (fun _ _=>rfl) hvr
    |[],f1=>exact(Jq rfl f1).elim
    |[_],f1=>exact(Jq rfl f1).elim
    |_::_::_::_,f1=>exact(Jq rfl f1).elim
   |min=>
    obtain⟨hv,rfl,rfl⟩:=Ye f1;obtain⟨cv,hrun,hvr⟩:=Ykp (ts:=argTypes) (ty:=type) (w:=w) hrel hv;refine Step1.same sr hvr ?_;have ha:(args.toList.map ρ).toArray=args.map ρ:=by apply Array.ext';simp
    rw[ha]at hrun;exact hrun
   |max=>
    obtain⟨hv,rfl,rfl⟩:=Ye f1;obtain⟨cv,hrun,hvr⟩:=Ykp (ts:=argTypes) (ty:=type) (w:=w) hrel hv;refine Step1.same sr hvr ?_;have ha:(args.toList.map ρ).toArray=args.map ρ:=by apply Array.ext';simp
    rw[ha]at hrun;exact hrun
   |clear=>
    match vs,f1 with
    |[x],f1=>
     obtain⟨xv,hx1,hx2⟩:=one_of hrel;have ha:args.map ρ = #[xv]:=by apply Array.ext';rw[hargs,hx1]
     obtain⟨rfl,rfl,cv,w',hrun,hsr,hvr⟩:=Yrz (ty:=type) sr hx2 f1;rw[←ha]at hrun;exact Step1.val hrun hsr (.refl _) (fun _ _=>rfl) hvr
    |[],f1=>exact(Jq rfl f1).elim
    |_::_::_,f1=>exact(Jq rfl f1).elim
   |_=>exact(Jq rfl f1).elim
  |_=>exact(Jq rfl e).elim
 |_=>exact(Jq rfl e).elim
end
def Yer (g:Ya) (lg:Log):Ya:=fun id=>if id∈lg.1∨id∈lg.2 then g id else none
def away (g:Ya) (μ:Mu) (lg:Log) (q:Rng):Prop:=∃id,g id≠none∧μ id=some q∧¬(id∈lg.1∨id∈lg.2)
def Anchor.with (w0:Anchor) (g:Ya) (μ:Mu) (lg:Log) (w:World):Anchor:=⟨w0.w,fun q=>w0.fs q∨away g μ lg q,w⟩
section
variable {B:Nat} {w0:Anchor} {w w':World} {μ μ':Mu} {M M':Mem} {g ht ht':Ya} {n n':Nat} {lg:Log}
theorem Yk1{o:AObj}(h:Yer g lg id=some o):g id=some o∧(id∈lg.1∨id∈lg.2):=by
 unfold Yer at h;split at h
 ·rename_i hc;exact⟨h,hc⟩
 ·cases h
theorem Yl8(h:Yer g lg id≠none):g id≠none∧(id∈lg.1∨id∈lg.2):=by
 cases hc:Yer g lg id with
 |none=>exact absurd hc h
 |some o=>have:=Yk1 hc;exact⟨by rw[this.1];simp,this.2⟩
theorem SR.cut(s:SR B w0 μ M g w):SR B (w0.with g μ lg w) μ M (Yer g lg) w:=by
 have s':=s.sub (h':=Yer g lg) (fun id o h=>(Yk1 h).1);refine⟨s'.below,s'.mem,s'.live,s'.apart,s'.memApart,fun r _=>⟨fun _ _=>rfl,fun _ _=>rfl,fun _ _ _ h=>h⟩,?_,?_,?_,s.clean,?_⟩
 ·rintro r (hr|⟨id,h1,h2,h3⟩)
  ·exact s.fsBlock r hr
  ·cases hg:g id with
   |none=>exact absurd hg h1
   |some o=>
    obtain⟨q,q1,_,q3,_⟩:=s.live id o hg;rw[h2]at q1;cases q1;exact q3
 ·rintro r (hr|⟨id,h1,h2,h3⟩) j q hj hq
  ·exact s.fsApart r hr j q (Yl8 hj).1 hq
  ·exact s.apart id j r q (fun e=>h3 (e▸(Yl8 hj).2)) h1 (Yl8 hj).1 h2 hq
 ·rintro r (hr|⟨id,h1,h2,h3⟩) b o hm
  ·exact s.fsMem r hr b o hm
  ·exact s.memApart id r b o h1 h2 hm
 ·rintro r (hr|⟨id,h1,h2,h3⟩) o ho
  ·exact s.fsNow hr ho
  ·exact s.liveNow h1 h2 ho
theorem SR.uncut(s:SR B w0 μ M g w)(s':SR B (w0.with g μ lg w) μ' M' (Yda (Yer g lg) ht' n n' lg.2) w')(hμ:μ.le μ')(hM:M.le M'):SR B w0 μ' M' (Yda g ht' n n' lg.2) w':=by
 have split:∀id o,Yda g ht' n n' lg.2 id=some o→Yda (Yer g lg) ht' n n' lg.2 id=some o∨(g id=some o∧¬(id∈lg.1∨id∈lg.2)):=by
  intro id o h;unfold Yda at h ⊢;by_cases hc:id∈lg.2∨(n≤id∧id<n')
  ·rw[if_pos hc]at h ⊢;exact .inl h
  ·rw[if_neg hc]at h ⊢;by_cases hl:id∈lg.1∨id∈lg.2
   ·exact .inl (by unfold Yer;rw[if_pos hl];exact h)
   ·exact .inr ⟨h,hl⟩
 have splitne:∀id,Yda g ht' n n' lg.2 id≠none→Yda (Yer g lg) ht' n n' lg.2 id≠none∨(g id≠none∧¬(id∈lg.1∨id∈lg.2)):=by
  intro id h;cases hc:Yda g ht' n n' lg.2 id with
  |none=>exact absurd hc h
  |some o=>
   rcases split id o hc with h1|⟨h1,h2⟩
   ·exact .inl (by rw[h1];simp)
   ·exact .inr ⟨by rw[h1];simp,h2⟩
 have awayR:∀id q,g id≠none→¬(id∈lg.1∨id∈lg.2)→μ' id=some q→μ id=some q∧(w0.with g μ lg w).fs q:=by
  intro id q h1 h2 h3;cases hg:g id with
  |none=>exact absurd hg h1
  |some o=>
   obtain⟨r,r1,_⟩:=s.live id o hg;have:=hμ _ _ r1;rw[h3]at this;cases this;exact⟨r1,.inr ⟨id,h1,r1,h2⟩⟩
 refine⟨s'.below,s'.mem,?_,?_,?_,?_,fun r hr=>s'.fsBlock r (.inl hr),?_,fun r hr=>s'.fsMem r (.inl hr),s'.clean,s.fsCell⟩
 ·intro id o h;rcases split id o h with h1|⟨h1,h2⟩
  ·exact s'.live id o h1
  ·obtain⟨r,r1,r2,r3,r4⟩:=s.live id o h1;have hfs:(w0.with g μ lg w).fs r:= .inr ⟨id,by rw[h1];simp,r1,h2⟩;exact⟨r,hμ _ _ r1,r2,s'.fsBlock r hfs,(r4.kept (s'.kept r hfs)).mono hμ hM⟩
 ·intro i j ri rj hij hi hj hri hrj;rcases splitne i hi with h1|⟨h1,h2⟩<;>rcases splitne j hj with h3|⟨h3,h4⟩
  ·exact s'.apart i j ri rj hij h1 h3 hri hrj
  ·have:=s'.fsApart rj (awayR j rj h3 h4 hrj).2 i ri h1 hri;exact fun b o h=>this b o ⟨h.2,h.1⟩
  ·exact s'.fsApart ri (awayR i ri h1 h2 hri).2 j rj h3 hrj
  ·exact s.apart i j ri rj hij h1 h3 (awayR i ri h1 h2 hri).1 (awayR j rj h3 h4 hrj).1
 ·intro id q b o hid hq hm;rcases splitne id hid with h1|⟨h1,h2⟩
  ·exact s'.memApart id q b o h1 hq hm
  ·exact s'.fsMem q (awayR id q h1 h2 hq).2 b o hm
 ·intro r hr;exact(s.kept r hr).trans (s'.kept r (.inl hr))
 ·intro r hr id q hid hq;rcases splitne id hid with h1|⟨h1,h2⟩
  ·exact s'.fsApart r (.inl hr) id q h1 hq
  ·exact s.fsApart r hr id q h1 (awayR id q h1 h2 hq).1
theorem local_cut{m:AM α}(hl:Local m)(hf:Qt ht n){v:α}(e:m ht n=some (v,ht',n',lg))(ha:Yjs g ht n n' lg) :
  Qt (Yer g lg) n∧m (Yer g lg) n=some (v,Yda (Yer g lg) ht' n n' lg.2,n',lg):=by
 obtain⟨st,tr⟩:=hl ht n v ht' n' lg hf e;refine⟨?_,tr _ ?_⟩
 ·intro id hid;unfold Yer;split
  ·rename_i hc;rw[ha id (by rcases hc with h|h;exact .inl h;exact .inr (.inl h))];exact hf id hid
  ·rfl
 ·intro id hid;unfold Yer;split
  ·exact ha id hid
  ·rename_i hc;rcases hid with h|h|h
   ·exact absurd (.inl h) hc
   ·exact absurd (.inr h) hc
   ·exact(hf id h.1).symm
end
section
variable {P:Program} {ev1 ev2:Operand→Option AV}
theorem Ycw:∀{l:List Operand},(∀x∈l,ev1 x=ev2 x)→evs ev1 l=evs ev2 l
 |[],_=>rfl
 |x::l,h=>by
  unfold evs;rw[h x (by simp),Ycw (fun y hy=>h y (by simp[hy]))]
theorem Ydl:∀{l:List (Nat×Operand)},(∀x∈l,ev1 x.2=ev2 x.2)→J7 ev1 l=J7 ev2 l
 |[],_=>rfl
 |(i,x)::l,h=>by
  unfold J7;rw[h (i,x) (by simp),Ydl (fun y hy=>h y (by simp[hy]))]
theorem opM_congr(o:Op)(h:∀x∈o.operands,ev1 x=ev2 x):opM P ev1 o=opM P ev2 o:=by
 cases o with
 |move x=>simp only[opM];rw[h x (by simp[Op.operands])]
 |assign x=>simp only[opM];rw[h x (by simp[Op.operands])]
 |pick c a b=>
  simp only[opM];rw[h c (by simp[Op.operands])];cases ev2 c with
  |none=>rfl
  |some cv=>
   cases cv with
   |bool t=>cases t<;>simp only[Zf,if_true,if_false]<;>rw[h _ (by simp[Op.operands])]
   |_=>rfl
 |alloc t=>rfl
 |box t x=>simp only[opM];rw[h x (by simp[Op.operands])]
 |build t ps=>simp only[opM];rw[Ydl (fun x hx=>h x.2 (by simp only[Op.operands];simp;exact⟨x.1,by simpa using hx⟩))]
 |buildSlice t k ps=>simp only[opM];rw[Ydl (fun x hx=>h x.2 (by simp only[Op.operands];simp;exact⟨x.1,by simpa using hx⟩))]
 |insert t m k v=>simp only[opM];rw[h m (by simp[Op.operands]),h k (by simp[Op.operands]),h v (by simp[Op.operands])]
 |load t a=>simp only[opM];rw[h a (by simp[Op.operands])]
 |store t a v=>simp only[opM];rw[h a (by simp[Op.operands]),h v (by simp[Op.operands])]
 |nilCheck x=>simp only[opM];rw[h x (by simp[Op.operands])]
 |binOp op t x y yt=>simp only[opM];rw[h x (by simp[Op.operands]),h y (by simp[Op.operands])]
 |unOp op t x=>simp only[opM];rw[h x (by simp[Op.operands])]
 |convert s d x=>simp only[opM];rw[h x (by simp[Op.operands])]
 |makeFunc fn a b=>
  cases fn with
  |func f=>simp only[opM];rw[Ycw (fun x hx=>h x (by simp[Op.operands];left;simpa using hx)),Ycw (fun x hx=>h x (by simp[Op.operands];right;simpa using hx))]
  |_=>rfl
 |makeMap t r=>cases r<;>rfl
 |makeSlice t l c=>simp only[opM];rw[h l (by simp[Op.operands]),h c (by simp[Op.operands])]
 |slice t x lo hi mx=>
  cases mx with
  |some _=>rfl
  |none=>
   simp only[opM];rw[h x (by simp[Op.operands])];have hl:evo ev1 lo=evo ev2 lo:=by
    cases lo with
    |none=>rfl
    |some y=>simp only[evo];rw[h y (by simp[Op.operands])]
   have hh:evo ev1 hi=evo ev2 hi:=by
    cases hi with
    |none=>rfl
    |some y=>simp only[evo];rw[h y (by simp[Op.operands])]
   rw[hl,hh]
 |fieldAddr t x i=>simp only[opM];rw[h x (by simp[Op.operands])]
 |field t x i=>simp only[opM];rw[h x (by simp[Op.operands])]
 |indexAddr t x i=>simp only[opM];rw[h x (by simp[Op.operands]),h i (by simp[Op.operands])]
 |index t x i=>simp only[opM];rw[h x (by simp[Op.operands]),h i (by simp[Op.operands])]
 |lookup t x i ok=>simp only[opM];rw[h x (by simp[Op.operands]),h i (by simp[Op.operands])]
 |mapUpdate t m k v=>simp only[opM];rw[h m (by simp[Op.operands]),h k (by simp[Op.operands]),h v (by simp[Op.operands])]
 |extract t i=>simp only[opM];rw[h t (by simp[Op.operands])]
 |makeInterface t x=>simp only[opM];rw[h x (by simp[Op.operands])]
 |typeAssert x t u ok=>simp only[opM];rw[h x (by simp[Op.operands])]
 |call c=>
  obtain⟨callee,args,ts⟩:=c;cases callee with
  |builtin b=>simp only[opM];rw[Ycw (fun x hx=>h x (by simp[Op.operands,Call.operands];simpa using hx))]
  |_=>rfl
 |_=>rfl
end
end Go.Abs
