import Derived.Test.YtibdecjfdpmfoaaGreatAbsRun
import Derived.Test.YtibdecjfdpmfoaaGreatAbsLd
open Go.RowKit (Below)
namespace Go.Abs
open List hiding Mem all cons map nil
variable {ops:Array Oper} {Q:Exit→Act→World→Prop} {fr fr':Fr} {rs:List Rec} {lg:Log} {M:Mem} {μ:Mu} {id n n':Nat} {p:Nat×Nat×Nat} {h h':Ya}
theorem Yn8{b:Edge→Bool}{g:Edge→Nat}{k:Nat}:∀(l:List Edge) (s:Nat),(l.foldl (fun s e=>if b e then s ||| 2^e.on ||| g e else s) s).testBit k=true→
    s.testBit k=true∨∃e∈l,b e=true∧(k=e.on∨(g e).testBit k=true)
  |[],s,h=> .inl h
  |e::l,s,h=>by
    rw[foldl_cons]at h;rcases Yn8 l _ h with h1|⟨e',h1,h2,h3⟩
    · by_cases hb:b e=true
      · rw[if_pos hb]at h1;rw[Nat.testBit_or,Nat.testBit_or,Nat.testBit_two_pow]at h1;simp only[Bool.or_eq_true,decide_eq_true_eq]at h1;rcases h1 with (h1|h1)|h1
        · exact .inl h1
        · exact .inr ⟨e,by simp,hb,.inl h1.symm⟩
        · exact .inr ⟨e,by simp,hb,.inr h1⟩
      · rw[if_neg hb]at h1;exact .inl h1
    · exact .inr ⟨e',by simp[h1],h2,h3⟩
theorem Yn9:∀(l:List Oper) (acc:List Nat),(Ymc l acc).length=acc.length+l.length∧(Ymc l acc).take acc.length=acc ∧
    ∀(j:Nat) o,l[j]?=some o→(Ymc l acc)[acc.length+j]?=some (Yr3 ((Ymc l acc).take (acc.length+j)) o)
  |[],acc=>⟨by simp[Ymc],by simp[Ymc],by simp⟩
  |o::l,acc=>by
    obtain⟨h1,h2,h3⟩:=Yn9 l (acc++[Yr3 acc o]);have hl:(acc++[Yr3 acc o]).length=acc.length+1:=by simp
    rw[hl]at h1 h2 h3;have htake:(Ymc l (acc++[Yr3 acc o])).take acc.length=acc:=by
      have:=congrArg (List.take acc.length) h2;rw[take_take,Nat.min_eq_left (by omega)]at this;rw[this];simp
    refine⟨by simp only[Ymc,length_cons];omega,by simpa only[Ymc]using htake,?_⟩;intro j o' hj;simp only[Ymc];cases j with
    |zero=>
      simp only[Zc,Zs]at hj;subst hj;rw[Nat.add_zero,htake];have:=congrArg (fun x:List Nat=>x[acc.length]?) h2;simp only[getElem?_take]at this;rw[if_pos (by omega)]at this;rw[this];simp
    |succ j=>
      have:=h3 j o' (by simpa using hj);rw[show acc.length+(j+1)=acc.length+1+j by omega];exact this
def Closed (ops:Array Oper) (S:Nat→Prop):Prop:=∀i o,ops[i]?=some o→S i→∀e∈o.after,Region.binds .any e=true→S e.on
theorem Yhp{S:Nat→Prop}(hc:Closed ops S):∀(j:Nat) o,ops[j]?=some o→(∀e∈o.after,Region.binds .any e=true→S e.on)→∀k,((Ymc ops.toList []).getD j 0).testBit k=true→S k:=by
  intro j
  induction j using Nat.strongRecOn with
  |_ j ih=>
    intro o ho hdeps k hk;obtain⟨_,_,h3⟩:=Yn9 ops.toList [];have hj:=h3 j o (by simpa using ho);simp only[length_nil,Nat.zero_add]at hj;rw[Zd,hj]at hk;simp only[Option.getD_some,Yr3]at hk;rcases Yn8 _ _ hk with h|⟨e,he,hb,h⟩
    · simp at h
    · have hse:=hdeps e (by simpa using he) hb;rcases h with rfl|h
      · exact hse
      · rw[Zd,getElem?_take]at h;by_cases hlt:e.on<j
        · rw[if_pos hlt]at h;have hjs:j<ops.size:=(Array.getElem?_eq_some_iff.1 ho).1;have ho':ops[e.on]?=some ops[e.on]:=Array.getElem?_eq_getElem (by omega);exact ih e.on hlt _ ho' (fun e' he' hb'=>hc e.on _ ho' hse e' he' hb') k (by rw[Zd];exact h)
        · rw[if_neg hlt]at h;simp at h
theorem Ylu{i j:Nat}(hj:j<ops.size)(hij:i<j)(h:((Ymc ops.toList []).getD j 0).testBit i=false):(i,j)∈Q8 ops:=by
  unfold Q8;simp only[mem_flatMap,mem_map,mem_filter,mem_range];exact⟨j,hj,i,⟨hij,by rw[h];rfl⟩,rfl⟩
theorem Yjl{a b:List Nat}(h:Yl5 a b=true){x:Nat}(ha:x∈a)(hb:x∈b):False:=by
  unfold Yl5 at h;rw[all_eq_true]at h;have:=h x ha;simp[hb]at this
theorem Yn3{p q:Nat→Bool}:∀(l:List Nat) (i:Nat),i∈l→(∀x,q x=true→p x=true)→p i=true→q i=false→l.countP q<l.countP p
  |[],_,h,_,_,_=>by cases h
  |x::l,i,h,hqp,hp,hq=>by
    have hle:l.countP q≤l.countP p:=countP_mono_left (fun x _=>hqp x);rw[countP_cons,countP_cons];rcases mem_cons.1 h with rfl|h
    · rw[hp,hq];simp;omega
    · have:=Yn3 l i h hqp hp hq;cases hqx:q x with
      |false=>simp;split<;>omega
      |true=>simp[hqp x hqx];exact this
section
variable {P:Program} {A:Ann} {call:Nat→List AV→AM AV} {B:Nat} {w0:Anchor} {nt f:Nat}
def Exc (P:Program) (A:Ann) (f:Nat) (ops:Array Oper) (r q:Rec):Prop:=∃p,Yij P A f ops r.o r.fr=some p∧sliceAt q.h p=sliceAt q.h' p
theorem ld_rec{r:Rec}(hp:Yij P A f ops r.o r.fr=some p)(hk:r.ok call P A f nt ops):r.h'=r.h∧r.n'=r.n∧r.lg=([p.1],[])∧∀X N,sliceAt X p=sliceAt r.h p→opV call P A f r.o r.fr.regs X N=some (r.v,X,N,([p.1],[])):=by
  obtain⟨hw,H⟩:=ld_opV (call:=call) hp;rcases hk.1.kind with ⟨_,e⟩|⟨e,_⟩
  · exact H e
  · rw[hw]at e;cases e
theorem last_of(Q:Nat→Prop):∀N,(∀k,k<N→¬Q k)∨∃k,k<N∧Q k∧∀m,k<m→m<N→¬Q m
  |0=> .inl fun k hk=>by omega
  |N+1=>by
    by_cases hN:Q N
    · exact .inr ⟨N,by omega,hN,fun m h1 h2=>by omega⟩
    · rcases last_of Q N with h|⟨k,h1,h2,h3⟩
      · exact .inl fun k hk=>by
          by_cases e:k=N
          · rw[e];exact hN
          · exact h k (by omega)
      · exact .inr ⟨k,by omega,h2,fun m h4 h5=>by
          by_cases e:m=N
          · rw[e];exact hN
          · exact h3 m h4 (by omega)⟩
theorem Yc2{g:Ya}(e:g p.1=h p.1):sliceAt g p=sliceAt h p:=by
  unfold sliceAt;rw[e]
theorem Yg6 {ops : Array Oper} {rs : List Rec} {fr fr' : Fr} {h h' : Ya} {n n' : Nat} (ch : Chain call P A f nt ops rs fr h n fr' h' n') {p : Nat × Nat × Nat} {a : Nat} : ∀ b, a ≤ b → b ≤ rs.length →
    (∀ k q, a ≤ k → k < b → rs[k]? = some q → q.wId p.1 → sliceAt q.h p = sliceAt q.h' p) →
    sliceAt (Y6 (fun k => decide (k < a)) 0 rs (fr.regs, h)).2 p = sliceAt (Y6 (fun k => decide (k < b)) 0 rs (fr.regs, h)).2 p := by
  intro b
  induction b with
  | zero => intro hab _ _; have : a = 0 := by omega
            subst this; rfl
  | succ b ih =>
    intro hab hb H;by_cases e : a = b + 1
    · subst e; rfl
    · rw [ih (by omega) (by omega) (fun k q h1 h2 => H k q h1 (by omega))];obtain ⟨q, hq⟩ : ∃ q, rs[b]? = some q := ⟨rs[b], List.getElem?_eq_getElem (by omega)⟩;obtain ⟨hpre, _, _, _⟩ := Yad ch 0 b q hq;simp only [Nat.zero_add] at hpre;by_cases hw : q.wId p.1
      · have h1 := H b q (by omega) (by omega) hq hw;rw [hpre];have h2 : (Y6 (fun k => decide (k < b + 1)) 0 rs (fr.regs, h)).2 p.1 = q.h' p.1 := Yal rs 0 b q _ hq (by simp) hw (fun m r' _ hlt hp => by simp at hp; omega);rw [Yc2 h2];exact h1
      · exact Yc2 (Yep rs 0 _ _ rfl (fun k r hk hwr => by
          rw [Nat.zero_add];by_cases e2 : k = b
          · subst e2;rw [hq] at hk;cases hk;exact absurd hwr hw
          · have : (k < b) ↔ (k < b + 1) := by omega
            simp [this]))
theorem Ynz{p:Nat→Bool}:∀(rs:List Rec) (i:Nat) (s:RS),(∀r∈rs,r.h' id=none)→s.2 id=none→(Y6 p i rs s).2 id=none
  |[],_,_,_,h=>h
  |r::rs,i,s,H,h=>by
    unfold Y6;refine Ynz rs (i+1) _ (fun q hq=>H q (mem_cons_of_mem _ hq)) ?_;split
    · unfold Rec.apply Yda;simp only;split
      · exact H r (by simp)
      · exact h
    · exact h
theorem Yo6(ch:Chain call P A f nt ops rs fr h n fr' h' n')(hne:rs≠[]):Qt h n:=by
  cases ch with
  |nil=>exact absurd rfl hne
  |cons r rs _ _ _ hok _=>exact hok.2.1
theorem draw_any(hc:Yce P A call)(hl:∀f vs,Local (call f vs))(hB:B≤w0.w.heap.size)(hok:Yif ops=true) 
    (ch:Chain call P A f nt ops rs fr h n fr' h' n')(hro:rs.map (·.o)=ops.toList)(hcalm:∀p∈Q8 ops,∀r q,rs[p.1]?=some r→rs[p.2]?=some q→Js (r.lg,r.n,r.n') (q.lg,q.n,q.n')=false∨Exc P A f ops r q∨Exc P A f ops q r)(hfree:∀id,n≤id→id<n'→μ id=none)
 (hQ:∀a' w' μ' M',SR B w0 μ' M' h' w'→μ.le μ'→M.le M'→(∀id,¬(n≤id∧id<n')→μ' id=μ id)→RegR μ' M' nt fr'.regs a'→Q .normal a' w') :
    ∀(fuel:Nat) (listed:Array Bool) (a:Act) (w:World) (μ1:Mu) (M1:Mem),listed.size=ops.size→Closed ops (fun i=>listed.getD i false=true)→(List.range ops.size).countP (fun i => !listed.getD i false)≤fuel→
      SR B w0 μ1 M1 (Y6 (fun i=>listed.getD i false) 0 rs (fr.regs,h)).2 w→RegR μ1 M1 nt (Y6 (fun i=>listed.getD i false) 0 rs (fr.regs,h)).1 a→GlobOK A M1→μ.le μ1→M.le M1→
      (∀id,(∀(i:Nat) r,rs[i]?=some r→listed.getD i false=true→¬(r.n≤id∧id<r.n'))→μ1 id=μ id)→wpAny P .any ops Q fuel listed a w:=by
  have hlen:rs.length=ops.size:=by
    have:=congrArg List.length hro;simpa using this
  have hro':∀(i:Nat) r,rs[i]?=some r→ops[i]?=some r.o:=by
    intro i r hr;have:=congrArg (fun l:List Oper=>l[i]?) hro;simp only[getElem?_map,hr,Option.map_some]at this;simpa using this.symm
  unfold Yif at hok;simp only[Za,all_eq_true]at hok;obtain⟨hback,happ⟩:=hok;have pair:∀(i j:Nat) r q,i<j→rs[i]?=some r→rs[j]?=some q→((Ymc ops.toList []).getD j 0).testBit i=false→(Js (r.lg,r.n,r.n') (q.lg,q.n,q.n')=false∨Exc P A f ops r q∨Exc P A f ops q r)∧r.o.apart ops q.o=true:=by
    intro i j r q hij hr hq hb;have hj:j<ops.size:=by rw[←hlen];exact(Zi.1 hq).1
    have hm:=Ylu hj hij hb;have h1:=hcalm _ hm r q hr hq;have h2:=happ _ hm;simp only[hro' i r hr,hro' j q hq]at h2;exact⟨h1,h2⟩
  have clash_not:∀{a b:Yf1},Js a b=false→(∀x,x∈a.1.2→x∉b.1.1)∧(∀x,x∈a.1.2→x∉b.1.2)∧(∀x,x∈b.1.2→x∉a.1.1)∧(∀x,x∈b.1.1∨x∈b.1.2→¬(a.2.1≤x∧x<a.2.2)):=by
    intro a b hcl;unfold Js at hcl;simp only[Bool.not_eq_false',Za]at hcl;obtain⟨⟨⟨c1,c2⟩,c3⟩,c4⟩:=hcl;refine⟨fun x h1 h2=>Yjl c1 h1 h2,fun x h1 h2=>Yjl c2 h1 h2,fun x h1 h2=>Yjl c3 h1 h2,fun x hx hr=>?_⟩;rw[all_eq_true]at c4;have:=c4 x (mem_append.2 hx);simp[hr.1,hr.2]at this
  have ldw:∀{k:Nat} {r:Rec} {p:Nat×Nat×Nat} {id:Nat},rs[k]?=some r→Yij P A f ops r.o r.fr=some p→¬r.wId id:=by
    intro k r p id hr hp hw;obtain⟨_,hrok,_,_⟩:=Yad ch 0 k r hr;obtain⟨_,k2,k3,_⟩:=ld_rec hp hrok;unfold Rec.wId at hw;rw[k2,k3]at hw;rcases hw with hw|hw
    · cases hw
    · omega
  intro fuel
  induction fuel with
  |zero=>
    intro listed a w μ1 M1 hsz hclo hcnt sr rr hg hμ hM hid;have hall:∀i,i<ops.size→listed.getD i false=true:=by
      intro i hi;have h0:(List.range ops.size).countP (fun i => !listed.getD i false)=0:=by omega
      rw[countP_eq_zero]at h0;have:=h0 i (mem_range.2 hi);simpa using this
    have hready:Region.ready .any ops listed=[]:=by
      cases hr:Region.ready .any ops listed with
      |nil=>rfl
      |cons x xs=>
        have hx:x∈Region.ready .any ops listed:=by rw[hr];simp
        obtain⟨hx1,o,ho,_⟩:=mem_ready.1 hx;have hxs:=(Array.getElem?_eq_some_iff.1 ho).1;have:=hall x hxs;rw[Array.getD_eq_getD_getElem?,Array.getElem?_eq_getElem (by omega)]at this hx1;simp at this hx1;rw[this]at hx1;cases hx1
    refine⟨hready,?_⟩;have hfold:Y6 (fun i=>listed.getD i false) 0 rs (fr.regs,h)=(fr'.regs,h'):=by
      rw[←Yk4 ch 0];apply Prod.ext
      · funext t;exact Yfb rs 0 _ _ rfl (fun k r hk _=>by rw[Nat.zero_add];exact hall k (by rw[←hlen];exact(Zi.1 hk).1))
      · funext t;exact Yep rs 0 _ _ rfl (fun k r hk _=>by rw[Nat.zero_add];exact hall k (by rw[←hlen];exact(Zi.1 hk).1))
    rw[hfold]at sr rr;refine hQ a w μ1 M1 sr hμ hM (fun id hn=>hid id (fun i r hr _ hin=>?_)) rr;obtain⟨_,_,k3,k4⟩:=Yad ch 0 i r hr;omega
  |succ fuel ih=>
    intro listed a w μ1 M1 hsz hclo hcnt sr rr hg hμ hM hid;refine⟨fun hready=>?_,fun i hi=>?_⟩
    · -- nothing is ready: all is done
      have hall:∀i,i<ops.size→listed.getD i false=true:=by
        intro i
        induction i using Nat.strongRecOn with
        |_ i ihi=>
          intro hi;cases hli:listed.getD i false with
          |true=>rfl
          |false=>
            exfalso;have ho:ops[i]?=some ops[i]:=Array.getElem?_eq_getElem hi;have hmem:i∈Region.ready .any ops listed:=by
              refine mem_ready.2 ⟨?_,ops[i],ho,fun e he hb=>?_⟩
              · rw[Array.getD_eq_getD_getElem?,Array.getElem?_eq_getElem (by omega)]at hli ⊢;simpa using hli
              · have:=hback i (mem_range.2 hi);rw[ho]at this;simp only[all_eq_true]at this;have:=this e (by simpa using he);simp only[hb,Bool.not_true,Bool.false_or,decide_eq_true_eq]at this;exact ihi e.on this (by omega)
            rw[hready]at hmem;cases hmem
      have hfold:Y6 (fun i=>listed.getD i false) 0 rs (fr.regs,h)=(fr'.regs,h'):=by
        rw[←Yk4 ch 0];apply Prod.ext
        · funext t;exact Yfb rs 0 _ _ rfl (fun k r hk _=>by rw[Nat.zero_add];exact hall k (by rw[←hlen];exact(Zi.1 hk).1))
        · funext t;exact Yep rs 0 _ _ rfl (fun k r hk _=>by rw[Nat.zero_add];exact hall k (by rw[←hlen];exact(Zi.1 hk).1))
      rw[hfold]at sr rr;refine hQ a w μ1 M1 sr hμ hM (fun id hn=>hid id (fun i r hr _ hin=>?_)) rr;obtain⟨_,_,k3,k4⟩:=Yad ch 0 i r hr;omega
    · obtain⟨hi1,o,ho,hdeps⟩:=mem_ready.1 hi;have his:i<ops.size:=(Array.getElem?_eq_some_iff.1 ho).1;have hli:listed.getD i false=false:=by
        rw[Array.getD_eq_getD_getElem?,Array.getElem?_eq_getElem (by omega)]at hi1 ⊢;simpa using hi1
      obtain⟨r,hr⟩:∃r,rs[i]?=some r:=⟨rs[i],Zg (by omega)⟩;have hor:=hro' i r hr;rw[ho]at hor;cases hor;obtain⟨hpre,hrok,hn1,hn2⟩:=Yad ch 0 i r hr;simp only[Nat.zero_add]at hpre;have ahead:∀(k:Nat) q,rs[k]?=some q→k<i→listed.getD k false=false→(Js (q.lg,q.n,q.n') (r.lg,r.n,r.n')=false∨Exc P A f ops q r∨Exc P A f ops r q)∧q.o.apart ops r.o=true:=by
        intro k q hk hlt hlk;refine pair k i q r hlt hk hr ?_;cases hb:((Ymc ops.toList []).getD i 0).testBit k with
        |false=>rfl
        |true=>
          have:=Yhp hclo i r.o ho hdeps k hb;rw[hlk]at this;cases this
      have behind:∀(k:Nat) q,rs[k]?=some q→i<k→listed.getD k false=true→(Js (r.lg,r.n,r.n') (q.lg,q.n,q.n')=false∨Exc P A f ops r q∨Exc P A f ops q r)∧r.o.apart ops q.o=true:=by
        intro k q hk hlt hlk;refine pair i k r q hlt hr hk ?_;cases hb:((Ymc ops.toList []).getD k 0).testBit i with
        |false=>rfl
        |true=>
          have hok':=hro' k q hk;have:=Yhp hclo k q.o hok' (fun e he hb=>hclo k q.o hok' hlk e he hb) i hb;rw[hli]at this;cases this
      have hltr:=hrok.2.2.lt;have hagree (hnl:Yij P A f ops r.o r.fr=none):Yjs (Y6 (fun i=>listed.getD i false) 0 rs (fr.regs,h)).2 r.h r.n r.n' r.lg:=by
        intro id hin;have:(Y6 (fun k=>decide (k<i)) 0 rs (fr.regs,h)).2 id=r.h id:=by rw[hpre]
        rw[←this];refine Yep rs 0 _ _ rfl (fun k q hk hw=>?_);rw[Nat.zero_add];obtain⟨_,hqok,_,_⟩:=Yad ch 0 k q hk;have hltq:=hqok.2.2.lt;rcases Nat.lt_trichotomy k i with hlt|heq|hgt
        · have hrange:=Kh ch k i q r hk hr hlt;cases hlk:listed.getD k false with
          |true=>simp[hlt]
          |false=>
            exfalso;have hcl:Js (q.lg,q.n,q.n') (r.lg,r.n,r.n')=false:=by
              rcases(ahead k q hk hlt hlk).1 with hcl|⟨p,hp,_⟩|⟨p,hp,_⟩
              · exact hcl
              · exact absurd hw (ldw hk hp)
              · rw[hnl]at hp;cases hp
            obtain⟨c1,c2,c3,c4⟩:=clash_not hcl;simp only at c1 c2 c3 c4;rcases hw with hw|hw
            · have:=hltq id (.inr hw);rcases hin with hin|hin|hin
              · exact c1 id hw hin
              · exact c2 id hw hin
              · omega
            · rcases hin with hin|hin|hin
              · exact c4 id (.inl hin) hw
              · exact c4 id (.inr hin) hw
              · omega
        · subst heq;rw[hli];simp
        · have hrange:=Kh ch i k r q hr hk hgt;have hd:decide (k<i)=false:=by simp;omega
          rw[hd];cases hlk:listed.getD k false with
          |false=>rfl
          |true=>
            exfalso;have hcl:Js (r.lg,r.n,r.n') (q.lg,q.n,q.n')=false:=by
              rcases(behind k q hk hgt hlk).1 with hcl|⟨p,hp,_⟩|⟨p,hp,_⟩
              · exact hcl
              · rw[hnl]at hp;cases hp
              · exact absurd hw (ldw hk hp)
            obtain⟨c1,c2,c3,c4⟩:=clash_not hcl;simp only at c1 c2 c3 c4;rcases hw with hw|hw
            · rcases hin with hin|hin|hin
              · exact c3 id hw hin
              · exact c2 id hin hw
              · exact c4 id (.inr hw) hin
            · rcases hin with hin|hin|hin
              · have:=hltr id (.inl hin);omega
              · have:=hltr id (.inr hin);omega
              · omega
      have hregs:∀t,t∈r.o.looksAt ops→(Y6 (fun i=>listed.getD i false) 0 rs (fr.regs,h)).1 t=r.fr.regs t:=by
        intro t ht;have:(Y6 (fun k=>decide (k<i)) 0 rs (fr.regs,h)).1 t=r.fr.regs t:=by rw[hpre]
        rw[←this];refine Yfb rs 0 _ _ rfl (fun k q hk hw=>?_);rw[Nat.zero_add];rcases Nat.lt_trichotomy k i with hlt|heq|hgt
        · cases hlk:listed.getD k false with
          |true=>simp[hlt]
          |false=>
            exfalso;have ha:=(ahead k q hk hlt hlk).2;unfold Rec.wReg at hw;unfold Oper.apart at ha;rw[hw]at ha;simp[ht]at ha
        · subst heq;rw[hli];simp
        · have hd:decide (k<i)=false:=by simp;omega
          rw[hd];cases hlk:listed.getD k false with
          |false=>rfl
          |true=>
            exfalso;have ha:=(behind k q hk hgt hlk).2;unfold Rec.wReg at hw;unfold Oper.apart at ha;rw[hw]at ha;simp[ht]at ha
      have hlist':(fun k=>(listed.setIfInBounds i true).getD k false)=fun k=>listed.getD k false||k==i:=by
        funext k;by_cases e:i=k
        · subst e;simp[Array.getD_eq_getD_getElem?,hsz,his]
        · rw[getD_set_ne false e];have:(k==i)=false:=by simp;exact fun h=>e h.symm
          rw[this,Bool.or_false]
      have hadd:Y6 (fun k=>(listed.setIfInBounds i true).getD k false) 0 rs (fr.regs,h)=r.apply (Y6 (fun i=>listed.getD i false) 0 rs (fr.regs,h)):=by
        rw[hlist'];refine fold_add hr hli ?_ ?_
        · intro m q t hm hlt hlm hw hw';have ha:=(behind m q hm hlt hlm).2;unfold Rec.wReg at hw hw';unfold Oper.apart at ha;rw[hw,hw']at ha;simp at ha
        · intro m q id hm hlt hlm hw hw';have hrange:=Kh ch i m r q hr hm hlt;have hcl:Js (r.lg,r.n,r.n') (q.lg,q.n,q.n')=false:=by
            rcases(behind m q hm hlt hlm).1 with hcl|⟨p,hp,_⟩|⟨p,hp,_⟩
            · exact hcl
            · first|exact absurd hw (ldw hr hp)|exact absurd hw' (ldw hr hp)
            · first|exact absurd hw' (ldw hm hp)|exact absurd hw (ldw hm hp)
          obtain⟨c1,c2,c3,c4⟩:=clash_not hcl;simp only at c1 c2 c3 c4;rcases hw with hw|hw<;>rcases hw' with hw'|hw'
          · exact c2 id hw hw'
          · have:=hltr id (.inr hw);omega
          · exact c4 id (.inr hw') hw
          · omega
      have hnone:∀id,r.n≤id→id<r.n'→μ1 id=none:=by
        intro id h1 h2;rw[hid id (fun k q hk hlk hin=>?_)]
        · exact hfree id (by omega) (by omega)
        · rcases Nat.lt_trichotomy k i with hlt|heq|hgt
          · have:=Kh ch k i q r hk hr hlt;omega
          · subst heq;rw[hli]at hlk;cases hlk
          · have:=Kh ch i k r q hr hk hgt;omega
      have go:∀a' w' μ' M',SR B w0 μ' M' (r.apply (Y6 (fun i=>listed.getD i false) 0 rs (fr.regs,h))).2 w'→μ1.le μ'→M1.le M'→(∀id,¬(r.n≤id∧id<r.n')→μ' id=μ1 id)→RegR μ' M' nt (r.apply (Y6 (fun i=>listed.getD i false) 0 rs (fr.regs,h))).1 a'→wpAny P .any ops Q fuel (listed.setIfInBounds i true) a' w':=?_
      · cases hnl:Yij P A f ops r.o r.fr with
        |none=>exact hrok.1.sim hc hl hB hrok.2.1 ho (hagree hnl) hregs sr hg hnone rr go
        |some p=>
          obtain⟨k1,k2,k3,k4⟩:=ld_rec hnl hrok;have hw:=(ld_opV (call:=call) hnl).1;have wr:∀{k q},rs[k]?=some q→(k<i→listed.getD k false=false)→(i<k→listed.getD k false=true)→q.wId p.1→sliceAt q.h p=sliceAt q.h' p:=by
            intro k q hk h1 h2 hwq;have hr1:p.1∈r.lg.1:=by rw[k3];simp
            obtain⟨_,hqok,_,_⟩:=Yad ch 0 k q hk;rcases Nat.lt_trichotomy k i with hlt|heq|hgt
            · rcases(ahead k q hk hlt (h1 hlt)).1 with hcl|⟨p',hp',_⟩|⟨p',hp',he⟩
              · exfalso;obtain⟨c1,_,_,c4⟩:=clash_not hcl;rcases hwq with hwq|hwq
                · exact c1 _ hwq hr1
                · exact c4 _ (.inl hr1) hwq
              · exact absurd hwq (ldw hk hp')
              · rw[hnl]at hp';cases hp';exact he
            · subst heq;rw[hr]at hk;cases hk;exact absurd hwq (ldw hr hnl)
            · rcases(behind k q hk hgt (h2 hgt)).1 with hcl|⟨p',hp',he⟩|⟨p',hp',_⟩
              · exfalso;obtain⟨_,_,c3,_⟩:=clash_not hcl;have hlow:=hltr p.1 (.inl hr1);have hrange:=Kh ch i k r q hr hk hgt;rcases hwq with hwq|hwq
                · exact c3 _ hwq hr1
                · omega
              · rw[hnl]at hp';cases hp';exact he
              · exact absurd hwq (ldw hk hp')
          have hsl:sliceAt (Y6 (fun i=>listed.getD i false) 0 rs (fr.regs,h)).2 p=sliceAt r.h p:=by
            have hri:sliceAt (Y6 (fun k=>decide (k<i)) 0 rs (fr.regs,h)).2 p=sliceAt r.h p:=by rw[hpre]
            rw[←hri];rcases last_of (fun k=>∃q,rs[k]?=some q∧listed.getD k false=true∧q.wId p.1) rs.length with hno|⟨k,hk,⟨q,hq,hlk,hwq⟩,hlast⟩
            · -- nothing that is done writes there
              have h0:sliceAt (Y6 (fun i=>listed.getD i false) 0 rs (fr.regs,h)).2 p=sliceAt (Y6 (fun k=>decide (k<0)) 0 rs (fr.regs,h)).2 p:=Yc2 (Yep rs 0 _ _ rfl (fun k q hk hwq=>by
                rw[Nat.zero_add];have:=hno k ((Zi.1 hk).1);cases hl:listed.getD k false with
                |false=>simp
                |true=>exact absurd ⟨q,hk,hl,hwq⟩ this))
              rw[h0];refine Yg6 ch i (by omega) (by omega) (fun k q _ h2 hk hwq=>wr hk (fun _=>?_) (fun h3=>by omega) hwq);cases hl:listed.getD k false with
              |false=>rfl
              |true=>exact absurd ⟨q,hk,hl,hwq⟩ (hno k ((Zi.1 hk).1))
            · have hX:(Y6 (fun i=>listed.getD i false) 0 rs (fr.regs,h)).2 p.1=q.h' p.1:=Yal rs 0 k q _ hq (by simpa using hlk) hwq (fun m r' hm hlt hp hwm=>hlast m hlt ((Zi.1 hm).1) ⟨r',hm,by simpa using hp,hwm⟩);have hT:(Y6 (fun x=>decide (x<k+1)) 0 rs (fr.regs,h)).2 p.1=q.h' p.1:=Yal rs 0 k q _ hq (by simp) hwq (fun m r' _ hlt hp=>by simp at hp;omega);rw[Yc2 (hX.trans hT.symm)];rcases Nat.lt_trichotomy k i with hlt|heq|hgt
              · refine Yg6 ch i (by omega) (by omega) (fun m q' h1 h2 hm hwm=>wr hm (fun _=>?_) (fun h3=>by omega) hwm);cases hl:listed.getD m false with
                |false=>rfl
                |true=>exact absurd ⟨q',hm,hl,hwm⟩ (hlast m (by omega) ((Zi.1 hm).1))
              · subst heq;rw[hli]at hlk;cases hlk
              · refine(Yg6 ch (k+1) (by omega) (by omega) (fun m q' h1 h2 hm hwm=>wr hm (fun h3=>by omega) (fun h3=>?_) hwm)).symm;by_cases e:m=k
                · rw[e];exact hlk
                · -- both write there: in order, so done
                  cases hl:listed.getD m false with
                  |true=>rfl
                  |false=>
                    exfalso;have hmk:m<k:=by omega
                    have hu:((Ymc ops.toList []).getD k 0).testBit m=false:=by
                      cases hb:((Ymc ops.toList []).getD k 0).testBit m with
                      |false=>rfl
                      |true=>
                        have hok':=hro' k q hq;have:=Yhp hclo k q.o hok' (fun e he hb=>hclo k q.o hok' hlk e he hb) m hb;rw[hl]at this;cases this
                    obtain⟨_,hmok,_,_⟩:=Yad ch 0 m q' hm;rcases(pair m k q' q hmk hm hq hu).1 with hcl|⟨p',hp',_⟩|⟨p',hp',_⟩
                    · obtain⟨c1,c2,c3,c4⟩:=clash_not hcl;have hrange:=Kh ch m k q' q hm hq hmk;rcases hwm with hwm|hwm<;>rcases hwq with hwq|hwq
                      · exact c2 _ hwm hwq
                      · have:=hmok.2.2.lt _ (.inr hwm);omega
                      · exact c4 _ (.inr hwq) hwm
                      · omega
                    · exact ldw hm hp' hwm
                    · exact ldw hq hp' hwq
          have hltn:n≤n':=by have:=hrok.2.2.le;omega
          have hfX:Qt (Y6 (fun i=>listed.getD i false) 0 rs (fr.regs,h)).2 n':=by
            intro id hid;refine Ynz rs 0 _ (fun q hq=>?_) ?_
            · obtain⟨k,hk⟩:=mem_iff_getElem?.1 hq;obtain⟨_,hqok,_,hqn⟩:=Yad ch 0 k q hk;exact hqok.2.2.fresh id (by omega)
            · have hf0:Qt h n:=Yo6 ch (by intro e;rw[e]at hr;simp at hr);have:=hltn;exact hf0 id (by omega)
          have e0:=k4 _ n' hsl;have hput:Yh4 A f nt r.o r.v r.fr=some r.fr':=by
            have hst:=hrok.1.step;unfold Qd at hst;rw[hw]at hst;simp only at hst;obtain⟨v1,g1,m1,q1,q2,e1,e2,_⟩:=bind_some hst;have e3:=k4 r.h r.n rfl;rw[e3]at e1;simp only[Zs,Zp]at e1;obtain⟨rfl,rfl,rfl,_⟩:=e1;exact(Ye e2).1
          have hdone:OpDone call P A f nt ops r.o r.fr (Y6 (fun i=>listed.getD i false) 0 rs (fr.regs,h)).2 n' r.fr' (Y6 (fun i=>listed.getD i false) 0 rs (fr.regs,h)).2 n' ([p.1],[]) r.v:=by
            refine⟨?_,hrok.1.regs,hrok.1.dst,.inl ⟨hw,e0⟩⟩;unfold Qd;rw[hw];simp only[AM.bind];rw[e0];simp only[hput];simp[AM.lift,AM.pure]
          have hsame:(r.apply (Y6 (fun i=>listed.getD i false) 0 rs (fr.regs,h))).2=(Y6 (fun i=>listed.getD i false) 0 rs (fr.regs,h)).2:=by
            funext id;exact Ydt (ldw hr hnl)
          refine hdone.sim hc hl hB hfX ho (fun _ _=>rfl) hregs sr hg (fun id h1 h2=>by omega) rr ?_;intro a' w' μ' M' s1 s2 s3 s4 s5;refine go a' w' μ' M' ?_ s2 s3 (fun id _=>s4 id (by omega)) s5;rw[hsame];have hov:Yda (Y6 (fun i=>listed.getD i false) 0 rs (fr.regs,h)).2 (Y6 (fun i=>listed.getD i false) 0 rs (fr.regs,h)).2 n' n' ([]:List Nat)=(Y6 (fun i=>listed.getD i false) 0 rs (fr.regs,h)).2:=Ygc _ _ _;rw[hov]at s1;exact s1
      intro a' w' μ' M' s1 s2 s3 s4 s5;refine ih (listed.setIfInBounds i true) a' w' μ' M' (by simpa using hsz) ?_ ?_ ?_ ?_ (hg.mono s3) (hμ.trans s2) (hM.trans s3) ?_
      · intro k o' hk hlk e he hb;by_cases e':i=k
        · subst e';rw[ho]at hk;cases hk;exact getD_set_true (hdeps e he hb)
        · rw[getD_set_ne false e']at hlk;exact getD_set_true (hclo k o' hk hlk e he hb)
      · have:=Yn3 (p:=fun k => !listed.getD k false) (q:=fun k => !(listed.setIfInBounds i true).getD k false) (List.range ops.size) i (mem_range.2 his) (fun x hx=>by
            cases hlx:listed.getD x false with
            |false=>rfl
            |true=>rw[getD_set_true hlx]at hx;cases hx) (by simp only[hli];rfl) (by
            have hx:=congrFun hlist' i;have hx':(listed.setIfInBounds i true).getD i false=true:=by rw[hx];simp
            rw[hx'];rfl)
        omega
      · rw[hadd];exact s1
      · rw[hadd];exact s5
      · intro id hno;rw[s4 id (hno i r hr (by have hx:=congrFun hlist' i;exact hx.trans (by simp)))];refine hid id (fun k q hk hlk=>hno k q hk (getD_set_true hlk))
mutual
theorem Yn2:∀(a b:AV),eqV a b=true→a=b
  |.bool b,v,h=>by
    cases v<;>first|(have h:(b==_)=true:=h;rw[eq_of_beq h];done)|exact absurd (show(false:Bool)=true from h) (by simp)
  |.int k n,v,h=>by
    cases v with
    |int j m=>
      have h:(decide (k=j)&&decide (n=m))=true:=h;simp only[Za,decide_eq_true_eq]at h;rw[h.1,h.2]
    |_=>exact absurd (show(false:Bool)=true from h) (by simp)
  |.str t,v,h=>by
    cases v with
    |str u=>
      have h:decide (t=u)=true:=h;rw[of_decide_eq_true h]
    |_=>exact absurd (show(false:Bool)=true from h) (by simp)
  |.nil k,v,h=>by
    cases v with
    |nil j=>
      have h:decide (k=j)=true:=h;rw[of_decide_eq_true h]
    |_=>exact absurd (show(false:Bool)=true from h) (by simp)
  |.ptr a b,v,h=>by
    cases v with
    |ptr c d=>
      have h:(Nat.beq a c&&Nat.beq b d)=true:=h;simp only[Za]at h;rw[Nat.eq_of_beq_eq_true h.1,Nat.eq_of_beq_eq_true h.2]
    |_=>exact absurd (show(false:Bool)=true from h) (by simp)
  |.tptr cs o,v,h=>by
    cases v with
    |tptr ds p=>
      have h:(eqV (.agg cs) (.agg ds)&&Nat.beq o p)=true:=h;simp only[Za]at h;rw[Jg cs ds h.1,Nat.eq_of_beq_eq_true h.2]
    |_=>exact absurd (show(false:Bool)=true from h) (by simp)
  |.sl a b c d,v,h=>by
    cases v with
    |sl a' b' c' d'=>
      have h:(Nat.beq a a'&&Nat.beq b b'&&Nat.beq c c'&&Nat.beq d d')=true:=h;simp only[Za]at h;rw[Nat.eq_of_beq_eq_true h.1.1.1,Nat.eq_of_beq_eq_true h.1.1.2,Nat.eq_of_beq_eq_true h.1.2,Nat.eq_of_beq_eq_true h.2]
    |_=>exact absurd (show(false:Bool)=true from h) (by simp)
  |.tsl cs l,v,h=>by
    cases v with
    |tsl ds m=>
      have h:(eqV (.agg cs) (.agg ds)&&Nat.beq l m)=true:=h;simp only[Za]at h;rw[Jg cs ds h.1,Nat.eq_of_beq_eq_true h.2]
    |_=>exact absurd (show(false:Bool)=true from h) (by simp)
  |.map a,v,h=>by
    cases v with
    |map b=>
      have h:Nat.beq a b=true:=h;rw[Nat.eq_of_beq_eq_true h]
    |_=>exact absurd (show(false:Bool)=true from h) (by simp)
  |.fn f x y,v,h=>by
    cases v with
    |fn g a b=>
      have h:(Nat.beq f g&&eqV (.agg x) (.agg a)&&eqV (.agg y) (.agg b))=true:=h;simp only[Za]at h;rw[Nat.eq_of_beq_eq_true h.1.1,Jg x a h.1.2,Jg y b h.2]
    |_=>exact absurd (show(false:Bool)=true from h) (by simp)
  |.agg cs,v,h=>by
    cases v with
    |agg ds=>rw[Jg cs ds h]
    |_=>exact absurd (show(false:Bool)=true from h) (by simp)
  |.tup cs,v,h=>by
    cases v with
    |tup ds=>rw[Jg cs ds h]
    |_=>exact absurd (show(false:Bool)=true from h) (by simp)
  |.ifc t w,v,h=>by
    cases v with
    |ifc u x=>
      have h:(Nat.beq t u&&eqV w x)=true:=h;simp only[Za]at h;rw[Nat.eq_of_beq_eq_true h.1,Yn2 w x h.2]
    |_=>exact absurd (show(false:Bool)=true from h) (by simp)
theorem Jg:∀(l m:List AV),eqV (.agg l) (.agg m)=true→l=m
  |[],[],_=>rfl
  |[],_::_,h=>absurd (show(false:Bool)=true from h) (by simp)
  |_::_,[],h=>absurd (show(false:Bool)=true from h) (by simp)
  |a::l,b::m,h=>by
    have h:(eqV a b&&eqV (.agg l) (.agg m))=true:=h;simp only[Za]at h;rw[Yn2 a b h.1,Jg l m h.2]
end
theorem look_some{v:Option (List AV)}(e:AM.look p h n=some (v,h',n',lg)):h'=h∧n'=n∧v=sliceAt h p:=by
  unfold AM.look at e;obtain⟨o,h1,n1,_,_,e1,f1,_⟩:=bind_some e;obtain⟨ho,rfl,rfl⟩:=Q6 e1;obtain⟨rfl,rfl,rfl⟩:=Yh f1;refine⟨rfl,rfl,?_⟩;unfold sliceAt;rw[ho];cases o<;>rfl
theorem Ye8:∀{ps:List Pl} {h h':Ya} {n n':Nat} {vs:List (Option (List AV))} {lg:Log},Yi9 ps h n=some (vs,h',n',lg)→h'=h∧n'=n∧vs=ps.map (Ycg h)
  |[],h,h',n,n',vs,lg,e=>by
    obtain⟨rfl,rfl,rfl⟩:=Yh e;exact⟨rfl,rfl,rfl⟩
  |none::ps,h,h',n,n',vs,lg,e=>by
    unfold Yi9 at e;obtain⟨ws,h1,n1,_,_,e1,f1,_⟩:=bind_some e;obtain⟨rfl,rfl,rfl⟩:=Ye8 e1;obtain⟨rfl,rfl,rfl⟩:=Yh f1;exact⟨rfl,rfl,rfl⟩
  |some p::ps,h,h',n,n',vs,lg,e=>by
    unfold Yi9 at e;obtain⟨v,h1,n1,_,_,e1,f1,_⟩:=bind_some e;obtain⟨rfl,rfl,rfl⟩:=look_some e1;obtain⟨ws,h2,n2,_,_,e2,f2,_⟩:=bind_some f1;obtain⟨rfl,rfl,rfl⟩:=Ye8 e2;obtain⟨rfl,rfl,rfl⟩:=Yh f2;exact⟨rfl,rfl,rfl⟩
theorem Yf9{ps:List Pl}:∀{rs:List Rec} {fr fr':Fr} {h h' h2:Ya} {n n' n2:Nat} {sn:Snap} {lg:Log},Chain call P A f nt ops rs fr h n fr' h' n'→Ybh call P A f nt ops ps (rs.map (·.o)) fr h n=some (sn,h2,n2,lg)→
    sn[0]?=some (ps.map (Ycg h))∧∀(j:Nat) q,rs[j]?=some q→sn[j]?=some (ps.map (Ycg q.h))∧sn[j+1]?=some (ps.map (Ycg q.h'))
  |[],fr,fr',h,h',h2,n,n',n2,sn,lg,ch,e=>by
    unfold Ybh at e;obtain⟨v,h1,n1,_,_,e1,f1,_⟩:=bind_some e;obtain⟨rfl,rfl,rfl⟩:=Ye8 e1;obtain⟨rfl,rfl,rfl⟩:=Yh f1;exact⟨rfl,fun j q hq=>by simp at hq⟩
  |r::rs,fr,fr',h,h',h2,n,n',n2,sn,lg,ch,e=>by
    cases ch with
    |cons _ _ _ _ _ hok hch=>
      simp only[map_cons]at e;unfold Ybh at e;obtain⟨v,h1,n1,_,_,e1,f1,_⟩:=bind_some e;obtain⟨rfl,rfl,rfl⟩:=Ye8 e1;obtain⟨fr1,h3,n3,_,_,e2,f2,_⟩:=bind_some f1;have hst:=hok.1.step;rw[hst]at e2;simp only[Zs,Zp]at e2;obtain⟨rfl,rfl,rfl,_⟩:=e2;obtain⟨vs,h4,n4,_,_,e3,f3,_⟩:=bind_some f2;obtain⟨rfl,rfl,rfl⟩:=Yh f3;obtain⟨g1,g2⟩:=Yf9 hch e3;refine⟨rfl,fun j q hq=>?_⟩;cases j with
      |zero=>
        simp only[Zc,Zs]at hq;subst hq;exact⟨rfl,by simpa using g1⟩
      |succ j=>
        obtain⟨a1,a2⟩:=g2 j q (by simpa using hq);exact⟨by simpa using a1,by simpa using a2⟩
theorem Ykf:∀{rs:List Rec} {fr fr' fr2:Fr} {h h' h2:Ya} {n n' n2:Nat} {es:List (Yf1×Pl)} {lg:Log},Chain call P A f nt ops rs fr h n fr' h' n'→runD call P A f nt ops (rs.map (·.o)) fr h n=some ((fr2,es),h2,n2,lg)→
    fr2=fr'∧h2=h'∧n2=n'∧es=rs.map fun r=>((r.lg,r.n,r.n'),Yij P A f ops r.o r.fr)
  |[],fr,fr',fr2,h,h',h2,n,n',n2,es,lg,ch,e=>by
    cases ch;obtain⟨h1,rfl,rfl⟩:=Yh e;simp only[Zp]at h1;obtain⟨rfl,rfl⟩:=h1;exact⟨rfl,rfl,rfl,rfl⟩
  |r::rs,fr,fr',fr2,h,h',h2,n,n',n2,es,lg,ch,e=>by
    cases ch with
    |cons _ _ _ _ _ hok hch=>
      simp only[map_cons,runD]at e;obtain⟨x,h1,n1,_,_,e1,f1,_⟩:=bind_some e;unfold withLog at e1;rw[hok.1.step]at e1;simp only[Zs,Zp]at e1;obtain⟨rfl,rfl,rfl,_⟩:=e1;obtain⟨y,h3,n3,_,_,e2,f2,_⟩:=bind_some f1;obtain⟨h4,rfl,rfl⟩:=Yh f2;obtain⟨fr4,es4⟩:=y;obtain⟨rfl,rfl,rfl,rfl⟩:=Ykf hch e2;simp only[Zp]at h4;obtain⟨rfl,rfl⟩:=h4;exact⟨rfl,rfl,rfl,rfl⟩
theorem Yol(hm:P.follows .mixedOrders=true)(hc:Yce P A call)(hl:∀f vs,Local (call f vs))(hB:B≤w0.w.heap.size)(hok:Yif ops=true){w:World}{a:Act}
    (hf:Qt h n)(e:Q9 call P A f nt ops fr h n=some (fr',h',n',lg))(sr:SR B w0 μ M h w)(hg:GlobOK A M)(hfree:∀id,n≤id→id<n'→μ id=none)(rr:RegR μ M nt fr.regs a) 
    (hQ:∀a' w' μ' M',SR B w0 μ' M' h' w'→μ.le μ'→M.le M'→(∀id,¬(n≤id∧id<n')→μ' id=μ id)→RegR μ' M' nt fr'.regs a'→Q .normal a' w'):(Code.region id ops true).wp P Q a w:=by
  unfold Q9 at e;cases e1:Xo call P A f nt ops ops.toList fr h n with
  |none=>rw[e1]at e;cases e
  |some x=>
    obtain⟨fr1,h1,n1,lgs⟩:=x;rw[e1]at e;simp only at e;obtain⟨rs,ch,hro,hlg⟩:=Yhu hl hf e1;have main:fr'=fr1∧h'=h1∧n'=n1∧∀p∈Q8 ops,∀r q,rs[p.1]?=some r→rs[p.2]?=some q→Js (r.lg,r.n,r.n') (q.lg,q.n,q.n')=false∨Exc P A f ops r q∨Exc P A f ops q r:=by
      split at e
      · rename_i hcalm;simp only[Zs,Zp]at e;refine⟨e.1.symm,e.2.1.symm,e.2.2.1.symm,fun p hp r q hr hq=> .inl ?_⟩;unfold calm at hcalm;have h1:=all_eq_true.1 hcalm p hp;rw[←hlg]at h1;simpa only[Zd,getElem?_map,hr,hq,Option.map_some,Option.getD_some,Bool.not_eq_true']using h1
      · unfold AM.both at e;split at e
        · cases e
        · rename_i a1 h3 n3 l3 e3;obtain⟨fr3,es⟩:=a1;rw[←hro]at e3;obtain⟨rfl,rfl,rfl,hes⟩:=Ykf ch e3;split at e
          · cases e
          · rename_i sn h4 n4 l4 e4;split at e
            · split at e
              · rename_i x hx;simp only[Zs,Zp]at e;obtain⟨rfl,rfl,rfl,_⟩:=e;replace hx:(if Yr0 ops es sn=true then some fr3 else none)=some x:=hx;split at hx
                · rename_i hcl;simp only[Zs]at hx;refine⟨hx.symm,rfl,rfl,fun p hp r q hr hq=>?_⟩;simp only at e4;rw[←hro]at e4;obtain⟨_,hsn⟩:=Yf9 ch e4;have hc1:=all_eq_true.1 hcl p hp;simp only[Bool.or_eq_true,Bool.not_eq_true']at hc1;have hat:∀i r,rs[i]?=some r→Yp9 es i=(r.lg,r.n,r.n'):=by
                    intro i r hr;unfold Yp9;rw[hes];simp[hr]
                  have hst:∀i j r q,rs[i]?=some r→rs[j]?=some q→Yq3 sn i j=true→Exc P A f ops r q:=by
                    intro i j r q hr hq hs;obtain⟨b1,b2⟩:=hsn j q hq;unfold Yq3 at hs;simp only[Zd,b1,b2,Option.getD_some,getElem?_map]at hs;cases hn:(needs ops es)[i]? with
                    |none=>rw[hn]at hs;simp at hs
                    |some pl=>
                      rw[hn]at hs;simp only[Option.map_some,Option.getD_some]at hs;cases pl with
                      |none=>simp[Ycg]at hs
                      |some pl=>
                        have hld:Yij P A f ops r.o r.fr=some pl:=by
                          unfold needs at hn;simp only[getElem?_map,Option.map_eq_some_iff]at hn;obtain⟨i',hi',hn⟩:=hn;have:i'=i:=by
                            have:=getElem?_range (n:=es.length) (i:=i);obtain⟨hlt,he⟩:=Zi.1 hi';simpa using he.symm
                          subst this;split at hn
                          · rw[hes]at hn;simpa[Zd,hr]using hn
                          · cases hn
                        refine⟨pl,hld,?_⟩;simp only[Ycg]at hs;cases h5:sliceAt q.h pl with
                        |none=>rw[h5]at hs;simp at hs
                        |some x1=>
                          cases h6:sliceAt q.h' pl with
                          |none=>rw[h5,h6]at hs;simp at hs
                          |some x2=>
                            rw[h5,h6]at hs;simp only at hs;rw[Jg _ _ hs]
                  rcases hc1 with (hc1|hc1)|hc1
                  · left;rw[hat _ _ hr,hat _ _ hq]at hc1;exact hc1
                  · exact .inr (.inl (hst _ _ _ _ hr hq hc1))
                  · exact .inr (.inr (hst _ _ _ _ hq hr hc1))
                · cases hx
              · cases e
            · cases e
    obtain⟨rfl,rfl,rfl,hcr⟩:=main;have hfold0:∀(rs:List Rec) (i:Nat) (s:RS),Y6 (fun i=>(Array.replicate ops.size false).getD i false) i rs s=s:=by
      intro rs
      induction rs with
      |nil=>intro i s;rfl
      |cons r rs ih=>
        intro i s;unfold Y6;have:(Array.replicate ops.size false).getD i false=false:=by
          rw[Array.getD_eq_getD_getElem?,Array.getElem?_replicate];split<;>rfl
        rw[this];simp only[Zf,if_false];exact ih _ _
    have hnot:∀i,(Array.replicate ops.size false).getD i false=false:=by
      intro i;rw[Array.getD_eq_getD_getElem?,Array.getElem?_replicate];split<;>rfl
    refine wp_region_any hm ?_;refine draw_any hc hl hB hok ch hro hcr hfree hQ ops.size (Array.replicate ops.size false) a w.drew μ M (by simp) ?_ ?_ ?_ ?_ hg (.refl _) (.refl _) (fun _ _=>rfl)
    · intro i o _ hi;simp only[hnot]at hi;cases hi
    · exact Nat.le_trans countP_le_length (by simp)
    · rw[hfold0];exact sr.drew (sr.le_size hB)
    · rw[hfold0];exact rr
end
end Go.Abs
