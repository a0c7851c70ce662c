import Derived.Test.YtibdecjfdpmfoaaGreatAbsSlimW
import Derived.Laws.StructEq
namespace Go.Abs
open List hiding cons nil
variable {fs:Array Field} {xs ys:Array Value} {a b mx r:Bool} {offs:List (Nat×Nat)} {cs ds:List AV} {d n:Nat} {ox oy:Operand} {p:Prop} {α β:Type} {t:TypeId} {g:α→Sem β}
section
variable {P:Program} {A:Ann} {f:Nat} {E:Lk} {rg:Nat→AV} {h:Ya}
theorem Xc{a:α}:∀{x:Sem α},spr P x=some a→spr P (x >>= g)=spr P (g a)
 |.pure b,h=>by simp only[spr,Zs]at h;subst h;rfl
 |.program k,h=>Xc (x:=k P) h
 |.mark _ k,h=>Xc (x:=k) h
theorem Qe{d:TypeDesc}(h:P.underlying t=some d):spr P (underlying t)=some d:=by
 show spr P (match P.underlying t with
  |some d=>pure d
  |none=>stuck "no such type")=some d
 rw[h];rfl
theorem Ya5{x:Option α}{g:α→β}{b:β}(h:x.map g=some b):∃a,x=some a∧g a=b:=by
 cases x with
 |none=>cases h
 |some a=>exact⟨a,rfl,by simpa using h⟩
theorem Xz{r:Option Nat}(h:Yfp P t=some r):(∃n,r=some n∧Ymd P t=some true∧Kx P t=some n)∨(r=none∧Ymd P t=some false∧∃n,Kx P t=some n):=by
 unfold Yfp at h;split at h
 ·rename_i n h1 h2;exact .inl ⟨n,by simpa using h.symm,h1,h2⟩
 ·rename_i n h1 h2;exact .inr ⟨by simpa using h.symm,h1,n,h2⟩
 ·cases h
theorem Yam(hs:Sat E rg){lo:Option Operand}{slo:Option SX}{d l:Int}(hlo:Yms A lo=some slo)(hl:evI E d slo=some l) :
  ∃r,evo (Qb A rg) lo=some r∧((r=none∧l=d)∨∃a,r=some a∧Yct a=some l):=by
 cases lo with
 |none=>
  simp only[Yms,Zs]at hlo;subst hlo;simp only[evI,Zs]at hl;exact⟨none,rfl,.inl ⟨rfl,hl.symm⟩⟩
 |some x=>
  obtain⟨y,hy,rfl⟩:=Ya5 hlo;simp only[evI]at hl;split at hl
  ·rename_i k n hn;simp only[Zs]at hl;subst hl;exact⟨some (.int k n),by simp[evo,Yg hs hy hn],.inr ⟨_,rfl,rfl⟩⟩
  ·cases hl
theorem Yb3{len:Nat}{lo hi:Option AV}{l h:Int}(hlo:(lo=none∧l=0)∨∃a,lo=some a∧Yct a=some l)(hhi:(hi=none∧h=len)∨∃a,hi=some a∧Yct a=some h)
  (hb:0≤l∧l≤h∧h≤len):Jt len lo hi=some (l.toNat,h.toNat):=by
 obtain⟨b1,b2,b3⟩:=hb;unfold Jt;rcases hhi with ⟨rfl,rfl⟩|⟨a,rfl,ha⟩
 ·rcases hlo with ⟨rfl,rfl⟩|⟨c,rfl,hc⟩
  ·simp
  ·simp only[hc];rw[if_pos ⟨b1,by omega⟩];simp
 ·simp only[ha];rw[if_pos ⟨by omega,b3⟩];rcases hlo with ⟨rfl,rfl⟩|⟨c,rfl,hc⟩
  ·simp
  ·simp only[hc];rw[if_pos ⟨b1,b2⟩]
theorem spr_eqb(ht:P.underlying t=some .bool):spr P (Op.equal t (.bool a) (.bool b))=some (a==b):=by
 show spr P (Op.equalIn (9999+1) t (.bool a) (.bool b))=_;unfold Op.equalIn;rw[Xc (Qe ht)];rfl
theorem bin_beq(ht:P.underlying t=some .bool):Yk6 P .eql t ox oy (.bool a) (.bool b)=some (.bool (a==b)):=by
 have e:(do eqGuard .eql t ox oy (.bool a) (.bool b);binOp .eql t (.bool a) (.bool b):Sem Value)=(Op.equal t (.bool a) (.bool b) >>= fun r=>pure (.bool r)):=rfl;unfold Yk6;simp only[Yjn,Xj,e];rw[Xc (spr_eqb ht)];rfl
theorem bin_bne(ht:P.underlying t=some .bool):Yk6 P .neq t ox oy (.bool a) (.bool b)=some (.bool (!(a==b))):=by
 have e:(do eqGuard .neq t ox oy (.bool a) (.bool b);binOp .neq t (.bool a) (.bool b):Sem Value)=(Op.equal t (.bool a) (.bool b) >>= fun r=>pure (.bool (!r))):=rfl;unfold Yk6;simp only[Yjn,Xj,e];rw[Xc (spr_eqb ht)];rfl
theorem Yeq:∀{cs:List AV},cs.all scal=true→∃vs:List Value,cs.mapM Xj=some vs∧vs.length=cs.length∧∀i,(hi:i<cs.length)→vs[i]?=Xj cs[i]
 |[],_=>⟨[],rfl,rfl,fun i hi=>absurd hi (by simp)⟩
 |a::l,h=>by
  simp only[all_cons,Za]at h;obtain⟨vs,h1,h2,h3⟩:=Yeq h.2;have ha:∃v,Xj a=some v:=by
   have:=h.1;cases a<;>first|exact⟨_,rfl⟩|cases this
  obtain⟨v,hv⟩:=ha;refine⟨v::vs,by simp[mapM_cons,hv,h1],by simp[h2],fun i hi=>?_⟩;cases i with
  |zero=>simp[hv]
  |succ i=>simpa using h3 i (by simpa using hi)
theorem Ymm(h:tagT P t=some n):(n=0∧∃k,P.underlying t=some (.int k))∨(n=1∧P.underlying t=some .string)∨(n=2∧P.underlying t=some .bool):=by
 unfold tagT at h;split at h
 ·rename_i k hk;exact .inl ⟨by simpa using h.symm,k,hk⟩
 ·rename_i hk;exact .inr (.inl ⟨by simpa using h.symm,hk⟩)
 ·rename_i hk;exact .inr (.inr ⟨by simpa using h.symm,hk⟩)
 ·cases h
theorem Yid{o:Nat}{v:Value}(h:tagT P t=some n)(hv:xs[o]?=some v):spr P (part t xs o)=some v:=by
 have e:spr P (isAgg t)=some false:=by
  unfold isAgg;rcases Ymm h with ⟨_,k,hk⟩|⟨_,hk⟩|⟨_,hk⟩<;>(rw[Xc (Qe hk)];rfl)
 unfold part;rw[Xc e];simp only[Zf,if_false,hv];rfl
theorem Ylc{a b:AV}{u v:Value}(ht:tagT P t=some n)(ha:Xj a=some u)(hb:Xj b=some v)(h:eqC n a b=some r) :
  spr P (Op.equalIn (d+1) t u v)=some r:=by
 rcases Ymm ht with ⟨rfl,k',hu⟩|⟨rfl,hu⟩|⟨rfl,hu⟩
 ·cases a<;>cases b<;>simp only[eqC,reduceCtorEq]at h
  simp only[Xj,Zs]at ha hb;subst ha;subst hb;split at h
  ·rename_i hkk;simp only[Zs]at h;subst h;subst hkk;unfold Op.equalIn;rw[Xc (Qe hu)];simp only[if_true];rfl
  ·cases h
 ·cases a<;>cases b<;>simp only[eqC,reduceCtorEq]at h
  simp only[Xj,Zs]at ha hb;subst ha;subst hb;simp only[Zs]at h;subst h;unfold Op.equalIn;rw[Xc (Qe hu)];show some _=some _
  congr 1
  rw[beq_toListBytes,ByteArray.toList_eq,ByteArray.toList_eq]
 ·cases a<;>cases b<;>simp only[eqC,reduceCtorEq]at h
  simp only[Xj,Zs]at ha hb;subst ha;subst hb;simp only[Zs]at h;subst h;unfold Op.equalIn;rw[Xc (Qe hu)];rfl
theorem Ykd(hx:∀(i:Nat) (a:AV),cs[i]?=some a→∃v,xs[i]?=some v∧Xj a=some v)(hy:∀(i:Nat) (a:AV),ds[i]?=some a→∃v,ys[i]?=some v∧Xj a=some v) :
  ∀{fs:List Field} {offs:List (Nat×Nat)} {r:Bool},tagsF P fs=some offs→Yas cs ds offs=some r→spr P (Op.eqFields (d+1) xs ys fs)=some r
 |[],offs,r,h,e=>by
  simp only[tagsF,Zs]at h;subst h;simp only[Yas,Zs]at e;subst e;rfl
 |f::fs,offs,r,h,e=>by
  simp only[tagsF]at h;split at h
  ·rename_i t rest ht hrest;split at h
   ·cases h
   ·rename_i hn;simp only[Zs]at h;subst h;simp only[Yas]at e;split at e
    ·rename_i a b ha hb;obtain⟨u,hu,hu'⟩:=hx _ _ ha;obtain⟨v,hv,hv'⟩:=hy _ _ hb;unfold Op.eqFields;rw[if_pos hn,Xc (Yid ht hu),Xc (Yid ht hv)];split at e
     ·rename_i hc;rw[Xc (Ylc ht hu' hv' hc)];simp only[Bool.not_true,Zf,if_false];exact Ykd hx hy hrest e
     ·rename_i hc;rw[Xc (Ylc ht hu' hv' hc)];simp only[Zs]at e;subst e;rfl
     ·cases e
    ·cases e
  ·cases h
theorem Xr(x:Sem α):spr P (x >>= g)=(spr P x).bind fun a=>spr P (g a):=by
 induction x with
 |program k ih=>exact ih P
 |mark _ k ih=>exact ih
 |_=>rfl
theorem Yh3(ht:P.underlying t=some (.struct fs))(hp:P.stoodInHeld t=false)(h:spr P (Op.eqFields d xs ys fs.toList)=some r) :
  spr P (Op.equalIn (d+1) t (.agg xs) (.agg ys))=some r:=by
 unfold Op.equalIn;rw[Xc (Qe ht)];have e1:spr P (program)=some P:=rfl;simp only[];rw[Xc e1];simp only[hp,Zf,if_false];rw[←Array.forIn_toList];generalize fs.toList=l at h;clear ht
 induction l with
 |nil=>
  simp only[Op.eqFields]at h;exact h
 |cons f l ih=>
  rw[forIn_cons];unfold Op.eqFields at h;split at h
  ·rename_i hn;rw[if_pos hn];rw[Xr]at h;cases h1:spr P (part f.type xs f.offset) with
   |none=>rw[h1]at h;cases h
   |some a=>
    rw[h1,Option.bind_some,Xr]at h;cases h2:spr P (part f.type ys f.offset) with
    |none=>rw[h2]at h;cases h
    |some b=>
     rw[h2,Option.bind_some,Xr]at h;cases h3:spr P (Op.equalIn d f.type a b) with
     |none=>rw[h3]at h;cases h
     |some e=>
      rw[h3,Option.bind_some]at h;rw[Xr,Xr,Xr,h1,Option.bind_some,Xr,h2,Option.bind_some,Xr,h3,Option.bind_some];cases e with
      |true=>
       simp only[Bool.not_true,Zf,if_false]at h ⊢;have:=ih h;rw[Xr]at this;exact this
      |false=>
       simp only[Bool.not_false,if_true]at h ⊢;exact h
  ·rename_i hn;rw[if_neg hn];have:=ih h;rw[Xr]at this ⊢;exact this
theorem Yl1{vs:List Value}(h2:vs.length=cs.length)(h3:∀i,(hi:i<cs.length)→vs[i]?=Xj cs[i])(i:Nat)(a:AV)(h:cs[i]?=some a):∃v,vs.toArray[i]?=some v∧Xj a=some v:=by
 obtain⟨hi,rfl⟩:=Zi.1 h;have e:=h3 i hi;have hv:vs[i]?=some vs[i]:=Zi.2 ⟨by omega,rfl⟩;refine⟨vs[i],by simp[hv],?_⟩;rw[←e,hv]
theorem bin_eqs{neg:Bool}(ht:P.underlying t=some (.struct fs))(hf:flatS P t fs=some offs)(hc:cs.all scal=true)(hd:ds.all scal=true)
  (h:Yas cs ds offs=some r):Yk6 P (if neg then .neq else .eql) t ox oy (.agg cs) (.agg ds)=some (.bool (if neg then !r else r)):=by
 unfold flatS at hf;split at hf
 ·cases hf
 rename_i hn;simp only[Bool.or_eq_true,not_or,Bool.not_eq_true]at hn;obtain⟨vs,a1,a2,a3⟩:=Yeq hc;obtain⟨ws,b1,b2,b3⟩:=Yeq hd;have e:=Ykd (d:=9998) (Yl1 a2 a3) (Yl1 b2 b3) hf h;have e2:spr P (Op.equal t (.agg vs.toArray) (.agg ws.toArray))=some r:=Yh3 (d:=9999) ht hn.1 e;have g:∀op,(op= .eql∨op= .neq)→spr P (eqGuard op t ox oy (.agg vs.toArray) (.agg ws.toArray))=some ():=by
  intro op hop;have e1:spr P (program)=some P:=rfl;unfold eqGuard;rcases hop with rfl|rfl<;>simp only[Bool.not_true,Zf,if_false]<;>rw[Xc e1,Xc e1]<;>simp only[hn.2,Bool.not_false,if_true]<;>rfl
 unfold Yk6;simp only[Yjn,a1,b1,Option.map_some];cases neg with
 |false=>
  simp only[Zf,if_false];rw[Xc (g _ (.inl rfl))];show(spr P (Op.equal t (.agg vs.toArray) (.agg ws.toArray) >>= fun r=>pure (.bool r))).bind ofv=_;rw[Xc e2];rfl
 |true=>
  simp only[if_true];rw[Xc (g _ (.inr rfl))];show(spr P (Op.equal t (.agg vs.toArray) (.agg ws.toArray) >>= fun r=>pure (.bool (!r)))).bind ofv=_;rw[Xc e2];rfl
theorem Yix{e:TypeId}{g:Nat}(ht:P.underlying t=some (.array n e))(hg:tagT P e=some g)(hs:Kx P e=some 1)
  (hx:∀(i:Nat) (a:AV),cs[i]?=some a→∃v,xs[i]?=some v∧Xj a=some v)(hy:∀(i:Nat) (a:AV),ds[i]?=some a→∃v,ys[i]?=some v∧Xj a=some v)
  (h:Yas cs ds ((List.range' 0 n).map fun i=>(i,g))=some r):spr P (Op.equalIn (d+1+1) t (.agg xs) (.agg ys))=some r:=by
 unfold Op.equalIn;rw[Xc (Qe ht)];have e1:spr P (sizeOf e)=some 1:=by
  unfold Kx at hs;obtain⟨i,hi,h1⟩:=Option.map_eq_some_iff.1 hs;have e0:spr P (program)=some P:=rfl;unfold sizeOf typeInfo;rw[Xr,Xr,e0,Option.bind_some,hi];show some i.size=some 1;rw[h1]
 simp only[];rw[Xc e1];rw[Std.Legacy.Range.forIn_eq_forIn_range'];simp only[Std.Legacy.Range.size,Nat.sub_zero,Nat.add_sub_cancel,Nat.div_one];clear ht;generalize 0=m at h ⊢
 induction n generalizing m with
 |zero=>
  simp only[range'_zero,map_nil,Yas]at h;exact h
 |succ n ih=>
  rw[range'_succ,map_cons]at h;rw[range'_succ,forIn_cons];simp only[Yas]at h;split at h
  ·rename_i a b ha hb;obtain⟨u,hu,hu'⟩:=hx _ _ ha;obtain⟨v,hv,hv'⟩:=hy _ _ hb;have p1:spr P (part e xs (m*1))=some u:=by rw[Nat.mul_one];exact Yid hg hu
   have p2:spr P (part e ys (m*1))=some v:=by rw[Nat.mul_one];exact Yid hg hv
   split at h
   ·rename_i hc;have p3:=Ylc (d:=d) hg hu' hv' hc;have:=ih (m+1) h;rw[Xr,Xr,Xr,p1,Option.bind_some,Xr,p2,Option.bind_some,Xr,p3,Option.bind_some];simp only[Bool.not_true,Zf,if_false];rw[Xr]at this;exact this
   ·rename_i hc;have p3:=Ylc (d:=d) hg hu' hv' hc;rw[Xr,Xr,Xr,p1,Option.bind_some,Xr,p2,Option.bind_some,Xr,p3,Option.bind_some];simp only[Zs]at h;subst h;rfl
   ·cases h
  ·cases h
theorem bin_eqa{e:TypeId}{neg:Bool}(ht:P.underlying t=some (.array n e))(hf:flatA P t n e=some offs)(hc:cs.all scal=true)(hd:ds.all scal=true)
  (h:Yas cs ds offs=some r):Yk6 P (if neg then .neq else .eql) t ox oy (.agg cs) (.agg ds)=some (.bool (if neg then !r else r)):=by
 unfold flatA at hf;split at hf
 ·cases hf
 rename_i hn;simp only[Bool.not_eq_true]at hn;split at hf
 ·rename_i g hg hs;split at hf
  ·simp only[Zs]at hf;subst hf;obtain⟨vs,a1,a2,a3⟩:=Yeq hc;obtain⟨ws,b1,b2,b3⟩:=Yeq hd;have e2:spr P (Op.equal t (.agg vs.toArray) (.agg ws.toArray))=some r:=Yix (d:=9998) ht hg hs (Yl1 a2 a3) (Yl1 b2 b3) h;have g:∀op,(op= .eql∨op= .neq)→spr P (eqGuard op t ox oy (.agg vs.toArray) (.agg ws.toArray))=some ():=by
    intro op hop;have e1:spr P (program)=some P:=rfl;unfold eqGuard;rcases hop with rfl|rfl<;>simp only[Bool.not_true,Zf,if_false]<;>rw[Xc e1,Xc e1]<;>simp only[hn,Bool.not_false,if_true]<;>rfl
   unfold Yk6;simp only[Yjn,a1,b1,Option.map_some];cases neg with
   |false=>
    simp only[Zf,if_false];rw[Xc (g _ (.inl rfl))];show(spr P (Op.equal t (.agg vs.toArray) (.agg ws.toArray) >>= fun r=>pure (.bool r))).bind ofv=_;rw[Xc e2];rfl
   |true=>
    simp only[if_true];rw[Xc (g _ (.inr rfl))];show(spr P (Op.equal t (.agg vs.toArray) (.agg ws.toArray) >>= fun r=>pure (.bool (!r)))).bind ofv=_;rw[Xc e2];rfl
  ·cases hf
 ·cases hf
theorem Yp6{k:IntKind}:∀{l:List AV} {a m:Int},mnxI mx k a l=some m→∃vs,l.mapM Yjn=some vs∧spr P (vs.foldlM (if mx then Builtin.max2 else Builtin.min2) (.int k a))=some (.int k m)
 |[],a,m,h=>by
  simp only[mnxI,Zs]at h;subst h;exact⟨[],rfl,rfl⟩
 |v::l,a,m,h=>by
  cases v with
  |int k' b=>
   simp only[mnxI]at h;split at h
   ·rename_i hk;subst hk;obtain⟨vs,h1,h2⟩:=Yp6 h;refine⟨.int k b::vs,?_,?_⟩
    ·simp[mapM_cons,Yjn,Xj,h1]
    ·cases mx with
     |true=>
      have e:(if b>a then b else a)=max a b:=by omega
      simp only[if_true,foldlM_cons,Builtin.max2,e]at h2 ⊢;exact h2
     |false=>
      have e:(if b<a then b else a)=min a b:=by omega
      simp only[Zf,if_false,foldlM_cons,Builtin.min2,e]at h2 ⊢;exact h2
   ·cases h
  |_=>simp[mnxI]at h
theorem Ynh{args:Array Operand}{ts:Array TypeId}{l:List SX}{v:AV}(hs:Sat E rg)(hl:Yq8 A args.toList=some l)(hv:sv E (.mnx mx l)=some (p,v)) :
  opM P (Qb A rg) (.call {callee:= .builtin (if mx then .max else .min),args:=args,argTypes:=ts})=AM.pure v:=by
 simp only[sv]at hv;split at hv
 ·rename_i k a r ha;split at hv
  ·rename_i m hm;simp only[Zs,Zp]at hv;obtain⟨_,rfl⟩:=hv;obtain⟨vs,h1,h2⟩:=Yp6 (P:=P) hm;have e:Yhe P mx (.int k a::r)=some (.int k m):=by
    unfold Yhe;have:(AV.int k a::r).mapM Yjn=some (.int k a::vs):=by simp[mapM_cons,Yjn,Xj,h1]
    rw[this];cases mx<;>simp only[Zf,if_false,if_true,Builtin.max_,Builtin.min_]at h2 ⊢ <;> rw[h2]<;>rfl
   cases mx<;>simp only[Zf,if_false,if_true,opM,J0 hs hl ha,Yd,Yj,Q7,e]
  ·cases hv
 ·cases hv
theorem sv_pure{op:Op}{k:SK}{v:AV}(hk:slK P A false op=some k)(hs:Sat E rg)(hv:sv E k=some (p,v))(hp:p):opM P (Qb A rg) op=AM.pure v:=by
 cases op with
 |move x|assign x=>
  simp only[slK,Zf,if_false]at hk;obtain⟨y,hy,rfl⟩:=Ya5 hk;simp only[sv]at hv;split at hv
  ·rename_i a ha;simp only[Zs,Zp]at hv;obtain⟨_,rfl⟩:=hv;simp only[opM,Yg hs hy ha,Yd]
  ·cases hv
 |pick c a b=>
  simp only[slK,Zf,if_false]at hk;split at hk
  ·rename_i c' a' b' hc ha hb;simp only[Zs]at hk;subst hk;simp only[sv]at hv;split at hv
   ·rename_i h1;split at hv
    ·rename_i w hw;simp only[Zs,Zp]at hv;obtain⟨_,rfl⟩:=hv;simp only[opM,Yg hs hc h1,if_true,Yg hs ha hw,Yd]
    ·cases hv
   ·rename_i h1;split at hv
    ·rename_i w hw;simp only[Zs,Zp]at hv;obtain⟨_,rfl⟩:=hv;simp only[opM,Yg hs hc h1,Zf,if_false,Yg hs hb hw,Yd]
    ·cases hv
   ·cases hv
  ·cases hk
 |load t x=>
  simp only[slK,Zf,if_false]at hk;split at hk
  ·rename_i y n hy hn;simp only[Zs]at hk;subst hk;rcases Xz hn with ⟨m,rfl,h1,h2⟩|⟨rfl,h1,m,h2⟩
   ·simp only[sv]at hv;split at hv
    ·rename_i cs o ho;split at hv
     ·rename_i l hl;simp only[Zs,Zp]at hv;obtain⟨_,rfl⟩:=hv;simp only[opM,Yg hs hy ho,Yd,Yj,Kq,h1,h2,Xt,if_true,hl,X9]
     ·cases hv
    ·cases hv
   ·simp only[sv]at hv;split at hv
    ·rename_i cs o ho;split at hv
     ·rename_i w hw;simp only[Zs,Zp]at hv;obtain⟨_,rfl⟩:=hv;have hl:Yp cs o 1=some [w]:=by
       have hlt:=(Zi.1 hw).1;unfold Yp;rw[if_pos (by omega)]
       congr 1
       rw[drop_eq_getElem_cons hlt,(Zi.1 hw).2];rfl
      simp only[opM,Yg hs hy ho,Yd,Yj,Kq,h1,h2,Xt,Zf,if_false,hl,X9]
     ·cases hv
    ·cases hv
  ·cases hk
 |fieldAddr t x i=>
  simp only[slK,Zf,if_false]at hk;split at hk
  ·rename_i y fs hy ht;split at hk
   ·rename_i fd hfd;split at hk
    ·rename_i m hm;simp only[Zs]at hk;subst hk;simp only[sv]at hv;split at hv
     ·rename_i cs o ho;simp only[Zs,Zp]at hv;obtain⟨_,rfl⟩:=hv;simp only[opM,Yg hs hy ho,Yd,Yj,Ycv,ht,hfd,hm,Yr4]
     ·rename_i id o ho;simp only[Zs,Zp]at hv;obtain⟨_,rfl⟩:=hv;simp only[opM,Yg hs hy ho,Yd,Yj,Ycv,ht,hfd,hm,Yr4]
     ·cases hv
    ·cases hk
   ·cases hk
  ·cases hk
 |extract x i=>
  simp only[slK,Zf,if_false]at hk;obtain⟨y,hy,rfl⟩:=Ya5 hk;simp only[sv]at hv;split at hv
  ·rename_i vs hvs;split at hv
   ·rename_i w hw;simp only[Zs,Zp]at hv;obtain⟨_,rfl⟩:=hv;simp only[opM,Yg hs hy hvs,hw,Yd]
   ·cases hv
  ·cases hv
 |nilCheck x=>
  simp only[slK,Zf,if_false]at hk;obtain⟨y,hy,rfl⟩:=Ya5 hk;simp only[sv]at hv;split at hv
  ·rename_i w hw;split at hv
   ·rename_i hn;simp only[Zs,Zp]at hv;obtain⟨_,rfl⟩:=hv;simp only[opM,Yg hs hy hw,hn]
   ·cases hv
  ·cases hv
 |unOp op t x=>
  simp only[slK,Zf,if_false]at hk;obtain⟨y,hy,rfl⟩:=Ya5 hk;simp only[sv]at hv;split at hv
  ·rename_i kk n hn;simp only[Zs,Zp]at hv;obtain⟨_,rfl⟩:=hv;simp only[opM,Yg hs hy hn,Yd,Yj];rfl
  ·rename_i kk n hn;simp only[Zs,Zp]at hv;obtain⟨_,rfl⟩:=hv;simp only[opM,Yg hs hy hn,Yd,Yj];rfl
  ·rename_i b hn;simp only[Zs,Zp]at hv;obtain⟨_,rfl⟩:=hv;simp only[opM,Yg hs hy hn,Yd,Yj];rfl
  ·cases hv
 |makeFunc fn first cap=>
  simp only[slK,Zf,if_false]at hk;split at hk
  ·rename_i g;split at hk
   ·rename_i a b ha hb;simp only[Zs]at hk;subst hk;simp only[sv]at hv;split at hv
    ·rename_i u w hu hw;simp only[Zs,Zp]at hv;obtain⟨_,rfl⟩:=hv;simp only[opM,J0 hs ha hu,J0 hs hb hw,Yd,Yj]
    ·cases hv
   ·cases hk
  ·cases hk
 |binOp op t x y z=>
  simp only[slK,Zf,if_false]at hk;split at hk
  ·rename_i y' kk d hx hy ht;split at hk
   ·rename_i hd;have hyv:Qb A rg y=some (.nil kk):=Yg hs hy (v:= .nil kk) rfl;have fin:∀(neg:Bool) (bop:BinOp),(bop= .eql∧neg=false)∨(bop= .neq∧neg=true)→k= .isnil neg kk y'→opM P (Qb A rg) (.binOp bop t x y z)=AM.pure v:=by
     intro neg bop hb hkk;subst hkk;simp only[sv]at hv;split at hv
     ·rename_i w hw;split at hv
      ·rename_i b k' h1 h2;split at hv
       ·rename_i hke;simp only[Zs,Zp]at hv;obtain⟨_,rfl⟩:=hv;subst hke;have hfit:Yde P t k' w=true:=by
         unfold Yde;rw[ht,h2];unfold nilAt at hd;simp only[BEq.rfl,Bool.true_and];cases d<;>cases k'<;>first|rfl|cases hd
        simp only[opM,Yg hs hx hw,hyv,Yd,Yj];have hcn:Yjn (.nil k')=none:=rfl;rcases hb with ⟨rfl,rfl⟩|⟨rfl,rfl⟩
        ·unfold Yk6;rw[hcn];cases hcw:Yjn w<;>simp[hfit,h1,Yd]
        ·unfold Yk6;rw[hcn];cases hcw:Yjn w<;>simp[hfit,h1,Yd]
       ·cases hv
      ·cases hv
     ·cases hv
    split at hk
    ·simp only[Zs]at hk;exact fin false _ (.inl ⟨rfl,rfl⟩) hk.symm
    ·simp only[Zs]at hk;exact fin true _ (.inr ⟨rfl,rfl⟩) hk.symm
    ·cases hk
   ·cases hk
  ·rename_i x' y' _ hx hy ht;have fin:∀(neg:Bool) (bop:BinOp),(bop= .eql∧neg=false)∨(bop= .neq∧neg=true)→k= .beq neg x' y'→opM P (Qb A rg) (.binOp bop t x y z)=AM.pure v:=by
    intro neg bop hb hkk;subst hkk;simp only[sv]at hv;split at hv
    ·rename_i a b ha hb';simp only[Zs,Zp]at hv;obtain⟨_,rfl⟩:=hv;simp only[opM,Yg hs hx ha,Yg hs hy hb',Yd,Yj];rcases hb with ⟨rfl,rfl⟩|⟨rfl,rfl⟩
     ·rw[bin_beq ht];rfl
     ·rw[bin_bne ht];rfl
    ·cases hv
   split at hk
   ·simp only[Zs]at hk;exact fin false _ (.inl ⟨rfl,rfl⟩) hk.symm
   ·simp only[Zs]at hk;exact fin true _ (.inr ⟨rfl,rfl⟩) hk.symm
   ·cases hk
  ·rename_i x' y' fs _ hx hy ht;have fin:∀(neg:Bool) (bop:BinOp),(bop=if neg then .neq else .eql)→(∃o,flatS P t fs=some o∧k= .eqs neg o x' y')→opM P (Qb A rg) (.binOp bop t x y z)=AM.pure v:=by
    rintro neg bop rfl ⟨o,ho,hkk⟩;subst hkk;simp only[sv]at hv;split at hv
    ·rename_i cs ds ha hb';split at hv
     ·rename_i hsc;simp only[Za]at hsc;split at hv
      ·rename_i b hb;simp only[Zs,Zp]at hv;obtain⟨_,rfl⟩:=hv;simp only[opM,Yg hs hx ha,Yg hs hy hb',Yd,Yj];rw[bin_eqs ht ho hsc.1 hsc.2 hb];rfl
      ·cases hv
     ·cases hv
    ·cases hv
   split at hk
   ·obtain⟨o,ho,rfl⟩:=Ya5 hk;exact fin false _ rfl ⟨o,ho,rfl⟩
   ·obtain⟨o,ho,rfl⟩:=Ya5 hk;exact fin true _ rfl ⟨o,ho,rfl⟩
   ·cases hk
  ·rename_i x' y' n e _ hx hy ht;have fin:∀(neg:Bool) (bop:BinOp),(bop=if neg then .neq else .eql)→(∃o,flatA P t n e=some o∧k= .eqs neg o x' y')→opM P (Qb A rg) (.binOp bop t x y z)=AM.pure v:=by
    rintro neg bop rfl ⟨o,ho,hkk⟩;subst hkk;simp only[sv]at hv;split at hv
    ·rename_i cs ds ha hb';split at hv
     ·rename_i hsc;simp only[Za]at hsc;split at hv
      ·rename_i b hb;simp only[Zs,Zp]at hv;obtain⟨_,rfl⟩:=hv;simp only[opM,Yg hs hx ha,Yg hs hy hb',Yd,Yj];rw[bin_eqa ht ho hsc.1 hsc.2 hb];rfl
      ·cases hv
     ·cases hv
    ·cases hv
   split at hk
   ·obtain⟨o,ho,rfl⟩:=Ya5 hk;exact fin false _ rfl ⟨o,ho,rfl⟩
   ·obtain⟨o,ho,rfl⟩:=Ya5 hk;exact fin true _ rfl ⟨o,ho,rfl⟩
   ·cases hk
  ·rename_i x' y' d _ _ _ hx hy ht;simp only[Zs]at hk;subst hk;simp only[sv]at hv;split at hv
   ·rename_i a b ha hb;simp only[opM,Yg hs hx ha,Yg hs hy hb,Yd,Yj,Yr2 hv hp]
   ·cases hv
  ·cases hk
 |convert s d x=>
  simp only[slK,Zf,if_false]at hk;split at hk
  ·rename_i y k1 k2 hy h1 h2;simp only[Zs]at hk;subst hk;simp only[sv]at hv;split at hv
   ·rename_i kk n hn;simp only[Zs,Zp]at hv;obtain⟨_,rfl⟩:=hv;simp only[opM,Yg hs hy hn,Yd,Yj,K3,h1,h2];have:spr P (convert s d (.int kk n))=some (.int k2 (k2.wrap n)):=by
     unfold convert;rw[Xc (Qe h1),Xc (Qe h2)];cases k1<;>rfl
    rw[this];rfl
   ·cases hv
  ·rename_i y hy h1 h2;simp only[Zs]at hk;subst hk;simp only[sv]at hv;split at hv
   ·rename_i a ha;simp only[Zs,Zp]at hv;obtain⟨_,rfl⟩:=hv;simp only[opM,Yg hs hy ha,Yd,Yj,K3,h1,h2]
   ·cases hv
  ·rename_i y e hy h1 h2;split at hk
   ·rename_i hb;simp only[Zs]at hk;subst hk;simp only[sv]at hv;split at hv
    ·rename_i hn;simp only[Zs,Zp]at hv;obtain⟨_,rfl⟩:=hv;simp only[opM,Yg hs hy hn,Yd,Yj,K3,h1,h2,hb,if_true]
    ·rename_i cs len hn;split at hv
     ·rename_i l hl;split at hv
      ·rename_i b hbb;simp only[Zs,Zp]at hv;obtain⟨_,rfl⟩:=hv;simp only[opM,Yg hs hy hn,Yd,Yj,K3,h1,h2,hb,if_true,hl,hbb,Option.map_some]
      ·cases hv
     ·cases hv
    ·cases hv
   ·cases hk
  ·cases hk
 |build t ps=>
  simp only[slK,Zf,if_false]at hk;split at hk
  ·rename_i z fs hz ht;split at hk
   ·rename_i hall;obtain⟨l,hl,rfl⟩:=Ya5 hk;simp only[sv]at hv;split at hv
    ·rename_i cs hcs;simp only[Zs,Zp]at hv;obtain⟨_,rfl⟩:=hv;obtain⟨vs,e1,e2⟩:=J6 hs hl hcs;simp only[opM,e1,Yd,Yj,Yn6,hz,ht,hall,if_true,e2,Option.map_some]
    ·cases hv
   ·cases hk
  ·rename_i z n e hz ht;split at hk
   ·rename_i s hs';obtain⟨l,hl,rfl⟩:=Ya5 hk;simp only[sv]at hv;split at hv
    ·rename_i cs hcs;simp only[Zs,Zp]at hv;obtain⟨_,rfl⟩:=hv;obtain⟨vs,e1,e2⟩:=J6 hs hl hcs;simp only[opM,e1,Yd,Yj,Yn6,hz,ht,hs',e2,Option.map_some]
    ·cases hv
   ·cases hk
  ·cases hk
 |slice t x lo hi mx=>
  cases mx with
  |some m=>simp[slK]at hk
  |none=>
  simp only[slK,Zf,if_false]at hk;split at hk
  ·rename_i y slo shi hx hlo hhi ht;simp only[Zs]at hk;subst hk;simp only[sv]at hv;split at hv
   ·rename_i tt htt;split at hv
    ·rename_i l hh h1 h2;simp only[Zs,Zp]at hv;obtain⟨rfl,rfl⟩:=hv;obtain⟨r1,e1,e2⟩:=Yam hs hlo h1;obtain⟨r2,e3,e4⟩:=Yam hs hhi h2;simp only[opM,Yg hs hx htt,e1,e3,Yd,Yj,Yfj,ht,Yb3 e2 e4 hp]
    ·cases hv
   ·cases hv
  ·rename_i y slo shi e hx hlo hhi ht;obtain⟨s,hs',rfl⟩:=Ya5 hk;simp only[sv]at hv;split at hv
   ·rename_i htt;split at hv
    ·rename_i l hh h1 h2;simp only[Zs,Zp]at hv;obtain⟨rfl,rfl⟩:=hv;obtain⟨r1,e1,e2⟩:=Yam hs hlo h1;obtain⟨r2,e3,e4⟩:=Yam hs hhi h2;simp only[opM,Yg hs hx htt,e1,e3,Yd,Yj,Yfj,ht,hs',Yb3 (len:=0) e2 e4 (by omega)]
    ·cases hv
   ·rename_i cs len htt;split at hv
    ·rename_i l hh h1 h2;simp only[Zs,Zp]at hv;obtain⟨rfl,rfl⟩:=hv;obtain⟨r1,e1,e2⟩:=Yam hs hlo h1;obtain⟨r2,e3,e4⟩:=Yam hs hhi h2;simp only[opM,Yg hs hx htt,e1,e3,Yd,Yj,Yfj,ht,hs',Yb3 e2 e4 hp]
    ·cases hv
   ·rename_i id off len sz htt;split at hv
    ·rename_i l hh h1 h2;simp only[Zs,Zp]at hv;obtain⟨rfl,rfl⟩:=hv;obtain⟨r1,e1,e2⟩:=Yam hs hlo h1;obtain⟨r2,e3,e4⟩:=Yam hs hhi h2;obtain⟨rfl,hp⟩:=hp;simp only[opM,Yg hs hx htt,e1,e3,Yd,Yj,Yfj,ht,hs',Yb3 e2 e4 hp,if_true]
    ·cases hv
   ·cases hv
  ·cases hk
 |field t x i=>
  simp only[slK,Zf,if_false]at hk;split at hk
  ·rename_i y fs hy ht;split at hk
   ·rename_i fd hfd;obtain⟨n,hn,rfl⟩:=Ya5 hk;rcases Xz hn with ⟨m,rfl,h1,h2⟩|⟨rfl,h1,m,h2⟩
    ·simp only[sv]at hv;split at hv
     ·rename_i cs ho;split at hv
      ·rename_i l hl;simp only[Zs,Zp]at hv;obtain⟨_,rfl⟩:=hv;simp only[opM,Yg hs hy ho,Yd,Yj,Yn0,ht,hfd,Ym3,h1,h2,hl,Option.map_some]
      ·cases hv
     ·cases hv
    ·simp only[sv]at hv;split at hv
     ·rename_i cs ho;split at hv
      ·rename_i w hw;simp only[Zs,Zp]at hv;obtain⟨_,rfl⟩:=hv;simp only[opM,Yg hs hy ho,Yd,Yj,Yn0,ht,hfd,Ym3,h1,h2,hw]
      ·cases hv
     ·cases hv
   ·cases hk
  ·cases hk
 |index t x ix=>
  simp only[slK,Zf,if_false]at hk;split at hk
  ·rename_i y i' hy hi ht;simp only[Zs]at hk;subst hk;simp only[sv]at hv;split at hv
   ·rename_i tt kk z h1 h2;simp only[Zs,Zp]at hv;obtain⟨rfl,rfl⟩:=hv;have hlt:z.toNat<tt.length:=by omega
    simp only[opM,Yg hs hy h1,Yg hs hi h2,Yd,Yj,Ykv,Yct,ht];rw[if_pos hp.1,Zg hlt,Zd,Zg hlt];rfl
   ·cases hv
  ·rename_i y i' n e hy hi ht;split at hk
   ·rename_i s g q1 q2;simp only[Zs]at hk;subst hk;rcases Xz q2 with ⟨m,rfl,g1,g2⟩|⟨rfl,g1,m,g2⟩
    ·simp only[sv]at hv;split at hv
     ·rename_i cs kk z h1 h2;simp only[Zs,Zp]at hv;obtain⟨rfl,rfl⟩:=hv;simp only[opM,Yg hs hy h1,Yg hs hi h2,Yd,Yj,Ykv,Yct,ht,q1];rw[if_pos ⟨hp.1,hp.2.1⟩];simp only[Ym3,g1,g2,Yp,hp.2.2,if_true,Option.map_some];rfl
     ·cases hv
    ·simp only[sv]at hv;split at hv
     ·rename_i cs kk z h1 h2;simp only[Zs,Zp]at hv;obtain⟨rfl,rfl⟩:=hv;simp only[opM,Yg hs hy h1,Yg hs hi h2,Yd,Yj,Ykv,Yct,ht,q1];rw[if_pos ⟨hp.1,hp.2.1⟩];simp only[Ym3,g1,g2];rw[Zd,Zg hp.2.2];rfl
     ·cases hv
   ·cases hk
  ·cases hk
 |indexAddr t x ix=>
  simp only[slK,Zf,if_false]at hk;split at hk
  ·rename_i y i' n e hy hi ht;obtain⟨s,hs',rfl⟩:=Ya5 hk;simp only[sv]at hv;split at hv
   ·rename_i cs o kk z m h1 h2 h3;cases h3;simp only[Zs,Zp]at hv;obtain⟨rfl,rfl⟩:=hv;simp only[opM,Yg hs hy h1,Yg hs hi h2,Yd,Yj,J5,Yct,ht,hs',Yr4];rw[if_pos hp];rfl
   ·rename_i id o kk z m h1 h2 h3;cases h3;simp only[Zs,Zp]at hv;obtain⟨rfl,rfl⟩:=hv;simp only[opM,Yg hs hy h1,Yg hs hi h2,Yd,Yj,J5,Yct,ht,hs',Yr4];rw[if_pos hp];rfl
   ·rename_i h3;cases h3
   ·rename_i h3;cases h3
   ·cases hv
  ·rename_i y i' e hy hi ht;obtain⟨s,hs',rfl⟩:=Ya5 hk;simp only[sv]at hv;split at hv
   ·rename_i h3;cases h3
   ·rename_i h3;cases h3
   ·rename_i cs len kk z h1 h2 _;simp only[Zs,Zp]at hv;obtain⟨rfl,rfl⟩:=hv;simp only[opM,Yg hs hy h1,Yg hs hi h2,Yd,Yj,J5,Yct,ht,hs'];rw[if_pos hp];rfl
   ·rename_i id off len sz kk z h1 h2 _;simp only[Zs,Zp]at hv;obtain⟨rfl,rfl⟩:=hv;obtain⟨rfl,hp⟩:=hp;simp only[opM,Yg hs hy h1,Yg hs hi h2,Yd,Yj,J5,Yct,ht,hs'];rw[if_pos ⟨trivial,hp⟩];rfl
   ·cases hv
  ·cases hk
 |makeInterface t x=>
  simp only[slK,Zf,if_false]at hk;split at hk
  ·cases hk
  ·rename_i hni;obtain⟨y,hy,rfl⟩:=Ya5 hk;simp only[sv]at hv;split at hv
   ·rename_i w hw;simp only[Zs,Zp]at hv;obtain⟨_,rfl⟩:=hv;simp only[opM,Yg hs hy hw,Yd,Yj,ifcA];rw[if_neg hni];rfl
   ·cases hv
 |typeAssert x t0 t ok=>
  simp only[slK,Zf,if_false]at hk;split at hk
  ·cases hk
  ·rename_i hni;obtain⟨y,hy,rfl⟩:=Ya5 hk;simp only[sv]at hv;split at hv
   ·rename_i u w hw;split at hv
    ·rename_i hu;simp only[Zs,Zp]at hv;obtain⟨_,rfl⟩:=hv;simp only[opM,Yg hs hy hw,Yd,Yj,Yo8];rw[if_neg hni,if_pos hu];rfl
    ·cases hv
   ·cases hv
 |call c=>
  obtain⟨callee,args,ats⟩:=c;cases callee with
  |value x=>
   simp only[slK]at hk;split at hk
   ·simp only[Zs]at hk;subst hk;simp[sv]at hv
   ·cases hk
  |invoke x m=>
   simp only[slK]at hk;split at hk
   ·simp only[Zs]at hk;subst hk;simp[sv]at hv
   ·cases hk
  |builtin b=>
   cases b with
   |len=>
    simp only[slK,Zf,if_false]at hk;split at hk
    ·rename_i x t r ha ht;split at hk
     ·rename_i y n e hy hu;simp only[Zs]at hk;subst hk;simp only[sv]at hv;split at hv
      ·rename_i w hw;simp only[Zs,Zp]at hv;obtain⟨_,rfl⟩:=hv;simp only[opM,ha,ht,evs,Yg hs hy hw,Option.map_some,Yd,Yj,Q7,lenA,hu]
      ·cases hv
     ·rename_i y e hy hu;simp only[Zs]at hk;subst hk;simp only[sv]at hv;split at hv
      ·rename_i hq;simp only[Zs,Zp]at hv;obtain⟨_,rfl⟩:=hv;simp only[opM,ha,ht,evs,Yg hs hy hq,Option.map_some,Yd,Yj,Q7,lenA,hu]
      ·rename_i id off n sz hq;simp only[Zs,Zp]at hv;obtain⟨_,rfl⟩:=hv;simp only[opM,ha,ht,evs,Yg hs hy hq,Option.map_some,Yd,Yj,Q7,lenA,hu]
      ·rename_i cs n hq;simp only[Zs,Zp]at hv;obtain⟨_,rfl⟩:=hv;simp only[opM,ha,ht,evs,Yg hs hy hq,Option.map_some,Yd,Yj,Q7,lenA,hu]
      ·cases hv
     ·rename_i y hy hu;simp only[Zs]at hk;subst hk;simp only[sv]at hv;split at hv
      ·rename_i t hq;simp only[Zs,Zp]at hv;obtain⟨_,rfl⟩:=hv;simp only[opM,ha,ht,evs,Yg hs hy hq,Option.map_some,Yd,Yj,Q7,lenA,hu]
      ·cases hv
     ·cases hk
    ·cases hk
   |min=>
    simp only[slK,Zf,if_false]at hk;obtain⟨l,hl,rfl⟩:=Ya5 hk;exact Ynh hs hl hv
   |max=>
    simp only[slK,Zf,if_false]at hk;obtain⟨l,hl,rfl⟩:=Ya5 hk;exact Ynh hs hl hv
   |_=>simp[slK]at hk
 |_=>simp[slK]at hk
end
end Go.Abs
