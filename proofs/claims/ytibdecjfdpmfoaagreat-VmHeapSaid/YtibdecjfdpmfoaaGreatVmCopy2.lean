import Derived.Test.YtibdecjfdpmfoaaGreatVmFrame2
open Go Go.Abs Go.Proofs.SlimCode Go.Img Go.Vm
namespace Go.Vm
open List
variable {c:Cp} {h u:Hp} {a:Int} {i p:Nat} {α:Type} {l:List α} {d:α}
theorem Ybl{m:List α}(h:i<l.length):(l++m).getD i d=l.getD i d:=by
 rw[Zd,Zd,getElem?_append_left h]
theorem Yem{m:List α}(h:l.length≤i):(l++m).getD i d=m.getD (i-l.length) d:=by
 rw[Zd,Zd,getElem?_append_right h]
theorem Yqg{n:Nat}:(List.replicate n d).getD i d=d:=by
 rw[Zd,getElem?_replicate];split<;>rfl
theorem getD_ge(h:l.length≤i):l.getD i d=d:=by
 rw[Zd,getElem?_eq_none h];rfl
theorem Ylz{j:Nat}{a:α}:(l.set i a).getD j d=if i=j∧i<l.length then a else l.getD j d:=by
 rw[Zd,Zd,getElem?_set];by_cases h:i=j
 ·subst h;by_cases h2:i<l.length
  ·simp[h2]
  ·simp[h2]
 ·simp[h]
theorem HOk.lt(H:HOk u)(h:u.st.getD p false=true):p<u.w.length:=by
 rw[←H.st];rcases Nat.lt_or_ge p u.st.length with h1|h1
 ·exact h1
 ·rw[getD_ge h1]at h;cases h
theorem HOk.has_iff(H:HOk u):u.has a=true↔∃p:Nat,a=p∧u.st.getD p false=true:=by
 constructor
 ·intro h;unfold Hp.has at h;split at h
  ·rename_i ha;exact⟨a.toNat,by omega,h⟩
  ·cases h
 ·rintro⟨p,rfl,h⟩;have:=H.lt h;unfold Hp.has;rw[if_pos (by omega),Zn];exact h
theorem HOk.at(H:HOk u)(h:u.st.getD p false=true):u.has p=true∧u.kind p=u.w.getD p 0∧u.len p=u.w.getD (p+1) 0:=by
 have h1:u.has p=true:=H.has_iff.2 ⟨p,rfl,h⟩;refine⟨h1,?_,?_⟩
 ·rw[Hp.kind,if_pos h1,Zn]
 ·rw[Hp.len,if_pos h1];rfl
theorem HOk.no(h:u.has a=false):u.kind a= -1∧u.len a=0:=by
 rw[Hp.kind,Hp.len,h];exact⟨rfl,rfl⟩
structure Like (u v:Hp) (a:Int):Prop where
 has:v.has a=u.has a
 kind:v.kind a=u.kind a
 len:v.len a=u.len a
theorem HOk.new{n:Int}(h:0≤n∧n≤1048576):HOk (.new n):=by
 refine⟨by show 0≤min (max n 0) 1048576∧min (max n 0) 1048576≤_;omega,by show(0:Int)≤min (max n 0) 1048576;omega,rfl,fun _ hx=>(nomatch hx),fun a h=>?_,fun p q h=>?_⟩<;>(cases h)
theorem HOk.make{v:Hp}{k n:Int}(H:HOk u)(h:u.make k n=some (v,a)):HOk v∧v.n=u.n∧a=u.w.length∧v.w.length=u.w.length+2+n.toNat∧0≤n∧n≤1000∧v.has a=true∧v.kind a=k∧v.len a=n∧(∀i,v.get a i=0)∧(∀b,u.has b=true→Like u v b∧∀i,v.get b i=u.get b i)∧∀b,v.has b=true→b=a∨u.has b=true:=by
 unfold Hp.make at h;split at h;rotate_left
 ·cases h
 rename_i hm;simp only[Zs,Zp]at h;obtain⟨rfl,rfl⟩:=h;have hm1:0≤k∧k≤10000∧0≤n∧n≤1000:=hm.1;have hst:=H.st;have hcap:=H.cap;have hn:=H.n;generalize hv:(⟨u.n,(u.w++[k,n])++List.replicate n.toNat 0,(u.st++[true])++List.replicate (n+1).toNat false⟩:Hp)=v;have vw:v.w=(u.w++[k,n])++List.replicate n.toNat 0:=by rw[←hv]
 have vs:v.st=(u.st++[true])++List.replicate (n+1).toNat false:=by rw[←hv]
 have vn:v.n=u.n:=by rw[←hv]
 have lw:v.w.length=u.w.length+2+n.toNat:=by rw[vw];simp;omega
 have ls:v.st.length=u.w.length+2+n.toNat:=by rw[vs];simp;omega
 have g1:∀i<u.w.length,v.w.getD i 0=u.w.getD i 0:=fun i hi=>by rw[vw,Ybl (by simp;omega),Ybl hi]
 have g2:v.w.getD u.w.length 0=k:=by rw[vw,Ybl (by simp),Yem (Zl _)];simp
 have g3:v.w.getD (u.w.length+1) 0=n:=by rw[vw,Ybl (by simp),Yem (by omega)];simp
 have g4:∀i,u.w.length+2≤i→v.w.getD i 0=0:=fun i hi=>by rw[vw,Yem (by simpa using hi),Yqg]
 have s1:∀i<u.w.length,v.st.getD i false=u.st.getD i false:=fun i hi=>by rw[vs,Ybl (by simp;omega),Ybl (by omega)]
 have s2:v.st.getD u.w.length false=true:=by rw[vs,Ybl (by simp;omega),Yem (by omega),hst];simp
 have s3:∀i,u.w.length<i→v.st.getD i false=false:=fun i hi=>by rw[vs,Yem (by simp;omega),Yqg]
 have sx:∀i,v.st.getD i false=true→i=u.w.length∨i<u.w.length∧u.st.getD i false=true:=fun i hi=>by
  rcases Nat.lt_trichotomy i u.w.length with h|h|h
  ·exact .inr ⟨h,by rw[←s1 i h];exact hi⟩
  ·exact .inl h
  ·rw[s3 i h]at hi;cases hi
 have hob:∀i,i<u.w.length→u.st.getD i false=true→i+1<u.w.length∧(i:Int)+2+u.w.getD (i+1) 0≤u.w.length:=fun i _ hi=>by
  obtain⟨o1,_,o3⟩:=H.ob i hi;exact⟨o1,by omega⟩
 have HV:HOk v:=by
  refine⟨by rw[vn];exact hn,by rw[lw,vn];omega,by rw[ls,lw],?_,?_,?_⟩
  ·intro x hx;rw[vw]at hx;rcases mem_append.1 hx with h|h
   ·rcases mem_append.1 h with h|h
    ·exact H.i32 x h
    ·simp only[mem_cons,not_mem_nil,or_false]at h;unfold I32;rcases h with rfl|rfl<;>omega
   ·rw[eq_of_mem_replicate h];exact⟨by decide,by decide⟩
  ·intro i hi;rcases sx i hi with rfl|⟨h1,h2⟩
   ·refine⟨by omega,?_,?_⟩
    ·rw[g2,g3];exact hm.1
    ·rw[g3,lw];omega
   ·obtain⟨o1,o2,o3⟩:=H.ob i h2;refine⟨by omega,?_,?_⟩
    ·rw[g1 i h1,g1 _ o1];exact o2
    ·rw[g1 _ o1];omega
  ·intro p q hp hq hpq;rcases sx p hp with rfl|⟨h1,h2⟩
   ·rcases sx q hq with rfl|⟨h3,_⟩<;>omega
   ·have o:=hob p h1 h2;rw[g1 _ o.1];rcases sx q hq with rfl|⟨h3,h4⟩
    ·exact o.2
    ·exact H.sep p q h2 h4 hpq
 have hl:∀b,u.has b=true→Like u v b:=fun b hb=>by
  obtain⟨p,rfl,hp⟩:=H.has_iff.1 hb;have hlt:=H.lt hp;have o:=hob p hlt hp;obtain⟨a1,a2,a3⟩:=H.at hp;obtain⟨b1,b2,b3⟩:=HV.at (p:=p) (by rw[s1 p hlt];exact hp);exact⟨by rw[a1,b1],by rw[a2,b2,g1 p hlt],by rw[a3,b3,g1 _ o.1]⟩
 obtain⟨b1,b2,b3⟩:=HV.at s2;refine⟨HV,vn,rfl,lw,hm1.2.2.1,hm1.2.2.2,b1,b2.trans g2,b3.trans g3,fun i=>?_,fun b hb=>⟨hl b hb,fun i=>?_⟩,fun b hb=>?_⟩
 ·unfold Hp.get;split
  ·exact g4 _ (by omega)
  ·rfl
 ·unfold Hp.get;rw[(hl b hb).len];split
  ·rename_i hi;obtain⟨p,rfl,hp⟩:=H.has_iff.1 hb;have hlt:=H.lt hp;have o:=hob p hlt hp;rw[(H.at hp).2.2]at hi;exact g1 _ (by omega)
  ·rfl
 ·obtain⟨p,rfl,hp⟩:=HV.has_iff.1 hb;rcases sx p hp with rfl|⟨_,h2⟩
  ·exact .inl rfl
  ·exact .inr (H.has_iff.2 ⟨p,rfl,h2⟩)
theorem HOk.put{i x:Int}(H:HOk u)(hx:I32 x):HOk (u.put a i x)∧(u.put a i x).n=u.n∧(u.put a i x).w.length=u.w.length∧(∀b,Like u (u.put a i x) b)∧∀b j,(u.put a i x).get b j=if 0≤i∧i<u.len a∧b=a∧j=i then x else u.get b j:=by
 unfold Hp.put;split;rotate_left
 ·rename_i h;exact⟨H,rfl,rfl,fun b=>⟨rfl,rfl,rfl⟩,fun b j=>by rw[if_neg fun h2=>h ⟨h2.1,h2.2.1⟩]⟩
 rename_i hi;obtain⟨l1,l2,l3⟩:=H.len a;obtain⟨n,rfl,hn,hl⟩:=l3 (by omega);obtain⟨n',e,hs⟩:=H.has_iff.1 hn;obtain rfl:n=n':=by omega
 have hlen:=(H.at hs).2.2;generalize hz:((n:Int)+2+i).toNat=z;have hz':(z:Int)=n+2+i:=by omega
 have nh:∀p,u.st.getD p false=true→z≠p∧z≠p+1:=fun p hp=>by
  have o:=(H.ob p hp).2.1;unfold Yme at o;rcases Nat.lt_trichotomy p n with h|rfl|h
  ·have:=H.sep p n hp hs h;omega
  ·omega
  ·have:=H.sep n p hs hp h;omega
 generalize hv:({u with w:=u.w.set z x}:Hp)=v;have vw:v.w=u.w.set z x:=by rw[←hv]
 have vs:v.st=u.st:=by rw[←hv]
 have vn:v.n=u.n:=by rw[←hv]
 have lw:v.w.length=u.w.length:=by rw[vw,length_set]
 have g:∀p,u.st.getD p false=true→v.w.getD p 0=u.w.getD p 0∧v.w.getD (p+1) 0=u.w.getD (p+1) 0:=fun p hp=>by
  have:=nh p hp;rw[vw,Ylz,Ylz,if_neg (by omega),if_neg (by omega)];exact⟨rfl,rfl⟩
 have HV:HOk v:=by
  refine⟨by rw[vn];exact H.n,by rw[lw,vn];exact H.cap,by rw[vs,lw,H.st],?_,?_,?_⟩
  ·intro y hy;rw[vw]at hy;rcases mem_or_eq_of_mem_set hy with h|rfl
   ·exact H.i32 y h
   ·exact hx
  ·intro p hp;rw[vs]at hp;obtain⟨o1,o2,o3⟩:=H.ob p hp;refine⟨by omega,?_,?_⟩
   ·rw[(g p hp).1,(g p hp).2];exact o2
   ·rw[(g p hp).2,lw];exact o3
  ·intro p q hp hq hpq;rw[vs]at hp hq;rw[(g p hp).2];exact H.sep p q hp hq hpq
 have hl:∀b,Like u v b:=fun b=>by
  have e1:v.has b=u.has b:=by unfold Hp.has;rw[vs,lw]
  cases hb:u.has b with
  |false=>
   rw[hb]at e1;obtain⟨a1,a2⟩:=HOk.no hb;obtain⟨b1,b2⟩:=HOk.no e1;exact⟨by rw[e1,hb],by rw[a1,b1],by rw[a2,b2]⟩
  |true=>
   obtain⟨p,rfl,hp⟩:=H.has_iff.1 hb;obtain⟨a1,a2,a3⟩:=H.at hp;obtain⟨b1,b2,b3⟩:=HV.at (p:=p) (by rw[vs];exact hp);exact⟨by rw[e1],by rw[a2,b2,(g p hp).1],by rw[a3,b3,(g p hp).2]⟩
 refine⟨HV,vn,lw,hl,fun b j=>?_⟩;unfold Hp.get;rw[(hl b).len];by_cases hj:0≤j∧j<u.len b
 ·rw[if_pos hj,if_pos hj,vw,Ylz];obtain⟨q,rfl,hq,hql⟩:=(H.len b).2.2 (by omega);obtain⟨q',e2,hs2⟩:=H.has_iff.1 hq;obtain rfl:q=q':=by omega
  have hlq:=(H.at hs2).2.2;by_cases hb:q=n
  ·subst hb;by_cases hji:j=i
   ·subst hji;rw[if_pos ⟨by omega,by omega⟩,if_pos ⟨hi.1,hi.2,rfl,rfl⟩]
   ·rw[if_neg (by omega),if_neg (by omega)]
  ·rw[if_neg,if_neg (by omega)];rcases Nat.lt_or_gt_of_ne hb with h|h
   ·have:=H.sep q n hs2 hs h;omega
   ·have:=H.sep n q hs hs2 h;omega
 ·rw[if_neg hj,if_neg hj,if_neg];rintro⟨_,_,rfl,rfl⟩;exact hj hi
theorem pig:∀(n:Nat) (l:List Nat),l.Nodup→(∀x∈l,x<n)→l.length≤n
 |0,[],_,_=>Zl _
 |0,x::_,_,h=>absurd (h x (.head _)) (Nat.not_lt_zero _)
 |n+1,l,hn,h=>by
  have:=pig n (l.erase n) (hn.erase n) (fun x hx=>by
   have h1:=(hn.mem_erase_iff).1 hx;have h2:=h x h1.2;omega)
  rw[length_erase]at this;split at this<;>omega
structure CpOk (h:Hp) (c:Cp):Prop where
 to:HOk c.to
 n:c.to.n=h.n
 ord:c.ord=c.mp.map (·.1)
 nd:c.ord.Nodup
 has:∀a∈c.ord,h.has a=true
 mp:∀p∈c.mp,p.2= -1∨(c.to.has p.2=true∧c.to.kind p.2=h.kind p.1∧c.to.len p.2=h.len p.1)
theorem CpOk.len(H:HOk h)(C:CpOk h c):c.ord.length≤h.w.length:=by
 have h1:(c.ord.map Int.toNat).length≤h.w.length:=by
  refine pig _ _ ?_ ?_
  ·rw[List.Nodup,pairwise_map];refine C.nd.imp_of_mem fun{a b} ha hb hab e=>hab ?_;obtain⟨p,rfl,_⟩:=H.has_iff.1 (C.has a ha);obtain⟨q,rfl,_⟩:=H.has_iff.1 (C.has b hb);omega
  ·intro x hx;obtain⟨a,ha,rfl⟩:=mem_map.1 hx;obtain⟨p,rfl,hp⟩:=H.has_iff.1 (C.has a ha);exact H.lt hp
 rwa[length_map]at h1
theorem Ykq{t:Int}:∀{l:List (Int×Int)},l.lookup a=some t→(a,t)∈l
 |p::l,h=>by
  rw[List.lookup]at h;split at h
  ·rename_i e;have:a=p.1:=by simpa using e
   cases h;rw[this];exact .head _
  ·exact .tail _ (Ykq h)
theorem Yi8:∀{l:List (Int×Int)},l.lookup a=none→a∉l.map (·.1)
 |[],_=>by simp
 |p::l,h=>by
  rw[List.lookup]at h;split at h
  ·cases h
  ·rename_i e;have h1:=Yi8 h;simp only[map_cons,mem_cons,not_or];exact⟨by simpa using e,h1⟩
theorem HOk.has_lt(H:HOk u)(h:u.has a=true):0≤a∧a<1048576:=by
 obtain⟨p,rfl,hp⟩:=H.has_iff.1 h;have:=H.lt hp;have:=H.cap;have:=H.n;omega
theorem CpOk.place(C:CpOk h c)(a:Int):CpOk h (c.place h a).1∧((c.place h a).2= -1∨(c.place h a).1.to.has (c.place h a).2=true)∧∀b,c.to.has b=true→(c.place h a).1.to.has b=true:=by
 unfold Cp.place;split
 ·exact⟨C,.inl rfl,fun _ hb=>hb⟩
 rename_i ha;have ha:h.has a=true:=by simpa using ha
 split
 ·rename_i t ht;refine⟨C,?_,fun _ hb=>hb⟩;rcases C.mp _ (Ykq ht) with h1|h1
  ·exact .inl h1
  ·exact .inr h1.1
 rename_i hl;have hn:=Yi8 hl;have h3:∀(u:Hp) (t:Int),HOk u→u.n=h.n→(∀b,c.to.has b=true→Like c.to u b)→(t= -1∨(u.has t=true∧u.kind t=h.kind a∧u.len t=h.len a))→CpOk h ⟨u,c.mp++[(a,t)],c.ord++[a]⟩:=fun u t h1 h2 h3 h4=>by
  refine⟨h1,h2,?_,?_,?_,?_⟩
  ·rw[map_append,C.ord];rfl
  ·rw[nodup_append];refine⟨C.nd,by simp,?_⟩;intro x hx y hy e;obtain rfl:=Zm.1 hy;rw[C.ord,e]at hx;exact hn hx
  ·intro x hx;rcases mem_append.1 hx with hx|hx
   ·exact C.has x hx
   ·obtain rfl:=Zm.1 hx;exact ha
  ·intro p hp;rcases mem_append.1 hp with hp|hp
   ·rcases C.mp p hp with h5|⟨h5,h6,h7⟩
    ·exact .inl h5
    ·have:=h3 _ h5;exact .inr ⟨by rw[this.has];exact h5,by rw[this.kind];exact h6,by rw[this.len];exact h7⟩
   ·obtain rfl:=Zm.1 hp;exact h4
 split
 ·rename_i u t hm;obtain⟨m1,m2,m3,m4,m5,m6,m7,m8,m9,m10,m11,m12⟩:=C.to.make hm;exact⟨h3 u t m1 (m2.trans C.n) (fun b hb=>(m11 b hb).1) (.inr ⟨m7,m8,m9⟩),.inr m7,fun b hb=>by
   show u.has b=true;rw[(m11 b hb).1.has];exact hb⟩
 ·exact⟨h3 c.to (-1) C.to C.n (fun b _=>⟨rfl,rfl,rfl⟩) (.inl rfl),.inl rfl,fun b hb=>hb⟩
theorem place_new(ha:h.has a=true)(hl:c.mp.lookup a=none):c.place h a=match c.to.make (h.kind a) (h.len a) with|some (u,t)=>((⟨u,c.mp++[(a,t)],c.ord++[a]⟩:Cp),t)|none=>(⟨c.to,c.mp++[(a,-1)],c.ord++[a]⟩,-1):=by
 unfold Cp.place;rw[if_neg (by simp[ha]),hl];rfl
structure Ko where
 oi:Nat
 ovw:AV
 ovs:AV
 Low:OL
 Los:OL
 ci:Nat
 mi:Nat
 ti:Nat
 mm:Nat
 mcs:List AV
structure Kt where
 vord:AV
 tvw:AV
 tvs:AV
 Lord:OL
 Ltw:OL
 Lts:OL
def KX (o:Ko) (t:Kt) (h:Hp) (c:Cp):CL:=[[(o.ci,.cells [.ptr o.oi 0,.ptr o.ti 0,.map o.mi,t.vord])],[(o.mi,Yjz c.mp)],[(o.ti,.cells [I c.to.n,t.tvw,t.tvs])],[(o.mm,.cells o.mcs)],[(o.oi,.cells [I h.n,o.ovw,o.ovs])],o.Low,o.Los,t.Lord,t.Ltw,t.Lts]
structure KO (o:Ko) (h:Hp):Prop where
 w:SlE eW 1 o.ovw h.w o.Low
 s:SlE eB 1 o.ovs h.st o.Los
structure KT (t:Kt) (c:Cp):Prop where
 o:SlE eI 1 t.vord c.ord t.Lord
 w:SlE eW 1 t.tvw c.to.w t.Ltw
 s:SlE eB 1 t.tvs c.to.st t.Lts
theorem KO.hv{o:Ko}{G:Ya}{xs:CL}(K:KO o h)(hD:Dis G xs.flatten)(h1:xs[4]?=some [(o.oi,.cells [I h.n,o.ovw,o.ovs])])(h2:xs[5]?=some o.Low)(h3:xs[6]?=some o.Los):HV (hset G xs.flatten) o.oi h o.ovw o.ovs:=
 ⟨Yk hD (Yi h1 (.head _)),K.w.sl encW (Xi hD h2),K.s.sl encB (Xi hD h3)⟩
end Go.Vm
set_option maxRecDepth 100000
namespace Go.Proofs
open List
open Go.Proofs.Tryz
variable {g:Ya} {o:Ko} {t:Kt} {h:Hp} {c:Cp} {a:Int}
theorem v151(KA:KO o h)(KB:KT t c)(H:HOk h)(C:CpOk h c):HM prog ann 151 [.ptr o.ci 0,I a] g (KX o t h c) fun v ys _=>v=I (c.place h a).2∧∃t',ys=KX o t' h (c.place h a).1∧KT t' (c.place h a).1:=by
 intro G hg hD;have V:=KA.hv hD rfl rfl rfl;have hm:hset G (KX o t h c).flatten o.mi=some (Yjz c.mp):=Yk hD (Yi (k:=1) rfl (.head _));have hc0:hset G (KX o t h c).flatten o.ci=some (.cells [.ptr o.oi 0,.ptr o.ti 0,.map o.mi,t.vord]):=Yk hD (Yi (k:=0) rfl (.head _));have hlen:=C.len H;have hcap:=H.cap;have hn:=H.n;refine Yt rfl rfl func151 Zw rfl ?_;refine tM ?_;apply Xh (p193k V H);cases ha:h.has a with
 |false=>
  refine tM ?_;rw[show c.place h a=(c,-1) by unfold Cp.place;rw[if_pos ha]];exact hS0 (.tmp rfl .nil) rfl hD .refl ⟨rfl,t,rfl,KB⟩
 |true=>
 refine tM ?_;refine o_lkuC (_z:=[]) rfl rfl rfl rfl hm ?_;cases hl:c.mp.lookup a with
 |some x=>
  refine tM ?_;rw[show c.place h a=(c,x) by unfold Cp.place;rw[if_neg (by simp[ha]),hl]];exact hS0 (.tmp rfl .nil) rfl hD .refl ⟨rfl,t,rfl,KB⟩
 |none=>
 refine tM ?_;refine Ke [(o.ci,1,1,[.ptr o.ti 0]),(o.ci,0,1,[.ptr o.oi 0])] [.C,.C,.C,.L,.C,.C,.C,.L,.C,.W,.C,.C,.C,.L,.C,.W,.W,.C,.C,.C,.C,.C] (Ybs hc0 rfl (Ybs hc0 rfl .nil)) ?_;refine tD ?_;apply Ydz (p154k V H);refine tD ?_;apply Ydz (p152k V H);refine Yhm [false,false,true,false,false,false,false,false,true,true] hD hg rfl rfl rfl (v211 KB.w KB.s C.to) ?_;rintro v ys G' hR hx hD;obtain⟨u,x,y,tvw,tvs,Ltw,Lts,e1,e2,e3,k3,k4⟩:∃(u:Hp) (x:Int) (y:Bool) (tvw tvs:AV) (Ltw Lts:OL),v= .tup [I x,.bool y]∧ys=[[(o.ti,.cells [I u.n,tvw,tvs])],Ltw,Lts]∧c.place h a=(⟨u,c.mp++[(a,x)],c.ord++[a]⟩,x)∧SlE eW 1 tvw u.w Ltw∧SlE eB 1 tvs u.st Lts:=by
  have e0:=place_new ha hl;cases hm:c.to.make (h.kind a) (h.len a) with
  |none=>
   rw[hm]at hR e0;exact⟨c.to,-1,false,t.tvw,t.tvs,t.Ltw,t.Lts,hR.1,hR.2,e0,KB.w,KB.s⟩
  |some p=>
   rw[hm]at hR e0;obtain⟨h1,vw',vs',Lw',Ls',h2,hw',hs'⟩:=hR;exact⟨p.1,p.2,true,vw',vs',Lw',Ls',h1,h2,e0,hw',hs'⟩
 clear hR;subst e1 e2;have hc1:hset G' (mrg [false,false,true,false,false,false,false,false,true,true] (KX o t h c) [[(o.ti,.cells [I u.n,tvw,tvs])],Ltw,Lts]).flatten o.ci=some (.cells [.ptr o.oi 0,.ptr o.ti 0,.map o.mi,t.vord]):=Yk hD (Yi (k:=0) rfl (.head _));refine⟨fun _=>Ybs hc1 rfl (Ybs hc1 rfl .nil),?_,?_⟩
 ·exact livC (o:= .cells [.ptr o.oi 0,.ptr o.ti 0,.map o.mi,t.vord]) hD (Yi (k:=0) rfl (.head _)) (livC (o:= .cells [.ptr o.oi 0,.ptr o.ti 0,.map o.mi,t.vord]) hD (Yi (k:=0) rfl (.head _)) Ynm)
 refine tD ?_;refine tM ?_;refine o_mupC 1 hD rfl rfl rfl rfl rfl rfl hl fun hD=>?_;refine tM ?_;refine Ydx (m:=[a]) 7 Yrw KB.o hD rfl rfl rfl rfl rfl rfl (by show(_+1)*9≤_;omega) fun vord Lord hord hD=>?_;refine tM ?_;refine Qs 0 hD rfl rfl rfl rfl rfl hord.one (show 3<4 by decide) fun hD=>?_;refine tM ?_;rw[e3];exact hS0 (.tmp rfl .nil) rfl hD hx ⟨rfl,⟨vord,tvw,tvs,Lord,Ltw,Lts⟩,rfl,hord,k3,k4⟩
end Go.Proofs
namespace Go.Abs
open List
variable {S:PS} {h:Ya}
theorem d_lku{P:Program}{A:Ann}{f nt q d id:Nat}{E:Env}{bx:List Nat}{Q:AX→Env→List Nat→Ya→Prop}{cls:List CD}{x y:SX}{r:List SO}{l:List (Int×Int)}{a:Int}(hlt:(decide (d<nt))=true)(hx:ev (lk E) x=some (.map id))(hy:ev (lk E) y=some (.int .i64 a))(hid:h id=some (Yjz l))
  (H:Xu P A f nt S (q-1) cls r ((d,.int .i64 ((l.lookup a).getD 0))::E) bx h Q):Xu P A f nt S q (.W::cls) (⟨some d,none,.lku (.int .i64) (.int .i64 0) x y false⟩::r) E bx h Q:=fun ops l0 rg hl hs hS hL=>
 d_W (R:=fun E' bx' h1=>E'=(d,.int .i64 ((l.lookup a).getD 0))::E∧bx'=bx∧h1=h) (fun _=>rfl) (o_lkuC (_z:=[]) rfl hlt hx hy hid (X8 ⟨rfl,by cases l.lookup a<;>rfl,rfl,rfl⟩)) (by rintro _ _ _ ⟨rfl,rfl,rfl⟩;exact⟨fun hq=>hS (by omega),hL,H⟩) ops l0 rg hl hs hS hL
theorem Yd2{id off n:Nat}{o:AObj}{v:List AV}(hm:h id=some o)(H:Liv S h):Liv ((id,off,n,v)::S) h:=fun x hx=>by
 rcases mem_cons.1 hx with rfl|hx
 ·rw[show h _=_ from hm];simp
 ·exact H x hx
end Go.Abs
namespace Go.Vm
open List
variable {c:Cp} {h:Hp} {a k:Int} {rf:Int→Int→Bool}
theorem Yqw{h:Hp}(a:Int):∀(l:List Int) (c:Cp),Cp.all h c (l++[a])=(((Cp.all h c l).1.place h a).1,(Cp.all h c l).2++[((Cp.all h c l).1.place h a).2])
 |[],c=>rfl
 |b::l,c=>by
  have ih:=Yqw (h:=h) a l (c.place h b).1;have e:∀l,Cp.all h c (b::l)=((Cp.all h (c.place h b).1 l).1,(c.place h b).2::(Cp.all h (c.place h b).1 l).2):=fun _=>rfl;rw[cons_append,e,e,ih];rfl
theorem Ypt{n:Nat}:Cp.row h rf a (n+1) c=Cp.word h rf a (Cp.row h rf a n c) n:=by
 unfold Cp.row;rw[range_succ,foldl_append];rfl
theorem CpOk.allOk:∀{l:List Int} {c:Cp},CpOk h c→CpOk h (Cp.all h c l).1∧(∀t∈(Cp.all h c l).2,t= -1∨(Cp.all h c l).1.to.has t=true)∧∀b,c.to.has b=true→(Cp.all h c l).1.to.has b=true
 |[],c,C=>⟨C,fun _ h=>(nomatch h),fun _ h=>h⟩
 |a::l,c,C=>by
  obtain⟨h1,h2,h3⟩:=C.place a;obtain⟨h4,h5,h6⟩:=CpOk.allOk (l:=l) h1;have e:Cp.all h c (a::l)=((Cp.all h (c.place h a).1 l).1,(c.place h a).2::(Cp.all h (c.place h a).1 l).2):=rfl;rw[e];refine⟨h4,fun t ht=>?_,fun b hb=>h6 b (h3 b hb)⟩;rcases mem_cons.1 ht with rfl|ht
  ·rcases h2 with h2|h2
   ·exact .inl h2
   ·exact .inr (h6 _ h2)
  ·exact h5 t ht
theorem Yoy(n:Int):I32 (w32 n):=by unfold I32 Img.w32;omega
theorem place_ord(a:Int):c.ord.length≤(c.place h a).1.ord.length:=by
 unfold Cp.place;split
 ·exact Zl _
 ·split
  ·exact Zl _
  ·split<;>(show _≤(c.ord++[a]).length;simp)
def wordP (h:Hp) (rf:Int→Int→Bool) (a:Int) (c:Cp) (k:Int):Cp×Int:=if rf (h.kind a) k=true then((c.place h (h.get a k-1)).1,w32 ((c.place h (h.get a k-1)).2+1)) else(c,h.get a k)
theorem word_eq:c.word h rf a k={(wordP h rf a c k).1 with to:=(wordP h rf a c k).1.to.put (((wordP h rf a c k).1.mp.lookup a).getD 0) k (wordP h rf a c k).2}:=rfl
theorem get32(H:HOk h)(a k:Int):I32 (h.get a k):=by
 unfold Hp.get;split
 ·exact getI H.i32 _
 ·exact⟨by decide,by decide⟩
theorem CpOk.wordP(H:HOk h)(C:CpOk h c):CpOk h (wordP h rf a c k).1∧I32 (wordP h rf a c k).2:=by
 unfold Vm.wordP;split
 ·exact⟨(C.place _).1,Yoy _⟩
 ·exact⟨C,get32 H a k⟩
theorem CpOk.put{z x:Int}(C:CpOk h c)(hx:I32 x):CpOk h {c with to:=c.to.put z k x}:=by
 obtain⟨p1,p2,p3,p4,p5⟩:=C.to.put (a:=z) (i:=k) hx;refine⟨p1,p2.trans C.n,C.ord,C.nd,C.has,fun p hp=>?_⟩;rcases C.mp p hp with h1|⟨h1,h2,h3⟩
 ·exact .inl h1
 ·have:=p4 p.2;exact .inr ⟨by rw[this.has];exact h1,by rw[this.kind];exact h2,by rw[this.len];exact h3⟩
theorem word_ord:c.ord.length≤(c.word h rf a k).ord.length:=by
 rw[word_eq];show _≤(wordP h rf a c k).1.ord.length;unfold wordP;split
 ·exact place_ord _
 ·exact Zl _
theorem row_ord:∀n,c.ord.length≤(c.row h rf a n).ord.length
 |0=>Zl _
 |n+1=>by rw[Ypt];exact Nat.le_trans (row_ord n) word_ord
theorem CpOk.new(H:HOk h):CpOk h ⟨.new h.n,[],[]⟩:=⟨HOk.new H.n,by show min (max h.n 0) 1048576=h.n;have:=H.n;omega,rfl,.nil,fun _ h=>(nomatch h),fun _ h=>(nomatch h)⟩
end Go.Vm
set_option maxRecDepth 100000
namespace Go.Proofs
open List
open Go.Proofs.Tryz
variable {c:Cp} {h:Hp} {n:Int} {rf:Int→Int→Bool}
variable {g:Ya}
theorem p146n{h:Ya}:HCallC prog ann 146 [I n] h fun v h'=>∃b,h b=none∧v= .ptr b 0∧h'=upd h b (some (.cells [I (Hp.new n).n,.nil .sl,.nil .sl])):=by
 refine Yz rfl func146 Zw rfl ?_;refine tM ?_;apply Y1 (w:=I (max n 0)) rfl rfl trivial rfl;refine tM ?_;apply Y1 (w:=I (min (max n 0) 1048576)) rfl rfl trivial rfl;refine tM ?_;apply Yee (v:= .agg [I (Hp.new n).n,.nil .sl,.nil .sl]) rfl rfl rfl;intro b hb;refine tM ?_;exact X7 rfl rfl ⟨b,hb,rfl,Yl⟩ fun h=>by cases h
theorem v146:HM prog ann 146 [I n] g [] fun v ys _=>∃b,v= .ptr b 0∧ys=[[(b,.cells [I (Hp.new n).n,.nil .sl,.nil .sl])]]:=by
 intro G hg hD;refine p146n.mono ?_;rintro v h' ⟨b,hb,rfl,rfl⟩;exact⟨G,[[(b,.cells [I (Hp.new n).n,.nil .sl,.nil .sl])]],rfl,⟨hb,trivial⟩,.refl,b,rfl,rfl⟩
def CX (oi mm:Nat) (ovw ovs:AV) (mcs:List AV) (Low Los:OL) (h:Hp):CL:=[[(mm,.cells mcs)],[(oi,.cells [I h.n,ovw,ovs])],Low,Los]
theorem put_n{u:Hp}{a i x:Int}:(u.put a i x).n=u.n∧(u.put a i x).st=u.st:=by
 unfold Hp.put;split<;>exact⟨rfl,rfl⟩
theorem run_stop{n i:Nat}(hi:c.ord.length≤i):Cp.run h rf n i c=c:=by
 cases n with
 |zero=>rfl
 |succ n=>rw[Cp.run,if_neg (by omega)]
theorem copy_end{Q:AV→CL→Ya→Prop}{E:Env}{l:List ResultVar}{G0 G:Ya}{o:Ko}{t:Kt}{w:AV}{ts:List Int}{Lw:OL}(hD:Dis G (KX o t h c++[Lw]).flatten)(hx:Ext G0 G)(hw:SlE eI 1 w ts Lw)(er:ResR prog E (hset G (KX o t h c++[Lw]).flatten) l [.ptr o.ti 0,w])
  (HQ:∀w' G',Ext G0 G'→TSl 1 w' (ts.flatMap eI) ts.length→Q (.tup [.ptr o.ti 0,w']) (CX o.oi o.mm o.ovw o.ovs o.mcs o.Low o.Los h++[[(o.ti,.cells [I c.to.n,t.tvw,t.tvs])],t.Ltw,t.Lts]) G'):hretZ prog ann 76 l (Abs.SQ G0 Q) .ret E [o.ci] (hset G (KX o t h c++[Lw]).flatten):=by
 rw[flatten_append]at hD er ⊢;obtain⟨e1,d1⟩:=X5 perm_append_comm hD;rw[e1]at er ⊢;obtain⟨d2,d3⟩:=Yat.1 d1;rw[Kl]at er ⊢;obtain⟨w',f1,f2⟩:=Yo1 (k:=998) Yrw (fun _ _ _ hx=>by obtain rfl:=Zm.1 hx;rfl) hw d2;refine Yns er rfl (v:= .tup [.ptr o.ti 0,w']) (h2:=hset G (KX o t h c).flatten) ?_ ?_
 ·show(match fzW (fzV 999) [.ptr o.ti 0,w] _ with|some (cs,h1)=>some (AV.tup cs,h1)|none=>none)=_;rw[Yb2 (show fzV 999 (.ptr o.ti 0) _=some (.ptr o.ti 0,_) from rfl) (Yb2 f1 rfl)]
 ·obtain⟨k1,k2⟩:=J2 (bs:=[[(o.ci,.cells [.ptr o.oi 0,.ptr o.ti 0,.map o.mi,t.vord])]]) (ys:=[[(o.mi,Yjz c.mp)],[(o.ti,.cells [I c.to.n,t.tvw,t.tvs])],[(o.mm,.cells o.mcs)],[(o.oi,.cells [I h.n,o.ovw,o.ovs])],o.Low,o.Los,t.Lord,t.Ltw,t.Lts]) (bx:=[o.ci]) d3 (by intro i;simp);have k1:Yv [o.ci] (hset G (KX o t h c).flatten)=_:=k1;rw[k1];obtain⟨s1,s2⟩:=X5 (Ye3 [false,false,true,true,true,true] _) k2;rw[s1];obtain⟨s3,s4⟩:=X5 (List.Perm.append_left _ (Ye3 [false,true,false,true,true] _)) s2;rw[s3];rw[←append_assoc]at s4 ⊢;obtain⟨s5,s6⟩:=Yat.1 s4;rw[Kl];refine⟨_,_,?_,?_,hx.trans (Yr s6),HQ w' _ (hx.trans (Yr s6)) f2⟩
  ·congr 1
   simp[CX,sel,rej]
  ·have:(CX o.oi o.mm o.ovw o.ovs o.mcs o.Low o.Los h++[[(o.ti,.cells [I c.to.n,t.tvw,t.tvs])],t.Ltw,t.Lts]).flatten=((sel [false,false,true,true,true,true] ([[(o.mi,Yjz c.mp)],[(o.ti,.cells [I c.to.n,t.tvw,t.tvs])],[(o.mm,.cells o.mcs)],[(o.oi,.cells [I h.n,o.ovw,o.ovs])],o.Low,o.Los,t.Lord,t.Ltw,t.Lts]:CL)).flatten++(sel [false,true,false,true,true] (rej [false,false,true,true,true,true] ([[(o.mi,Yjz c.mp)],[(o.ti,.cells [I c.to.n,t.tvw,t.tvs])],[(o.mm,.cells o.mcs)],[(o.oi,.cells [I h.n,o.ovw,o.ovs])],o.Low,o.Los,t.Lord,t.Ltw,t.Lts]:CL))).flatten):=by simp[CX,sel,rej]
   rw[this];exact s5
theorem v76{oi mm:Nat}{ovw ovs rv:AV}{mcs:List AV}{Low Los:OL}{roots:List Int}{gf:Nat}{first cap:List AV}(hw:SlE eW 1 ovw h.w Low)(hs:SlE eB 1 ovs h.st Los)(H:HOk h)(hr:TSl 1 rv (roots.flatMap eI) roots.length)(hrl:roots.length≤2^30)
  (HR:∀h',Ext g h'→h' mm=some (.cells mcs)→∀k i:Int,-1≤k→0≤i→i<1000→Jj prog ann gf (first++[I k,I i]++cap) h' (.bool (rf k i))) :
  HM prog ann 76 [.ptr oi 0,.fn gf first cap,rv] g (CX oi mm ovw ovs mcs Low Los h) fun v ys _=>∃ti tvw tvs Ltw Lts w,v= .tup [.ptr ti 0,w]∧TSl 1 w ((copy h rf roots).2.flatMap eI) (copy h rf roots).2.length∧ys=CX oi mm ovw ovs mcs Low Los h++[[(ti,.cells [I (copy h rf roots).1.n,tvw,tvs])],Ltw,Lts]∧SlE eW 1 tvw (copy h rf roots).1.w Ltw∧SlE eB 1 tvs (copy h rf roots).1.st Lts:=by
 intro G hg hD;have V0:HV (hset G (CX oi mm ovw ovs mcs Low Los h).flatten) oi h ovw ovs:=⟨Yk hD (.tail _ (.head _)),hw.sl encW (Xi (k:=2) hD rfl),hs.sl encB (Xi (k:=3) hD rfl)⟩;refine Ye4 rfl rfl func76 Zw rfl ?_;refine tM ?_;apply Xh (p150k V0);refine tM ?_;refine Q4 (g:=G) [] hD .refl rfl rfl rfl rfl v146 ?_;rintro _ ys G1 ⟨ti,rfl,rfl⟩ hx hD;refine tM ?_;refine o_mkmC hD rfl rfl fun mi hD=>?_;refine tM ?_;refine Ylo (v:= .agg [.ptr oi 0,.ptr ti 0,.map mi,.nil .sl]) hD rfl rfl rfl fun ci hD=>?_;refine tM ?_;have hn:=H.n;have hcap:=H.cap;generalize ho:(⟨oi,ovw,ovs,Low,Los,ci,mi,ti,mm,mcs⟩:Ko)=o;have KA:KO o h:=by rw[←ho];exact⟨hw,hs⟩
 have o1:o.oi=oi:=by rw[←ho]
 have o2:o.ci=ci:=by rw[←ho]
 have o3:o.mm=mm:=by rw[←ho]
 have o4:o.mcs=mcs:=by rw[←ho]
 have e0:(KX o ⟨.nil .sl,.nil .sl,.nil .sl,[],[],[]⟩ h ⟨.new h.n,[],[]⟩++[[]]).flatten=([(ci,AObj.cells [.ptr oi 0,.ptr ti 0,.map mi,.nil .sl])]::[(mi,Yjz [])]::mrg [] (CX oi mm ovw ovs mcs Low Los h) [[(ti,.cells [I (Hp.new h.n).n,.nil .sl,.nil .sl])]]).flatten:=by rw[←ho];simp[KX,CX,mrg]
 have hD0:Dis G1 (KX o ⟨.nil .sl,.nil .sl,.nil .sl,[],[],[]⟩ h ⟨.new h.n,[],[]⟩++[[]]).flatten:=by rw[e0];exact hD
 have C0:=CpOk.new H;refine Xv (fun s:Nat×Ya×Kt×AV×OL=>[(0,.ptr o.oi 0),(1,.fn gf first cap),(8,.ptr o.ci 0),(9,s.2.2.2.1),(25,rv),(26,I roots.length),(27,I s.1)]) (fun s h'=>s.1≤roots.length∧h'=hset s.2.1 (KX o s.2.2.1 h (Cp.all h ⟨.new h.n,[],[]⟩ (roots.take s.1)).1++[s.2.2.2.2]).flatten∧Dis s.2.1 (KX o s.2.2.1 h (Cp.all h ⟨.new h.n,[],[]⟩ (roots.take s.1)).1++[s.2.2.2.2]).flatten∧Ext G1 s.2.1∧KT s.2.2.1 (Cp.all h ⟨.new h.n,[],[]⟩ (roots.take s.1)).1∧SlE eI 1 s.2.2.2.1 (Cp.all h ⟨.new h.n,[],[]⟩ (roots.take s.1)).2 s.2.2.2.2∧(Cp.all h ⟨.new h.n,[],[]⟩ (roots.take s.1)).2.length=s.1) (fun s=>roots.length-s.1) (0,G1,⟨.nil .sl,.nil .sl,.nil .sl,[],[],[]⟩,.nil .sl,[]) (by rw[o1,o2];exact tU) ⟨by omega,congrArg (hset G1) e0.symm,hD0,.refl,⟨.inl ⟨rfl,rfl,rfl⟩,.inl ⟨rfl,rfl,rfl⟩,.inl ⟨rfl,rfl,rfl⟩⟩,.inl ⟨rfl,rfl,rfl⟩,rfl⟩ ?_;clear hD hD0 e0;rintro⟨j,G2,t,w,Lw⟩ _ ⟨hj,rfl,hD,hx2,KB,hw2,hjl⟩;simp only at hj hD hx2 KB hw2 hjl ⊢;refine tM ?_;refine oI (j<roots.length) (fun H1=>?_) (fun H1=>?_)
 ·have C1:=(C0.allOk (l:=roots.take j)).1;obtain rfl:=Yd5 hr (by omega);refine tM ?_;apply Y1 (w:= .tptr (roots.flatMap eI) j) rfl rfl ⟨by omega,by omega⟩ (by simp);refine tM ?_;refine Ynb rfl rfl (v:=I roots[j]) (by have:=J8 (js:=[]) Yrw H1 (show 0<1 by decide);rw[append_nil,Nat.mul_one,Nat.add_zero]at this;exact this) ?_;refine tM ?_;refine Q4 (g:=G2) [true,true,true,true,true,true,true,true,true,true,false] hD .refl rfl rfl rfl rfl (v151 KA KB H C1) ?_;rintro _ _ G3 ⟨rfl,t',rfl,KB'⟩ hx3 hD;refine tM ?_;refine Ydx (m:=[(Cp.place h (Cp.all h ⟨.new h.n,[],[]⟩ (roots.take j)).1 roots[j]).2]) 10 Yrw hw2 hD rfl rfl rfl rfl rfl rfl (by show(_+1)*9≤_;omega) fun w' Lw' hw' hD=>?_;refine tM ?_;apply Y1 (w:=I ((j+1:Nat):Int)) rfl rfl trivial (by rw[w64 (by omega) (by omega)];rfl);refine tM ?_;have ea:Cp.all h ⟨.new h.n,[],[]⟩ (roots.take (j+1))=(((Cp.all h ⟨.new h.n,[],[]⟩ (roots.take j)).1.place h roots[j]).1,(Cp.all h ⟨.new h.n,[],[]⟩ (roots.take j)).2++[((Cp.all h ⟨.new h.n,[],[]⟩ (roots.take j)).1.place h roots[j]).2]):=by rw[take_succ_eq_append_getElem H1,Yqw]
  refine⟨(j+1,G3,t',w',Lw'),by simp only;omega,tU,rfl,by simp only;omega,?_⟩;simp only[ea];exact⟨rfl,hD,hx2.trans hx3,KB',hw',by rw[length_append,hjl];rfl⟩
 obtain rfl:j=roots.length:=by omega
 rw[take_length]at hD KB hw2 hjl ⊢;generalize ea:Cp.all h ⟨.new h.n,[],[]⟩ roots=ca at hD KB hw2 hjl ⊢;have C1:CpOk h ca.1:=by rw[←ea];exact C0.allOk.1
 have ec:copy h rf roots=((Cp.run h rf (h.w.length+1) 0 ca.1).to,ca.2):=by rw[←ea];rfl
 rw[ec];clear ec ea hjl;obtain⟨c1,ts⟩:=ca;simp only at hD KB hw2 C1 ⊢;refine tM ?_;generalize hF:Cp.run h rf (h.w.length+1) 0 c1=cf;refine Xv (fun s:Nat×Ya×Kt×Cp=>[(0,.ptr o.oi 0),(1,.fn gf first cap),(8,.ptr o.ci 0),(9,w),(12,I s.1)]) (fun s h'=>s.1≤s.2.2.2.ord.length∧h'=hset s.2.1 (KX o s.2.2.1 h s.2.2.2++[Lw]).flatten∧Dis s.2.1 (KX o s.2.2.1 h s.2.2.2++[Lw]).flatten∧Ext G1 s.2.1∧KT s.2.2.1 s.2.2.2∧CpOk h s.2.2.2∧Cp.run h rf (h.w.length+1-s.1) s.1 s.2.2.2=cf) (fun s=>h.w.length+1-s.1) (0,G2,t,c1) tU ⟨by omega,rfl,hD,hx2,KB,C1,hF⟩ ?_;clear hD hx2 KB C1 hF;rintro⟨i,G3,t,c⟩ _ ⟨hi,rfl,hD,hx3,KB,C,hF⟩;simp only at hi hD hx3 KB C hF ⊢;have hcl:=C.len H;have hko:=KB.o;have V:=KA.hv hD rfl rfl rfl;refine tM ?_;refine oI (i<c.ord.length) (fun H1=>?_) (fun H1=>?_);rotate_left
 ·rw[run_stop (by omega)]at hF;subst hF;refine tM ?_;rw[←o2];refine copy_end hD (hx.trans hx3) hw2 (.tmp rfl (.tmp rfl .nil)) fun w' G' _ hw'=>⟨o.ti,t.tvw,t.tvs,t.Ltw,t.Lts,w',rfl,hw',by rw[←ho],KB.w,KB.s⟩
 refine tM ?_;refine Qg rfl rfl rfl (hko.sl Yrw (Xi (k:=7) hD rfl)) H1 ?_;intro p d hp hd _;obtain rfl:d=[I _]:=hd;refine tM ?_;apply Xh (p152k V H);obtain⟨l1,l2,l3⟩:=H.len c.ord[i];have kd:=H.kind c.ord[i];generalize eo:c.ord[i]=oa at l1 l2 l3 kd ⊢;obtain⟨n,en⟩:=Int.eq_ofNat_of_zero_le l1;rw[en];rw[show h.w.length+1-i=(h.w.length+1-(i+1))+1 by omega,Cp.run,if_pos H1,show c.ord.getD i 0=oa by rw[←eo,atD],en,Zn]at hF;refine tM ?_;refine Xv (fun s:Nat×Ya×Kt×Cp=>[(0,.ptr o.oi 0),(1,.fn gf first cap),(8,.ptr o.ci 0),(9,w),(12,I i),(13,I oa),(56,I n),(57,I s.1)]) (fun s h'=>s.1≤n∧h'=hset s.2.1 (KX o s.2.2.1 h s.2.2.2++[Lw]).flatten∧Dis s.2.1 (KX o s.2.2.1 h s.2.2.2++[Lw]).flatten∧Ext G1 s.2.1∧KT s.2.2.1 s.2.2.2∧CpOk h s.2.2.2∧s.2.2.2=c.row h rf oa s.1) (fun s=>n-s.1) (0,G3,t,c) tU ⟨by omega,rfl,hD,hx3,KB,C,rfl⟩ ?_;clear hD hx3 KB hko V;rintro⟨k,G4,t,c'⟩ _ ⟨hk,rfl,hD,hx4,KB,C',hc'⟩;simp only at hk hD hx4 KB C' hc' ⊢;have V:=KA.hv hD rfl rfl rfl;refine tM ?_;refine oI (k<n) (fun H2=>?_) (fun H2=>?_);rotate_left
 ·obtain rfl:k=n:=by omega
  refine tM ?_;apply Y1 (w:=I ((i+1:Nat):Int)) rfl rfl trivial (by rw[w64 (by omega) (by omega)];rfl);refine tM ?_;rw[←hc']at hF;refine⟨(i+1,G4,t,c'),by simp only;omega,tU,rfl,?_,rfl,hD,hx4,KB,C',hF⟩;have:=row_ord (h:=h) (rf:=rf) (a:=oa) (c:=c) k;simp only;rw[hc'];omega
 refine tM ?_;apply Xh (p153k V H);apply Y1 (w:= .int .i32 (h.get oa k)) rfl rfl trivial rfl;apply X8;apply X0;have g32:=get32 H oa k;unfold I32 at g32;refine Jc (fun s:Ya×Kt×Cp×Int=>[(0,.ptr o.oi 0),(1,.fn gf first cap),(8,.ptr o.ci 0),(9,w),(12,I i),(13,I oa),(56,I n),(57,I k),(14,I k),(15,.int .i32 s.2.2.2)]) (fun s h'=>h'=hset s.1 (KX o s.2.1 h s.2.2.1++[Lw]).flatten∧Dis s.1 (KX o s.2.1 h s.2.2.1++[Lw]).flatten∧Ext G4 s.1∧KT s.2.1 s.2.2.1∧(s.2.2.1,s.2.2.2)=wordP h rf oa c' k) ?_ ?_
 ·refine tM ?_;apply Xh (p154k V H);refine tM ?_;apply Xh (HR _ (hg.trans (hx.trans (hx4.trans (Yr hD)))) (by rw[←o3,←o4];exact Yk hD (Yi (k:=3) rfl (.head _))) (h.kind oa) k kd.1 (by omega) (by omega));cases hb:rf (h.kind oa) k with
  |false=>
   refine tM ?_;exact⟨(G4,t,c',h.get oa k),tU,rfl,rfl,hD,.refl,KB,by unfold wordP;rw[if_neg (by rw[hb];simp)]⟩
  |true=>
   refine tM ?_;apply Y1 (w:=I (h.get oa k)) rfl rfl trivial (by rw[w64 (by omega) (by omega)]);refine tM ?_;apply Y1 (w:=I (h.get oa k-1)) rfl rfl trivial (by rw[w64 (by omega) (by omega)]);refine tM ?_;refine Q4 (g:=G4) [true,true,true,true,true,true,true,true,true,true,false] hD .refl rfl rfl rfl rfl (v151 KA KB H C') ?_;rintro _ _ G5 ⟨rfl,t',rfl,KB'⟩ hx5 hD;obtain⟨p1,p2,_⟩:=C'.place (h.get oa k-1);have p3 : -1≤(c'.place h (h.get oa k-1)).2∧(c'.place h (h.get oa k-1)).2<1048576:=by
    rcases p2 with p2|p2
    ·omega
    ·have:=p1.to.has_lt p2;omega
   refine tM ?_;apply Y1 (w:=I ((c'.place h (h.get oa k-1)).2+1)) rfl rfl trivial (by rw[w64 (by omega) (by omega)]);refine tM ?_;apply Y1 (w:= .int .i32 (Img.w32 ((c'.place h (h.get oa k-1)).2+1))) rfl rfl trivial (by rw[wrap_w32]);refine tM ?_;exact⟨(G5,t',(c'.place h (h.get oa k-1)).1,Img.w32 ((c'.place h (h.get oa k-1)).2+1)),tU,rfl,rfl,hD,hx5,KB',by unfold wordP;rw[if_pos hb]⟩
 clear hD KB V;rintro⟨G5,t,c2,x⟩ _ ⟨rfl,hD,hx5,KB,ew⟩;simp only at hD hx5 KB ew ⊢;have C2:CpOk h c2∧I32 x:=by
  have:=C'.wordP (rf:=rf) (a:=oa) (k:=k) H;rw[←ew]at this;exact this
 have hc0:hset G5 (KX o t h c2++[Lw]).flatten o.ci=some (.cells [.ptr o.oi 0,.ptr o.ti 0,.map o.mi,t.vord]):=Yk hD (Yi (k:=0) rfl (.head _));have hm:hset G5 (KX o t h c2++[Lw]).flatten o.mi=some (Yjz c2.mp):=Yk hD (Yi (k:=1) rfl (.head _));refine tM ?_;refine Ke [(o.ci,1,1,[.ptr o.ti 0]),(o.ci,2,1,[.map o.mi])] [.C,.C,.C,.L,.C,.C,.C,.L,.C,.W,.C,.C,.W] (Ybs hc0 rfl (Ybs hc0 rfl .nil)) ?_;refine tD ?_;refine d_lku rfl rfl rfl hm ?_;refine tD ?_;refine Yhm (g:=G5) [false,false,true,false,false,false,false,false,true,true,false] hD .refl rfl rfl rfl (v155 KB.w KB.s C2.1.to) ?_;rintro v _ G6 ⟨_,Ltw,rfl,hw6⟩ hx6 hD;have hc6:=Yk hD (Yi (k:=0) rfl (.head _));refine⟨fun _=>Ybs hc6 rfl (Ybs hc6 rfl .nil),Yd2 hc6 (Yd2 hc6 Ynm),?_⟩;refine tD ?_;refine tM ?_;apply Y1 (w:=I ((k+1:Nat):Int)) rfl rfl trivial (by rw[w64 (by omega) (by omega)];rfl);refine tM ?_;have ec:c.row h rf oa (k+1)={c2 with to:=c2.to.put ((c2.mp.lookup oa).getD 0) k x}:=by rw[Ypt,←hc',word_eq,←ew]
 refine⟨(k+1,G6,{t with Ltw:=Ltw},c.row h rf oa (k+1)),by simp only;omega,tU,rfl,by simp only;omega,?_⟩;simp only[ec];refine⟨?_,?_,(hx4.trans hx5).trans hx6,⟨KB.o,hw6,by show SlE eB 1 t.tvs (c2.to.put _ _ _).st t.Lts;rw[put_n.2];exact KB.s⟩,C2.1.put C2.2,trivial⟩
 ·unfold KX;simp only[put_n.1];rfl
 ·unfold KX;simp only[put_n.1];exact hD
end Go.Proofs
