import Derived.Test.YtmnnmgfjlokmkaaGreatAbsSep
import Derived.Test.YtmnnmgfjlokmkaaGreatAbsTac
import Derived.Test.YtmnnmgfjlokmkaaGreatImAll
import Derived.Test.YtmnnmgfjlokmkaaGreatImCrc
import Derived.Test.YtmnnmgfjlokmkaaGreatImCut
import Derived.Test.YtmnnmgfjlokmkaaGreatAbsLaw
import Derived.Test.YtmnnmgfjlokmkaaGreatAbsTy
section
namespace Go.Abs
def only (S : List Nat) (h : Heap) : Heap := fun id => if S.contains id = true then h id else none
theorem only_in {S : List Nat} {h : Heap} {id : Nat} (hS : id ∈ S) : only S h id = h id := by
 unfold only
 rw [if_pos (by simpa using hS)]
theorem only_out {S : List Nat} {h : Heap} {id : Nat} (hS : id ∉ S) : only S h id = none := by
 unfold only
 rw [if_neg (by simpa using hS)]
section
variable {P : Program} {A : Ann} {f nt : Nat} {E : Env} {bx : List Nat} {h : Heap} {Q : AX → Env → List Nat → Heap → Prop} {S : List Nat} {cls : List Cl}
theorem x_callE {d : Nat} {x : SX} {args : List SX} {r : List SO} {g : Nat} {first cap vs : List AV} {Q1 : AV → Heap → Prop} (hlt : (decide (d < nt)) = true) (hx : ev (lk E) x = some (.fn g first cap)) (ha : evS (lk E) args = some vs)
  (hc : HCallC P A g (first ++ vs ++ cap) (only S h) fun v h1 => Ext (only S h) h1 ∧ Q1 v h1) (H : ∀ v h1, Q1 v h1 → Ext (only S h) h1 → (∀ id, h1 id ≠ none → id ∉ S → h id = none) → SOpsX P A f nt S cls r ((d, v) :: E) bx (plus h h1) Q) : SOpsX P A f nt S (.E :: cls) (⟨some d, none, .call x args⟩ :: r) E bx h Q := by
 intro ops l0 rg hl hs hS
 obtain ⟨o0, r0, rfl, h1, h2⟩ := slOs_cons hl
 obtain ⟨e1, e2, e3⟩ := slO_some h1
 have hg : o0.guard = none := by
  rcases e3 with ⟨e, _⟩ | ⟨_, _, _, _, e, _⟩
  ·exact e
  ·cases e
 obtain ⟨x0, a0, ts, ho, hx0, ha0⟩ := call_inv (getD_raw e2 rfl)
 refine opsX_h (by unfold wantedA; rw [hg]) fun n hn => ?_
 have hfr : Fresh (only S h) n := fun id hid => by
  unfold only
  split
  ·exact hn id hid
  ·rfl
 obtain ⟨k, v, h1, n', lg, e, hE, q1⟩ := hc n hfr
 obtain ⟨st, loc⟩ := local_callN P A k g (first ++ vs ++ cap) _ n _ _ _ _ hfr e
 have hlog : ∀ id, id ∈ lg.1 ∨ id ∈ lg.2 → id ∈ S := fun id hid => Decidable.byContradiction fun hc => st.live id hid (callN_log e id hid) (only_out hc)
 have key := loc h (fun id hid => by
  rcases hid with hid | hid | hid
  ·exact (only_in (hlog id (.inl hid))).symm
  ·exact (only_in (hlog id (.inr hid))).symm
  ·rw [hn id hid.1, hfr id hid.1])
 have hnew : ∀ id, h1 id ≠ none → id ∉ S → n ≤ id ∧ id < n' := fun id hid hs => by
  refine Decidable.byContradiction fun hc => hid ?_
  rw [st.same id (fun hx => hs (hlog id (.inr hx))) hc]
  exact only_out hs
 have hov : over h h1 n n' lg.2 = plus h h1 := by
  funext id
  unfold over plus
  by_cases hc : n ≤ id ∧ id < n'
  ·rw [if_pos (.inr hc), hn id hc.1]
  ·by_cases hw : id ∈ lg.2
   ·rw [if_pos (.inl hw)]
    have hin := hlog id (.inr hw)
    have := hS id hin
    cases hh : h id with
    | none => exact absurd hh this
    | some o =>
     rw [hE id o (by rw [only_in hin, hh])]
   ·rw [if_neg (by simp [hc, hw])]
    cases hh : h id with
    | some o => rfl
    | none =>
     show none = h1 id
     rw [st.same id hw hc]
     unfold only
     split
     ·exact hh.symm
     ·rfl
 rw [hov] at key
 refine ⟨k, v, plus h h1, n', lg, _, ?_, (show ∀ id ∈ lg.1 ++ lg.2, id ∈ S from fun id hid => hlog id (List.mem_append.1 hid)), put_plain e1.symm (by simpa using hlt) (fun hb => by rw [ho] at hb; simp [isBox] at hb), H v h1 q1 hE (fun id hid hs => hn id (hnew id hid hs).1) ops r0 _ h2 (hs.put d v) fun id hid => ?_⟩
 ·unfold opV
  rw [ho]
  simp only [ev_sound hs hx0 hx, slXs_sound hs ha0 ha]
  unfold AM.bind
  simp only [AM.lift, AM.pure]
  rw [key]
  simp
 ·have := hS id hid
  cases hh : h id with
  | none => exact absurd hh this
  | some o => rw [plus_ext id o hh]; simp
theorem x_b2sG {d : Nat} {x : SX} {r : List SO} {id off len : Nat} {cs l : List AV} {c : List UInt8} (hlt : (decide (d < nt)) = true) (hx : ev (lk E) x = some (.sl id off len 1)) (hid : h id = some (.cells cs)) (hm : id ∉ S) (hl : sliceL cs off len = some l) (hc : bytesOfA l = some c)
  (H : SOpsX P A f nt S cls r ((d, .str c) :: E) bx h Q) : SOpsX P A f nt S (.G :: cls) (⟨some d, none, .b2s x⟩ :: r) E bx h Q := by
 intro ops l0 rg hl0 hs hS
 obtain ⟨o0, r0, rfl, h1, h2⟩ := slOs_cons hl0
 obtain ⟨e1, e2, e3⟩ := slO_some h1
 have hg : o0.guard = none := by
  rcases e3 with ⟨e, _⟩ | ⟨_, _, _, _, e, _⟩
  ·exact e
  ·cases e
 obtain ⟨s, dt, x0, e', hop, hx0, hs1, hd1, hb, hro⟩ := b2s_inv (getD_raw e2 rfl)
 refine opsX_h (by unfold wantedA; rw [hg]) fun n hn => ?_
 refine ⟨0, .str c, h, n, ([id], []), _, ?_, ⟨rfl, rfl, by simpa using hm⟩, put_plain e1.symm (by simpa using hlt) (fun hb => by rw [hop] at hb; simp [isBox] at hb), H ops r0 _ h2 (hs.put d _) hS⟩
 unfold opV
 rw [hop]
 simp only [hro, Bool.false_eq_true, if_false]
 simp only [opM, ev_sound hs hx0 hx, lift_some_eq, pure_bind, convertA, hs1, hd1]
 rw [if_pos ⟨trivial, hb⟩]
 simp only [AM.bind, cellsAt, AM.get, hid, AM.lift, hl, hc, Option.map_some, AM.pure]
 rfl
end
end Go.Abs
end
section
open Go Go.Abs Go.Proofs.SlimCode Go.Img
set_option maxRecDepth 100000
namespace Go.Proofs
theorem set_all {α : Type} {p : α → Prop} {l : List α} {k : Nat} {x : α} (h : ∀ a ∈ l, p a) (hx : p x) : ∀ a ∈ l.set k x, p a := fun a ha => (List.mem_or_eq_of_mem_set ha).elim (h a) fun e => e ▸ hx
theorem wf_cls {N : Image} {k : Nat} {x : Cls} (hw : N.WF) (hs : Image.Small N) (h1 : x.WF) (h2 : Cls.Small x) : Image.WF { N with classes := N.classes.set k x } ∧ Image.Small { N with classes := N.classes.set k x } :=
 ⟨{ hw with classes := ⟨by show (N.classes.set k x).length ≤ _; rw [List.length_set]; exact hw.classes.1, set_all hw.classes.2 h1⟩ }, { hs with classes := ⟨by show (N.classes.set k x).length ≤ _; rw [List.length_set]; exact hs.classes.1, set_all hs.classes.2 h2⟩ }⟩
theorem wf_mth {N : Image} {k : Nat} {x : Mth} (hw : N.WF) (hs : Image.Small N) (h1 : x.WF) (h2 : Mth.Small x) : Image.WF { N with methods := N.methods.set k x } ∧ Image.Small { N with methods := N.methods.set k x } :=
 ⟨{ hw with methods := ⟨by show (N.methods.set k x).length ≤ _; rw [List.length_set]; exact hw.methods.1, set_all hw.methods.2 h1⟩ }, { hs with methods := ⟨by show (N.methods.set k x).length ≤ _; rw [List.length_set]; exact hs.methods.1, set_all hs.methods.2 h2⟩ }⟩
theorem own_cls {vc : AV} {l : List Cls} {Lc : OL} (H : SlL LCls 10 vc l Lc) {k : Nat} (hk : k < l.length) : ∃ i cs L1 L2 vr vs vt vf Lr Ls Lt Lf, vc = .sl i 0 l.length 10 ∧ Lc = (i, .cells cs) :: (L1 ++ ((Lr ++ (Ls ++ (Lt ++ Lf))) ++ L2)) ∧ k * 10 + 10 ≤ cs.length ∧
  SlL (leaf RB) 1 vr l[k].refs Lr ∧ SlL (leaf (RN .i64)) 1 vs l[k].subs Ls ∧ SlL (leaf (RN .i64)) 1 vt l[k].slots Lt ∧ SlL (leaf RPair) 2 vf l[k].faces Lf ∧ (∀ o, o < 10 → cs[k * 10 + o]? = [AV.str l[k].name, I l[k].super, I l[k].init, vr, vs, vt, vf, I l[k].array, I l[k].elem, .bool l[k].thrown][o]?) ∧
  ∀ o v x' M, o < 10 → LCls ([AV.str l[k].name, I l[k].super, I l[k].init, vr, vs, vt, vf, I l[k].array, I l[k].elem, .bool l[k].thrown].set o v) x' M → SlL LCls 10 vc (l.set k x') ((i, .cells (cs.set (k * 10 + o) v)) :: (L1 ++ (M ++ L2))) := by
 obtain ⟨i, cs, L1, Lk, L2, e1, e2, hl, hc, _, hb⟩ := H.focus hk
 obtain ⟨vr, vs, vt, vf, Lr, Ls, Lt, Lf, ec, h1, h2, h3, h4, rfl⟩ := hc
 have hle : k * 10 + 10 ≤ cs.length := by omega
 refine ⟨i, cs, L1, L2, vr, vs, vt, vf, Lr, Ls, Lt, Lf, e1, e2, hle, h1, h2, h3, h4, fun o ho => ?_, fun o v x' M ho hx => ?_⟩
 ·rw [← ec, List.getElem?_take, List.getElem?_drop, if_pos ho]
 ·rw [set_chunk hle ho, ec]
  exact hb _ _ _ (by simp) hx
theorem own_mth {vm : AV} {l : List Mth} {Lm : OL} (H : SlL LMth 6 vm l Lm) {k : Nat} (hk : k < l.length) : ∃ i cs L1 L2 vc vt Lc Lt, vm = .sl i 0 l.length 6 ∧ Lm = (i, .cells cs) :: (L1 ++ ((Lc ++ Lt) ++ L2)) ∧ k * 6 + 6 ≤ cs.length ∧
  SlL (leaf RFour) 4 vc l[k].code Lc ∧ SlL (leaf RFour) 4 vt l[k].traps Lt ∧ (∀ o, o < 6 → cs[k * 6 + o]? = [I l[k].args, I l[k].locals, I l[k].stack, AV.bool l[k].gives, vc, vt][o]?) ∧
  ∀ o v x' M, o < 6 → LMth ([I l[k].args, I l[k].locals, I l[k].stack, AV.bool l[k].gives, vc, vt].set o v) x' M → SlL LMth 6 vm (l.set k x') ((i, .cells (cs.set (k * 6 + o) v)) :: (L1 ++ (M ++ L2))) := by
 obtain ⟨i, cs, L1, Lk, L2, e1, e2, hl, hc, _, hb⟩ := H.focus hk
 obtain ⟨vc, vt, Lc, Lt, ec, h1, h2, rfl⟩ := hc
 have hle : k * 6 + 6 ≤ cs.length := by omega
 refine ⟨i, cs, L1, L2, vc, vt, Lc, Lt, e1, e2, hle, h1, h2, fun o ho => ?_, fun o v x' M ho hx => ?_⟩
 ·rw [← ec, List.getElem?_take, List.getElem?_drop, if_pos ho]
 ·rw [set_chunk hle ho, ec]
  exact hb _ _ _ (by simp) hx
abbrev TnB (b14 b10 b4 : Nat) (d n m : List AV) : OL := [(b14, .cells d), (b10, .cells n), (b4, .cells m)]
theorem p16w {h : Heap} {c : List AV} {m : Image} (hc : RImg h c m) (hw : m.WF) (hb : (Img.body m).length ≤ 50000) : HCallC Tryz.prog ann 16 [.agg c] h fun v h' => OSl h 1 v (ubs (encode m)) (encode m).length h' :=
 (p16 hc hw (by omega)).mono fun v h' q => by
  rcases q with ⟨_, O⟩ | ⟨hq, _⟩
  ·exact O
  ·exfalso
   unfold size at hq
   omega
set_option maxHeartbeats 2000000 in
theorem p7 {h : Heap} {c : List AV} {m0 : Image} {wh at' x : Int} (hc : ∀ h, RImg h c m0) (hw0 : m0.Wide) (_i1 : I64 wh) (i2 : I64 at') (i3 : I64 x) : HCallC Tryz.prog ann 7 [.agg c, I wh, I at', I x] h fun v h' => v = .bool true ∧ Ext h h' := by
 refine (show Looks _ _ _ _ _ _ from ?_).go
 have hone := (hc h).one
 obtain ⟨vc, vm, vg, vw, vr, vs, vf, rfl, _⟩ := hc h
 refine s_look_of rfl Tryz.func7 (frc (by with_unfolding_all rfl)) rfl ?_
 refine tA ?_
 show SOps _ _ _ _ _ _ _ _ _ (hset h []) _
 apply o_hboxL (v := .agg [vc, vm, I _, I _, vg, vw, vr, vs, vf]) dis_nil rfl rfl hone
 intro b4 hD
 refine tA ?_
 (refine tG ?_; (with_reducible apply o_call); exact rfl; exact rfl; exact rfl; exact p14)
 refine tA ?_
 apply o_as (w := .bool false) rfl rfl trivial rfl
 refine tA ?_
 apply o_ldnL 0 hD rfl rfl rfl rfl rfl
 apply o_callL hD rfl rfl rfl rfl (p15 (hc _) hw0)
 rintro _ g0 ⟨hx0, cm, m, rfl, hM, hwm, hsm⟩ hD
 have hM0 := hM
 obtain ⟨uc, um, ug, uw, ur, us, uf, rfl, _⟩ := hM0
 apply o_stL (v := .agg [uc, um, I _, I _, ug, uw, ur, us, uf]) (cs' := [uc, um, I _, I _, ug, uw, ur, us, uf]) 0 hD rfl rfl rfl rfl rfl rfl hM.one (splice_full rfl)
 intro hD
 refine tA ?_
 apply o_ldnL 0 hD rfl rfl rfl rfl rfl
 apply o_callL hD rfl rfl rfl rfl (p15s hM (img_wide hwm))
 rintro _ _ ⟨vc, vm, vg, vw, vr, vs, vf, Lc, Lm, Lg, Lr, Lw, Ls, Lf, G, rfl, hO, hDn, rfl, hx1⟩ hD
 obtain ⟨hwN, hsN⟩ := img_cut (img_wide hwm)
 obtain ⟨hp1, hp2, hp3, hp4⟩ := img_sharp (m := m)
 generalize m.cut = N at hO hwN hsN hp1 hp2 hp3 hp4 ⊢
 refine tA ?_
 apply o_alcL hD rfl
 intro b10 hD
 have hRN := hO.view (.of_dis hDn)
 apply o_stL (v := .agg (O9 vc vm N.entry N.need vg vw vr vs vf)) (cs' := O9 vc vm N.entry N.need vg vw vr vs vf) 0 hD rfl rfl rfl rfl rfl rfl hRN.one (splice_full rfl)
 intro hD
 refine tA ?_
 apply o_ldL 0 hD rfl rfl rfl rfl rfl
 apply o_lenG rfl rfl (ext_hsetD hD) (hO.pc.view LCls.sees (Has.of_dis hDn).fst)
 refine oI (N.classes.length = 0) (fun H1 => ?_) (fun H1 => ?_)
 ·refine tA ?_
  exact lret_ret (vs := [.bool true]) rfl rfl rfl (hx0.trans (hx1.trans ((ext_hsetD hDn).trans (ext_hsetD hD)))) (ids_none hD (hx0.trans (hx1.trans (ext_hsetD hDn))))
 refine tA ?_
 apply o_ldL 0 hD rfl rfl rfl rfl rfl
 refine tA ?_
 apply o_lenG rfl rfl (ext_hsetD hD) (hO.pm.view LMth.sees (Has.of_dis hDn).snd.fst)
 refine tA ?_
 refine oI (N.methods.length = 0) (fun H2 => ?_) (fun H2 => ?_)
 ·refine tA ?_
  exact lret_ret (vs := [.bool true]) rfl rfl rfl (hx0.trans (hx1.trans ((ext_hsetD hDn).trans (ext_hsetD hD)))) (ids_none hD (hx0.trans (hx1.trans (ext_hsetD hDn))))
 refine tA ?_
 refine oI (at' < 0) (fun H3 => ?_) (fun H3 => ?_)
 ·refine tA ?_
  exact lret_ret (vs := [.bool true]) rfl rfl rfl (hx0.trans (hx1.trans ((ext_hsetD hDn).trans (ext_hsetD hD)))) (ids_none hD (hx0.trans (hx1.trans (ext_hsetD hDn))))
 obtain ⟨p, rfl⟩ := Int.eq_ofNat_of_zero_le (Int.not_lt.1 H3)
 refine tA ?_
 obtain ⟨k, hk⟩ : ∃ k, k = p % N.classes.length := ⟨_, rfl⟩
 obtain ⟨j, hj⟩ : ∃ j, j = p % N.methods.length := ⟨_, rfl⟩
 have hkl : k < N.classes.length := by rw [hk]; exact Nat.mod_lt _ (by omega)
 have hjl : j < N.methods.length := by rw [hj]; exact Nat.mod_lt _ (by omega)
 obtain ⟨ic, cs, L1, L2, xr, xs, xt, xf, Kr, Ks, Kt, Kf, rfl, rfl, hcs, S1, S2, S3, S4, hcg, hcb⟩ := own_cls hO.pc hkl
 obtain ⟨im, ds, M1, M2, yc, yt, Kc, Ky, rfl, rfl, hds, T1, T2, hmg, hmb⟩ := own_mth hO.pm hjl
 refine s_regL [.A, .B, .A, .A, .B, .C, .A, .A, .A, .B, .A, .A, .B, .C, .A, .A, .A, .A] hD ?_
 refine tZ ?_
 apply x_ldL 0 hD rfl rfl rfl rfl
 refine tZ ?_
 apply x_ldL 0 hD rfl rfl rfl rfl
 apply x_vC rfl rfl rfl trivial
 apply x_as (w := I k) rfl rfl (by omega) (by rw [hk]; rfl)
 apply x_as (w := .ptr ic (k * 10)) rfl rfl ⟨rfl, by omega, by omega⟩ (by simp)
 refine tZ ?_
 apply x_ldL 0 hD rfl rfl rfl rfl
 refine tZ ?_
 apply x_ldL 0 hD rfl rfl rfl rfl
 apply x_vC rfl rfl rfl trivial
 apply x_as (w := I j) rfl rfl (by omega) (by rw [hj]; rfl)
 apply x_as (w := .ptr im (j * 6)) rfl rfl ⟨rfl, by omega, by omega⟩ (by simp)
 refine tZ ?_
 refine tv ?_
 have hA := dis_app.2 ⟨hD, hDn⟩
 rw [← hset_app]
 generalize [uc, um, I m.entry, I m.need, ug, uw, ur, us, uf] = CM at hM hA ⊢
 obtain ⟨R, hR⟩ : ∃ R : OL, R = L1 ++ (Kr ++ (Ks ++ (Kt ++ (Kf ++ (L2 ++ ((im, .cells ds) :: (M1 ++ (Kc ++ (Ky ++ (M2 ++ (Lg ++ (Lr ++ (Lw ++ (Ls ++ Lf)))))))))))))) := ⟨_, rfl⟩
 obtain ⟨R', hR'⟩ : ∃ R : OL, R = M1 ++ (Kc ++ (Ky ++ (M2 ++ ((ic, .cells cs) :: (L1 ++ (Kr ++ (Ks ++ (Kt ++ (Kf ++ (L2 ++ (Lg ++ (Lr ++ (Lw ++ (Ls ++ Lf)))))))))))))) := ⟨_, rfl⟩
 have eR : (L1 ++ ((Kr ++ (Ks ++ (Kt ++ Kf))) ++ L2)) ++ (((im, AObj.cells ds) :: (M1 ++ ((Kc ++ Ky) ++ M2))) ++ (Lg ++ (Lr ++ (Lw ++ (Ls ++ Lf))))) = R := by rw [hR]; simp only [List.append_assoc, List.cons_append]
 change Dis G ((b10, .cells (O9 (.sl ic 0 N.classes.length 10) (.sl im 0 N.methods.length 6) N.entry N.need vg vw vr vs vf)) :: (b4, .cells CM) :: (ic, .cells cs) :: ((L1 ++ ((Kr ++ (Ks ++ (Kt ++ Kf))) ++ L2)) ++ (((im, AObj.cells ds) :: (M1 ++ ((Kc ++ Ky) ++ M2))) ++ (Lg ++ (Lr ++ (Lw ++ (Ls ++ Lf))))))) at hA
 show SRun _ _ _ _ _ _ [b10, b4] (hset G ((b10, .cells (O9 (.sl ic 0 N.classes.length 10) (.sl im 0 N.methods.length 6) N.entry N.need vg vw vr vs vf)) :: (b4, .cells CM) :: (ic, .cells cs) :: ((L1 ++ ((Kr ++ (Ks ++ (Kt ++ Kf))) ++ L2)) ++ (((im, AObj.cells ds) :: (M1 ++ ((Kc ++ Ky) ++ M2))) ++ (Lg ++ (Lr ++ (Lw ++ (Ls ++ Lf)))))))) _
 rw [eR] at hA ⊢
 have hRR : List.Perm ((ic, .cells cs) :: R) ((im, .cells ds) :: R') := by
  have := List.perm_append_comm_assoc ((ic, AObj.cells cs) :: (L1 ++ (Kr ++ (Ks ++ (Kt ++ (Kf ++ L2)))))) ((im, AObj.cells ds) :: (M1 ++ (Kc ++ (Ky ++ M2)))) (Lg ++ (Lr ++ (Lw ++ (Ls ++ Lf))))
  rw [hR, hR']
  simpa only [List.append_assoc, List.cons_append] using this
 clear eR
 have qc := hwN.classes.2 _ (List.getElem_mem hkl)
 have sc := hsN.classes.2 _ (List.getElem_mem hkl)
 obtain ⟨s1, s2, s3, s4⟩ := hp1 _ (List.getElem_mem hkl)
 have s5 := hp2 _ (List.getElem_mem hjl)
 have qm := hwN.methods.2 _ (List.getElem_mem hjl)
 have sm := hsN.methods.2 _ (List.getElem_mem hjl)
 refine s_join (σ := Image × List AV × OL × Heap) (fun _ => [(4, .ptr b4 0), (10, .ptr b10 0)]) (fun s h' => h' = hset s.2.2.2 ((b10, .cells s.2.1) :: (b4, .cells CM) :: s.2.2.1) ∧ Dis s.2.2.2 ((b10, .cells s.2.1) :: (b4, .cells CM) :: s.2.2.1) ∧ Ext g0 s.2.2.2 ∧ (∀ H, Has H s.2.2.1 → RImg H s.2.1 s.1) ∧ s.1.WF ∧ Image.Small s.1) ?_ ?_
 ·refine tA ?_
  obtain ⟨z, hz, hz9⟩ : ∃ z : Nat, (wh.tmod 10 + 10).tmod 10 = z ∧ z < 10 := by
   have h1 := Int.lt_tmod_of_pos wh (b := 10) (by omega)
   have h2 := Int.tmod_lt_of_pos wh (b := 10) (by omega)
   have h3 : (wh.tmod 10 + 10).tmod 10 = (wh.tmod 10 + 10) % 10 := Int.tmod_eq_emod_of_nonneg (by omega)
   exact ⟨((wh.tmod 10 + 10) % 10).toNat, by omega, by omega⟩
  have h1 := Int.lt_tmod_of_pos wh (b := 10) (by omega)
  have h2 := Int.tmod_lt_of_pos wh (b := 10) (by omega)
  apply o_as (w := I (wh.tmod 10)) rfl rfl (by decide) rfl
  apply o_as (w := I (wh.tmod 10 + 10)) rfl rfl trivial (by rw [w64 (by omega) (by omega)])
  apply o_as (w := I z) rfl rfl (by decide) (by rw [← hz])
  clear hz h1 h2
  refine tA ?_
  refine oI (z = 0) (fun Z => ?_) (fun Z => ?_)
  ·refine tA ?_
   apply o_st1L 2 hA rfl rfl rfl rfl rfl rfl (by omega)
   intro hA
   refine tA ?_
   exact ⟨({ N with classes := N.classes.set k { N.classes[k] with super := x } }, _, _, _), tU, rfl, rfl, hA, hx1, fun H hh => Own.view (m := { N with classes := N.classes.set k { N.classes[k] with super := x } }) ⟨hcb 1 _ { N.classes[k] with super := x } _ (by decide) ⟨xr, xs, xt, xf, Kr, Ks, Kt, Kf, rfl, S1, S2, S3, S4, rfl⟩, hO.pm, hO.pg, hO.pr, hO.pw, hO.ps, hO.pf⟩ (by simp only [has_app, has_cons, List.cons_append, hR] at hh ⊢; simp only [hh, and_self]), wf_cls hwN hsN { qc with super := i3 } ⟨sc.name, sc.refs, sc.subs, sc.slots, sc.faces⟩⟩
  refine tA ?_
  refine oI (z = 1) (fun Z => ?_) (fun Z => ?_)
  ·refine tA ?_
   apply o_st1L 2 hA rfl rfl rfl rfl rfl rfl (by omega)
   intro hA
   refine tA ?_
   exact ⟨({ N with classes := N.classes.set k { N.classes[k] with init := x } }, _, _, _), tU, rfl, rfl, hA, hx1, fun H hh => Own.view (m := { N with classes := N.classes.set k { N.classes[k] with init := x } }) ⟨hcb 2 _ { N.classes[k] with init := x } _ (by decide) ⟨xr, xs, xt, xf, Kr, Ks, Kt, Kf, rfl, S1, S2, S3, S4, rfl⟩, hO.pm, hO.pg, hO.pr, hO.pw, hO.ps, hO.pf⟩ (by simp only [has_app, has_cons, List.cons_append, hR] at hh ⊢; simp only [hh, and_self]), wf_cls hwN hsN { qc with init := i3 } ⟨sc.name, sc.refs, sc.subs, sc.slots, sc.faces⟩⟩
  refine tA ?_
  refine oI (z = 2) (fun Z => ?_) (fun Z => ?_)
  ·refine tA ?_
   apply o_ldL 2 hA rfl rfl rfl rfl (hcg 3 (by decide))
   refine tA ?_
   apply o_val rfl rfl trivial
   refine oB fun b _ => ?_
   apply o_val (v := .tsl [.bool b] 1) rfl rfl ⟨rfl, rfl⟩
   obtain ⟨q1, hB, hK⟩ := pull_out (B := [_, _, _]) (K := Kr) (M := (L1) ++ (Ks ++ (Kt ++ (Kf ++ (L2 ++ (((im, .cells ds) :: (M1 ++ ((Kc ++ Ky) ++ M2))) ++ (Lg ++ (Lr ++ (Lw ++ (Ls ++ Lf)))))))))) (.cons _ (.cons _ (.cons _ (show R.Perm (Kr ++ ((L1) ++ (Ks ++ (Kt ++ (Kf ++ (L2 ++ (((im, .cells ds) :: (M1 ++ ((Kc ++ Ky) ++ M2))) ++ (Lg ++ (Lr ++ (Lw ++ (Ls ++ Lf))))))))))) by have := List.perm_append_comm_assoc (L1) Kr (Ks ++ (Kt ++ (Kf ++ (L2 ++ (((im, .cells ds) :: (M1 ++ ((Kc ++ Ky) ++ M2))) ++ (Lg ++ (Lr ++ (Lw ++ (Ls ++ Lf))))))))); rw [hR]; simpa only [List.append_assoc, List.cons_append] using this)))) hA
   rw [q1]
   obtain ⟨d, O, C⟩ := S1.osl hK
   apply o_appL hB rfl rfl rfl rfl O rfl rfl rfl (by omega)
   intro v h1 O2 hg hB
   refine tA ?_
   apply o_st1L 2 hB rfl rfl rfl rfl rfl O2.ones (by omega)
   intro hB
   refine tA ?_
   obtain ⟨G', Kn, Sn, rfl, hK2, hx2⟩ := sep_back (m := N.classes[k].refs ++ [b]) (dis_app.1 hK).2 (by rw [List.length_append]; exact O2.weaken hg) (C.snoc (M := []) rfl ⟨fun _ => rfl, rfl⟩)
   exact ⟨({ N with classes := N.classes.set k { N.classes[k] with refs := N.classes[k].refs ++ [b] } }, _, (ic, .cells (cs.set (k * 10 + 3) v)) :: (Kn ++ ((L1) ++ (Ks ++ (Kt ++ (Kf ++ (L2 ++ (((im, .cells ds) :: (M1 ++ ((Kc ++ Ky) ++ M2))) ++ (Lg ++ (Lr ++ (Lw ++ (Ls ++ Lf))))))))))), _), tU, rfl, hset_app.symm, dis_app.2 ⟨hB, hK2⟩, hx1.trans hx2, fun H hh => Own.view (m := { N with classes := N.classes.set k { N.classes[k] with refs := N.classes[k].refs ++ [b] } }) ⟨hcb 3 v { N.classes[k] with refs := N.classes[k].refs ++ [b] } (Kn ++ (Ks ++ (Kt ++ Kf))) (by decide) ⟨v, xs, xt, xf, Kn, Ks, Kt, Kf, rfl, Sn, S2, S3, S4, rfl⟩, hO.pm, hO.pg, hO.pr, hO.pw, hO.ps, hO.pf⟩ (by simp only [has_app, has_cons, List.cons_append] at hh ⊢; simp only [hh, and_self]), wf_cls hwN hsN { qc with refs := by show (_ ++ [_]).length ≤ _; rw [List.length_append]; simp only [List.length_singleton]; omega } ⟨sc.name, by show (_ ++ [_]).length ≤ _; rw [List.length_append]; simp only [List.length_singleton]; omega, sc.subs, sc.slots, sc.faces⟩⟩
  refine tA ?_
  refine oI (z = 3) (fun Z => ?_) (fun Z => ?_)
  ·refine tA ?_
   apply o_ldL 2 hA rfl rfl rfl rfl (hcg 6 (by decide))
   refine tA ?_
   apply o_val (v := .agg [I x, I p]) rfl rfl trivial
   apply o_val (v := .tsl [I x, I p] 1) rfl rfl ⟨rfl, rfl⟩
   obtain ⟨q1, hB, hK⟩ := pull_out (B := [_, _, _]) (K := Kf) (M := (L1 ++ (Kr ++ (Ks ++ Kt))) ++ (L2 ++ (((im, .cells ds) :: (M1 ++ ((Kc ++ Ky) ++ M2))) ++ (Lg ++ (Lr ++ (Lw ++ (Ls ++ Lf))))))) (.cons _ (.cons _ (.cons _ (show R.Perm (Kf ++ ((L1 ++ (Kr ++ (Ks ++ Kt))) ++ (L2 ++ (((im, .cells ds) :: (M1 ++ ((Kc ++ Ky) ++ M2))) ++ (Lg ++ (Lr ++ (Lw ++ (Ls ++ Lf)))))))) by have := List.perm_append_comm_assoc (L1 ++ (Kr ++ (Ks ++ Kt))) Kf (L2 ++ (((im, .cells ds) :: (M1 ++ ((Kc ++ Ky) ++ M2))) ++ (Lg ++ (Lr ++ (Lw ++ (Ls ++ Lf)))))); rw [hR]; simpa only [List.append_assoc, List.cons_append] using this)))) hA
   rw [q1]
   obtain ⟨d, O, C⟩ := S4.osl hK
   apply o_appL hB rfl rfl rfl rfl O rfl rfl rfl (by omega)
   intro v h1 O2 hg hB
   refine tA ?_
   apply o_st1L 2 hB rfl rfl rfl rfl rfl O2.ones (by omega)
   intro hB
   refine tA ?_
   obtain ⟨G', Kn, Sn, rfl, hK2, hx2⟩ := sep_back (m := N.classes[k].faces ++ [(x, (p : Int))]) (dis_app.1 hK).2 (by rw [List.length_append]; exact O2.weaken hg) (C.snoc (M := []) rfl ⟨fun _ => rfl, rfl⟩)
   exact ⟨({ N with classes := N.classes.set k { N.classes[k] with faces := N.classes[k].faces ++ [(x, (p : Int))] } }, _, (ic, .cells (cs.set (k * 10 + 6) v)) :: (Kn ++ ((L1 ++ (Kr ++ (Ks ++ Kt))) ++ (L2 ++ (((im, .cells ds) :: (M1 ++ ((Kc ++ Ky) ++ M2))) ++ (Lg ++ (Lr ++ (Lw ++ (Ls ++ Lf)))))))), _), tU, rfl, hset_app.symm, dis_app.2 ⟨hB, hK2⟩, hx1.trans hx2, fun H hh => Own.view (m := { N with classes := N.classes.set k { N.classes[k] with faces := N.classes[k].faces ++ [(x, (p : Int))] } }) ⟨hcb 6 v { N.classes[k] with faces := N.classes[k].faces ++ [(x, (p : Int))] } (Kr ++ (Ks ++ (Kt ++ Kn))) (by decide) ⟨xr, xs, xt, v, Kr, Ks, Kt, Kn, rfl, S1, S2, S3, Sn, rfl⟩, hO.pm, hO.pg, hO.pr, hO.pw, hO.ps, hO.pf⟩ (by simp only [has_app, has_cons, List.cons_append] at hh ⊢; simp only [hh, and_self]), wf_cls hwN hsN { qc with faces := ⟨by show (_ ++ [_]).length ≤ _; rw [List.length_append]; simp only [List.length_singleton]; omega, fun q hq => (List.mem_append.1 hq).elim (qc.faces.2 q) fun hq => by rw [List.mem_singleton.1 hq]; exact ⟨i3, i2⟩⟩ } ⟨sc.name, sc.refs, sc.subs, sc.slots, by show (_ ++ [_]).length ≤ _; rw [List.length_append]; simp only [List.length_singleton]; omega⟩⟩
  refine tA ?_
  refine oI (z = 4) (fun Z => ?_) (fun Z => ?_)
  ·refine tA ?_
   apply o_ldL 2 hA rfl rfl rfl rfl (hcg 9 (by decide))
   apply o_val rfl rfl trivial
   refine tA ?_
   apply o_st1L 2 hA rfl rfl rfl rfl rfl rfl (by omega)
   intro hA
   refine tA ?_
   exact ⟨({ N with classes := N.classes.set k { N.classes[k] with thrown := !N.classes[k].thrown } }, _, _, _), tU, rfl, rfl, hA, hx1, fun H hh => Own.view (m := { N with classes := N.classes.set k { N.classes[k] with thrown := !N.classes[k].thrown } }) ⟨hcb 9 _ { N.classes[k] with thrown := !N.classes[k].thrown } _ (by decide) ⟨xr, xs, xt, xf, Kr, Ks, Kt, Kf, rfl, S1, S2, S3, S4, rfl⟩, hO.pm, hO.pg, hO.pr, hO.pw, hO.ps, hO.pf⟩ (by simp only [has_app, has_cons, List.cons_append, hR] at hh ⊢; simp only [hh, and_self]), wf_cls hwN hsN { qc with } ⟨sc.name, sc.refs, sc.subs, sc.slots, sc.faces⟩⟩
  refine tA ?_
  refine oI (z = 5) (fun Z => ?_) (fun Z => ?_)
  ·refine tA ?_
   obtain ⟨pB, hB⟩ := hset_perm (List.Perm.cons _ (.cons _ hRR)) hA
   rw [pB]
   apply o_st1L 2 hB rfl rfl rfl rfl rfl rfl (by omega)
   intro hB
   refine tA ?_
   exact ⟨({ N with methods := N.methods.set j { N.methods[j] with args := x } }, _, _, _), tU, rfl, rfl, hB, hx1, fun H hh => Own.view (m := { N with methods := N.methods.set j { N.methods[j] with args := x } }) ⟨hO.pc, hmb 0 _ { N.methods[j] with args := x } _ (by decide) ⟨yc, yt, Kc, Ky, rfl, T1, T2, rfl⟩, hO.pg, hO.pr, hO.pw, hO.ps, hO.pf⟩ (by simp only [has_app, has_cons, List.cons_append, hR'] at hh ⊢; simp only [hh, and_self]), wf_mth hwN hsN { qm with args := i3 } ⟨sm.code, sm.traps⟩⟩
  refine tA ?_
  refine oI (z = 6) (fun Z => ?_) (fun Z => ?_)
  ·refine tA ?_
   obtain ⟨pB, hB⟩ := hset_perm (List.Perm.cons _ (.cons _ hRR)) hA
   rw [pB]
   apply o_ldL 2 hB rfl rfl rfl rfl (hmg 4 (by decide))
   refine tA ?_
   obtain ⟨y, hy, i4⟩ : ∃ y, IntKind.wrap .i64 (0 - x) = y ∧ I64 y := ⟨_, rfl, by simp [IntKind.wrap, IntKind.bits, IntKind.signed, I64]; omega⟩
   apply o_as (w := I y) rfl rfl trivial (by rw [← hy])
   apply o_val (v := .agg [I x, I p, I y, I 3]) rfl rfl trivial
   apply o_val (v := .tsl [I x, I p, I y, I 3] 1) rfl rfl ⟨rfl, rfl⟩
   obtain ⟨q1, hB, hK⟩ := pull_out (B := [_, _, _]) (K := Kc) (M := (M1) ++ (Ky ++ (M2 ++ (((ic, .cells cs) :: (L1 ++ ((Kr ++ (Ks ++ (Kt ++ Kf))) ++ L2))) ++ (Lg ++ (Lr ++ (Lw ++ (Ls ++ Lf)))))))) (.cons _ (.cons _ (.cons _ (show R'.Perm (Kc ++ ((M1) ++ (Ky ++ (M2 ++ (((ic, .cells cs) :: (L1 ++ ((Kr ++ (Ks ++ (Kt ++ Kf))) ++ L2))) ++ (Lg ++ (Lr ++ (Lw ++ (Ls ++ Lf))))))))) by have := List.perm_append_comm_assoc (M1) Kc (Ky ++ (M2 ++ (((ic, .cells cs) :: (L1 ++ ((Kr ++ (Ks ++ (Kt ++ Kf))) ++ L2))) ++ (Lg ++ (Lr ++ (Lw ++ (Ls ++ Lf))))))); rw [hR']; simpa only [List.append_assoc, List.cons_append] using this)))) hB
   rw [q1]
   obtain ⟨d, O, C⟩ := T1.osl hK
   apply o_appL hB rfl rfl rfl rfl O rfl rfl rfl (by omega)
   intro v h1 O2 hg hB
   refine tA ?_
   apply o_st1L 2 hB rfl rfl rfl rfl rfl O2.ones (by omega)
   intro hB
   refine tA ?_
   obtain ⟨G', Kn, Sn, rfl, hK2, hx2⟩ := sep_back (m := N.methods[j].code ++ [(x, (p : Int), y, 3)]) (dis_app.1 hK).2 (by rw [List.length_append]; exact O2.weaken hg) (C.snoc (M := []) rfl ⟨fun _ => rfl, rfl⟩)
   exact ⟨({ N with methods := N.methods.set j { N.methods[j] with code := N.methods[j].code ++ [(x, (p : Int), y, 3)] } }, _, (im, .cells (ds.set (j * 6 + 4) v)) :: (Kn ++ ((M1) ++ (Ky ++ (M2 ++ (((ic, .cells cs) :: (L1 ++ ((Kr ++ (Ks ++ (Kt ++ Kf))) ++ L2))) ++ (Lg ++ (Lr ++ (Lw ++ (Ls ++ Lf))))))))), _), tU, rfl, hset_app.symm, dis_app.2 ⟨hB, hK2⟩, hx1.trans hx2, fun H hh => Own.view (m := { N with methods := N.methods.set j { N.methods[j] with code := N.methods[j].code ++ [(x, (p : Int), y, 3)] } }) ⟨hO.pc, hmb 4 v { N.methods[j] with code := N.methods[j].code ++ [(x, (p : Int), y, 3)] } (Kn ++ Ky) (by decide) ⟨v, yt, Kn, Ky, rfl, Sn, T2, rfl⟩, hO.pg, hO.pr, hO.pw, hO.ps, hO.pf⟩ (by simp only [has_app, has_cons, List.cons_append] at hh ⊢; simp only [hh, and_self]), wf_mth hwN hsN { qm with code := ⟨by show (_ ++ [_]).length ≤ _; rw [List.length_append]; simp only [List.length_singleton]; omega, fun q hq => (List.mem_append.1 hq).elim (qm.code.2 q) fun hq => by rw [List.mem_singleton.1 hq]; exact ⟨i3, i2, i4, show I64 3 from i64_of (by decide) (by decide)⟩⟩ } ⟨by show (_ ++ [_]).length ≤ _; rw [List.length_append]; simp only [List.length_singleton]; omega, sm.traps⟩⟩
  refine tA ?_
  refine oI (z = 7) (fun Z => ?_) (fun Z => ?_)
  ·refine tA ?_
   apply o_st1L 0 hA rfl rfl rfl rfl rfl rfl (show 0 + 3 < 9 by decide)
   intro hA
   refine tA ?_
   exact ⟨({ N with need := x }, _, _, _), tU, rfl, rfl, hA, hx1, fun H hh => Own.view (m := { N with need := x }) ⟨hO.pc, hO.pm, hO.pg, hO.pr, hO.pw, hO.ps, hO.pf⟩ (by simp only [has_app, has_cons, List.cons_append, hR] at hh ⊢; simp only [hh, and_self]), { hwN with need := i3 }, { hsN with }⟩
  refine tA ?_
  refine oI (z = 8) (fun Z => ?_) (fun Z => ?_)
  ·refine tA ?_
   apply o_ldL 0 hA rfl rfl rfl rfl rfl
   refine tA ?_
   obtain ⟨y, hy, i4⟩ : ∃ y, IntKind.wrap .i32 x = y ∧ I32 y := ⟨_, rfl, by simp [IntKind.wrap, IntKind.bits, IntKind.signed, I32]; omega⟩
   apply o_as (w := .int .i32 y) rfl rfl trivial (by rw [← hy])
   apply o_val (v := .tsl [.int .i32 y] 1) rfl rfl ⟨rfl, rfl⟩
   obtain ⟨q1, hB, hK⟩ := pull_out (B := [_, _]) (K := Lw) (M := (((ic, .cells cs) :: (L1 ++ ((Kr ++ (Ks ++ (Kt ++ Kf))) ++ L2))) ++ (((im, .cells ds) :: (M1 ++ ((Kc ++ Ky) ++ M2))) ++ (Lg ++ Lr))) ++ (Ls ++ Lf)) (.cons _ (.cons _ (show ((ic, .cells cs) :: R).Perm (Lw ++ ((((ic, .cells cs) :: (L1 ++ ((Kr ++ (Ks ++ (Kt ++ Kf))) ++ L2))) ++ (((im, .cells ds) :: (M1 ++ ((Kc ++ Ky) ++ M2))) ++ (Lg ++ Lr))) ++ (Ls ++ Lf))) by have := List.perm_append_comm_assoc (((ic, .cells cs) :: (L1 ++ ((Kr ++ (Ks ++ (Kt ++ Kf))) ++ L2))) ++ (((im, .cells ds) :: (M1 ++ ((Kc ++ Ky) ++ M2))) ++ (Lg ++ Lr))) Lw (Ls ++ Lf); rw [hR]; simpa only [List.append_assoc, List.cons_append, List.append_nil] using this))) hA
   rw [q1]
   obtain ⟨d, O, C⟩ := hO.pw.osl hK
   apply o_appL hB rfl rfl rfl rfl O rfl rfl rfl (by omega)
   intro v h1 O2 hg hB
   refine tA ?_
   apply o_st1L 0 hB rfl rfl rfl rfl rfl O2.ones (show 0 + 5 < 9 by decide)
   intro hB
   refine tA ?_
   obtain ⟨G', Kn, Sn, rfl, hK2, hx2⟩ := sep_back (m := N.words ++ [y]) (dis_app.1 hK).2 (by rw [List.length_append]; exact O2.weaken hg) (C.snoc (M := []) rfl ⟨fun _ => rfl, rfl⟩)
   exact ⟨({ N with words := N.words ++ [y] }, _, _, _), tU, rfl, hset_app.symm, dis_app.2 ⟨hB, hK2⟩, hx1.trans hx2, fun H hh => Own.view (m := { N with words := N.words ++ [y] }) ⟨hO.pc, hO.pm, hO.pg, hO.pr, Sn, hO.ps, hO.pf⟩ (by simp only [has_app, has_cons, List.cons_append] at hh ⊢; simp only [hh, and_self]), { hwN with words := ⟨by show (_ ++ [_]).length ≤ _; rw [List.length_append]; simp only [List.length_singleton]; omega, fun q hq => (List.mem_append.1 hq).elim (hwN.words.2 q) fun hq => by rw [List.mem_singleton.1 hq]; exact i4⟩ }, { hsN with words := by show (_ ++ [_]).length ≤ _; rw [List.length_append]; simp only [List.length_singleton]; omega }⟩
  refine tA ?_
  apply o_ldL 0 hA rfl rfl rfl rfl rfl
  refine tA ?_
  apply o_val rfl rfl trivial
  refine oB fun b _ => ?_
  apply o_val (v := .tsl [.bool b] 1) rfl rfl ⟨rfl, rfl⟩
  obtain ⟨q1, hB, hK⟩ := pull_out (B := [_, _]) (K := Lf) (M := (((ic, .cells cs) :: (L1 ++ ((Kr ++ (Ks ++ (Kt ++ Kf))) ++ L2))) ++ (((im, .cells ds) :: (M1 ++ ((Kc ++ Ky) ++ M2))) ++ (Lg ++ (Lr ++ (Lw ++ Ls))))) ++ ([])) (.cons _ (.cons _ (show ((ic, .cells cs) :: R).Perm (Lf ++ ((((ic, .cells cs) :: (L1 ++ ((Kr ++ (Ks ++ (Kt ++ Kf))) ++ L2))) ++ (((im, .cells ds) :: (M1 ++ ((Kc ++ Ky) ++ M2))) ++ (Lg ++ (Lr ++ (Lw ++ Ls))))) ++ ([]))) by have := List.perm_append_comm_assoc (((ic, .cells cs) :: (L1 ++ ((Kr ++ (Ks ++ (Kt ++ Kf))) ++ L2))) ++ (((im, .cells ds) :: (M1 ++ ((Kc ++ Ky) ++ M2))) ++ (Lg ++ (Lr ++ (Lw ++ Ls))))) Lf ([]); rw [hR]; simpa only [List.append_assoc, List.cons_append, List.append_nil] using this))) hA
  rw [q1]
  obtain ⟨d, O, C⟩ := hO.pf.osl hK
  apply o_appL hB rfl rfl rfl rfl O rfl rfl rfl (by omega)
  intro v h1 O2 hg hB
  refine tA ?_
  apply o_st1L 0 hB rfl rfl rfl rfl rfl O2.ones (show 0 + 8 < 9 by decide)
  intro hB
  refine tA ?_
  obtain ⟨G', Kn, Sn, rfl, hK2, hx2⟩ := sep_back (m := N.statref ++ [b]) (dis_app.1 hK).2 (by rw [List.length_append]; exact O2.weaken hg) (C.snoc (M := []) rfl ⟨fun _ => rfl, rfl⟩)
  exact ⟨({ N with statref := N.statref ++ [b] }, _, _, _), tU, rfl, hset_app.symm, dis_app.2 ⟨hB, hK2⟩, hx1.trans hx2, fun H hh => Own.view (m := { N with statref := N.statref ++ [b] }) ⟨hO.pc, hO.pm, hO.pg, hO.pr, hO.pw, hO.ps, Sn⟩ (by simp only [has_app, has_cons, List.cons_append] at hh ⊢; simp only [hh, and_self]), { hwN with statref := by show (_ ++ [_]).length ≤ _; rw [List.length_append]; simp only [List.length_singleton]; omega }, { hsN with statref := by show (_ ++ [_]).length ≤ _; rw [List.length_append]; simp only [List.length_singleton]; omega }⟩
 clear hA hRR hR hR' hO hDn S1 S2 S3 S4 T1 T2 hcg hcb hmg hmb qc sc qm sm hp1 hp2 hp3 hp4 s1 s2 s3 s4 s5 hwN hsN hRN hx1 hk hj hkl hjl hcs hds H1 H2
 rintro ⟨n, cn, Ln, G⟩ _ ⟨rfl, hD, hx1, hv, hwn, hsn⟩
 simp only at hD hx1 hv hwn hsn ⊢
 obtain ⟨hB, hDn⟩ := dis_app.1 (show Dis G ([(b10, .cells cn), (b4, .cells CM)] ++ Ln) from hD)
 have hRn := hv _ (.of_dis hDn)
 have hR0 := hRn
 obtain ⟨wc, wm, wg, ww, wr, ws, wf, rfl, _⟩ := hR0
 have hM0 := hM
 obtain ⟨uc, um, ug, uw, ur, us, uf, rfl, _⟩ := hM0
 rw [show hset G ((b10, .cells [wc, wm, I n.entry, I n.need, wg, ww, wr, ws, wf]) :: (b4, .cells [uc, um, I m.entry, I m.need, ug, uw, ur, us, uf]) :: Ln) = hset (hset G Ln) [(b10, .cells [wc, wm, I n.entry, I n.need, wg, ww, wr, ws, wf]), (b4, .cells [uc, um, I m.entry, I m.need, ug, uw, ur, us, uf])] from hset_app (L := [_, _])]
 clear hD
 refine tA ?_
 apply o_ldnL 1 hB rfl rfl rfl rfl rfl
 apply o_ldnL 0 hB rfl rfl rfl rfl rfl
 apply o_callL hB rfl rfl rfl rfl (p18 (RImg.mono _ _ _ _ (hx1.trans (ext_hsetD hDn)) hM) hRn hwm hwn).go
 rintro _ g1 ⟨rfl, hx2⟩ hB
 replace hRn := RImg.mono _ _ _ _ hx2 hRn
 refine tA ?_
 apply o_ldnL 0 hB rfl rfl rfl rfl rfl
 apply o_callL hB rfl rfl rfl rfl (p16w hRn hwn (small_len hwn hsn))
 rintro vE g2 OE hB
 apply o_callL hB rfl rfl rfl rfl (p17 OE.view (by rw [encode_len]; have := small_len hwn hsn; unfold size; omega))
 intro vd g3 hd hB
 obtain ⟨hx3, cD, rfl, hRD⟩ := dec_of hd (dec_enc hwn hsn)
 have hD0 := hRD
 obtain ⟨zc, zm, zg, zw, zr, zs, zf, rfl, _⟩ := hD0
 refine tA ?_
 apply o_alcL hB rfl
 intro b14 hB
 apply o_stL (v := .agg [zc, zm, I n.entry, I n.need, zg, zw, zr, zs, zf]) (cs' := [zc, zm, I n.entry, I n.need, zg, zw, zr, zs, zf]) 0 hB rfl rfl rfl rfl rfl rfl hRD.one (splice_full rfl)
 intro hB
 change Dis g3 (TnB b14 b10 b4 [zc, zm, I n.entry, I n.need, zg, zw, zr, zs, zf] [wc, wm, I n.entry, I n.need, wg, ww, wr, ws, wf] [uc, um, I m.entry, I m.need, ug, uw, ur, us, uf]) at hB
 show SOps _ _ _ _ _ _ _ _ _ (hset g3 (TnB b14 b10 b4 [zc, zm, I n.entry, I n.need, zg, zw, zr, zs, zf] [wc, wm, I n.entry, I n.need, wg, ww, wr, ws, wf] [uc, um, I m.entry, I m.need, ug, uw, ur, us, uf])) _
 obtain ⟨G3, rfl, hDn, hx4⟩ := sep_end hDn (hx2.trans (OE.ext.trans hx3))
 replace hx1 := hx1.trans hx4
 clear hx2 hx3 hx4 OE hd hRn
 have hA := dis_app.2 ⟨hB, hDn⟩
 rw [← hset_app]
 refine tA ?_
 refine s_regL [.B, .B, .D, .A, .A, .A, .B, .A, .G, .B, .E, .G, .A, .A, .A, .A, .A, .A, .A, .A, .A, .B, .B, .D, .A, .A] hA ?_
 apply x_ldnL 2 hA rfl rfl rfl rfl
 apply x_ldnL 1 hA rfl rfl rfl rfl
 refine x_D (R := fun E' bx' q => ∃ G', E' = (161, .bool (decide (m = n))) :: _ ∧ bx' = _ ∧ q = hset G' (TnB b14 b10 b4 [zc, zm, I n.entry, I n.need, zg, zw, zr, zs, zf] [wc, wm, I n.entry, I n.need, wg, ww, wr, ws, wf] [uc, um, I m.entry, I m.need, ug, uw, ur, us, uf] ++ Ln) ∧ Dis G' (TnB b14 b10 b4 [zc, zm, I n.entry, I n.need, zg, zw, zr, zs, zf] [wc, wm, I n.entry, I n.need, wg, ww, wr, ws, wf] [uc, um, I m.entry, I m.need, ug, uw, ur, us, uf] ++ Ln) ∧ Ext G3 G') (by
  rw [hset_app]
  refine o_callL hB rfl rfl rfl rfl (p19 (RImg.mono _ _ _ _ (hx1.trans (ext_hsetD hDn)) hM) (hv _ (.of_dis hDn)) hwm hwn).go fun v g4 ⟨e, hx⟩ hB => ?_
  subst e
  obtain ⟨G', rfl, hD', hx'⟩ := sep_end hDn hx
  exact o_nil ⟨rfl, G', rfl, rfl, hset_app.symm, dis_app.2 ⟨hB, hD'⟩, hx'⟩) ?_
 rintro _ _ _ ⟨G4, rfl, rfl, rfl, hA, hx5⟩
 refine ⟨fun i hi => ?_, ?_⟩
 ·obtain ⟨⟨j, o⟩, hj, rfl⟩ := List.mem_map.1 hi
  rw [hset_mem hA hj]
  simp
 refine tZ ?_
 apply x_as (w := .bool true) rfl rfl trivial (by simp)
 refine tZ ?_
 apply x_ldnL 2 hA rfl rfl rfl rfl
 refine tZ ?_
 apply x_callL hA rfl rfl rfl (p16w (RImg.mono _ _ _ _ (hx1.trans hx5) hM) hwm (small_len hwm hsm))
 intro v1 G5 O1 hA
 obtain ⟨i1, rfl, _, hi1, _⟩ := own_pos O1 (by rw [encode_len]; unfold size; omega)
 refine tZ ?_
 apply x_b2sG rfl rfl (ext_hsetD hA _ _ hi1) (fun hc => by rw [dis_ids hA _ hc] at hi1; cases hi1) (sliceL_all (by simp [ubs])) (bytesOf_ubs _)
 refine tZ ?_
 apply x_ldnL 1 hA rfl rfl rfl rfl
 refine tZ ?_
 have hO : Has (only ((TnB b14 b10 b4 [zc, zm, I n.entry, I n.need, zg, zw, zr, zs, zf] [wc, wm, I n.entry, I n.need, wg, ww, wr, ws, wf] [uc, um, I m.entry, I m.need, ug, uw, ur, us, uf] ++ Ln).map Prod.fst) (hset G5 (TnB b14 b10 b4 [zc, zm, I n.entry, I n.need, zg, zw, zr, zs, zf] [wc, wm, I n.entry, I n.need, wg, ww, wr, ws, wf] [uc, um, I m.entry, I m.need, ug, uw, ur, us, uf] ++ Ln))) Ln := fun p hp => (only_in (List.mem_map.2 ⟨p, List.mem_append.2 (.inr hp), rfl⟩)).trans (hset_mem hA (List.mem_append.2 (.inr hp)))
 refine x_callE rfl rfl rfl ((p16w (hv _ hO) hwn (small_len hwn hsn)).mono fun v h1 O => ⟨O.ext, O⟩) fun v2 h1 O2 _ hfr => ?_
 obtain ⟨i2, rfl, hn2, hi2, _⟩ := own_pos O2 (by rw [encode_len]; unfold size; omega)
 have hns : i2 ∉ (TnB b14 b10 b4 [zc, zm, I n.entry, I n.need, zg, zw, zr, zs, zf] [wc, wm, I n.entry, I n.need, wg, ww, wr, ws, wf] [uc, um, I m.entry, I m.need, ug, uw, ur, us, uf] ++ Ln).map Prod.fst := fun hc => by
  rw [only_in hc] at hn2
  obtain ⟨⟨j, o⟩, hj, rfl⟩ := List.mem_map.1 hc
  rw [hset_mem hA hj] at hn2
  cases hn2
 have hi3 : plus (hset G5 (TnB b14 b10 b4 [zc, zm, I n.entry, I n.need, zg, zw, zr, zs, zf] [wc, wm, I n.entry, I n.need, wg, ww, wr, ws, wf] [uc, um, I m.entry, I m.need, ug, uw, ur, us, uf] ++ Ln)) h1 i2 = some (.cells (ubs (encode n))) := by
  unfold plus
  rw [hfr i2 (by rw [hi2]; simp) hns]
  exact hi2
 obtain ⟨G6, e6, hA, hx6⟩ := sep_end hA plus_ext
 rw [e6] at hi3 ⊢
 clear e6 hfr O2 hO hn2 hi2
 refine tZ ?_
 apply x_b2sG rfl rfl hi3 hns (sliceL_all (by simp [ubs])) (bytesOf_ubs _)
 refine tZ ?_
 apply x_as (w := .bool (decide (m = n))) rfl rfl trivial (by rw [enc_eq_iff hwm hwn hsm hsn])
 refine tZ ?_
 apply x_as (w := .bool true) rfl rfl trivial (by simp)
 refine tZ ?_
 apply x_as (w := .bool true) rfl rfl trivial rfl
 refine tZ ?_
 apply x_ldnL 0 hA rfl rfl rfl rfl
 refine tZ ?_
 apply x_ldnL 1 hA rfl rfl rfl rfl
 refine tZ ?_
 obtain ⟨hB, hDn6⟩ := dis_app.1 hA
 replace hRD := RImg.mono _ _ _ _ (ext_hset2 (hx5.trans (O1.ext.trans hx6)) Ln) hRD
 refine x_D (R := fun E' bx' q => ∃ G', E' = (182, .bool (decide (n = n))) :: _ ∧ bx' = _ ∧ q = hset G' (TnB b14 b10 b4 [zc, zm, I n.entry, I n.need, zg, zw, zr, zs, zf] [wc, wm, I n.entry, I n.need, wg, ww, wr, ws, wf] [uc, um, I m.entry, I m.need, ug, uw, ur, us, uf] ++ Ln) ∧ Dis G' (TnB b14 b10 b4 [zc, zm, I n.entry, I n.need, zg, zw, zr, zs, zf] [wc, wm, I n.entry, I n.need, wg, ww, wr, ws, wf] [uc, um, I m.entry, I m.need, ug, uw, ur, us, uf] ++ Ln) ∧ Ext G6 G') (by
  rw [hset_app]
  refine o_callL hB rfl rfl rfl rfl (p18 hRD (hv _ (.of_dis hDn6)) hwn hwn).go fun v g4 ⟨e, hx⟩ hB => ?_
  subst e
  obtain ⟨G', rfl, hD', hx'⟩ := sep_end hDn6 hx
  exact o_nil ⟨rfl, G', rfl, rfl, hset_app.symm, dis_app.2 ⟨hB, hD'⟩, hx'⟩) ?_
 rintro _ _ _ ⟨G7, rfl, rfl, rfl, hA, hx7⟩
 refine ⟨fun i hi => ?_, ?_⟩
 ·obtain ⟨⟨j, o⟩, hj, rfl⟩ := List.mem_map.1 hi
  rw [hset_mem hA hj]
  simp
 rw [decide_eq_true (rfl : n = n)]
 refine tZ ?_
 refine tA ?_
 have hxe := hx0.trans (hx1.trans (hx5.trans (O1.ext.trans (hx6.trans hx7))))
 obtain ⟨hB, hDn⟩ := dis_app.1 hA
 exact lret_ret (vs := [.bool true]) rfl rfl rfl (hxe.trans (ext_hsetD hA)) (ids_none hB (hxe.trans (ext_hsetD hDn)))
end Go.Proofs
end
section
open Go Go.Abs Go.Img
namespace Go.Proofs
set_option maxRecDepth 100000
def fsOf (P : Program) (t : TypeId) : Array Field := match P.underlying t with | some (.struct fs) => fs | _ => #[]
theorem tyc_st {P : Program} {k n : Nat} {t : TypeId} {cs : List AV} {l : List (TypeId × Nat × Nat)} (ht : P.underlying t = some (.struct (fsOf P t))) (hl : (fsOf P t).toList.map (fun f => (f.type, f.offset, P.cellsOf f.type)) = l) (hn : P.cellsOf t = n) (h : TyC P (k + 1) t cs) : cs.length = n ∧ ∀ p ∈ l, TyC P k p.1 ((cs.drop p.2.1).take p.2.2) := by
 obtain ⟨h1, h2⟩ := tyc_struct ht h
 refine ⟨h1.trans hn, fun p hp => ?_⟩
 subst hl
 obtain ⟨f, hf, rfl⟩ := List.mem_map.1 hp
 exact h2 f hf
theorem wf_i64 {n : Int} (h : (Lit.int .i64 n).wf = true) : I64 n := by
 simp [Lit.wf, IntKind.min, IntKind.max, IntKind.bits, IntKind.signed] at h
 unfold I64
 omega
theorem wf_i32 {n : Int} (h : (Lit.int .i32 n).wf = true) : I32 n := by
 simp [Lit.wf, IntKind.min, IntKind.max, IntKind.bits, IntKind.signed] at h
 unfold I32
 omega
theorem im_int {k : Nat} {l : List AV} (h : TyC Tryz.prog (k + 1) 3 l) : ∃ n, (∀ h : Heap, RN .i64 h l n) ∧ I64 n := by
 obtain ⟨n, rfl, hw⟩ := tyc_int (i := .i64) (by kernel_rfl) h
 exact ⟨n, fun _ => rfl, wf_i64 hw⟩
theorem im_i32 {k : Nat} {l : List AV} (h : TyC Tryz.prog (k + 1) 21 l) : ∃ n, (∀ h : Heap, RN .i32 h l n) ∧ I32 n := by
 obtain ⟨n, rfl, hw⟩ := tyc_int (i := .i32) (by kernel_rfl) h
 exact ⟨n, fun _ => rfl, wf_i32 hw⟩
theorem im_bool {k : Nat} {l : List AV} (h : TyC Tryz.prog (k + 1) 4 l) : ∃ b, (∀ h : Heap, RB h l b) ∧ True := by
 obtain ⟨b, rfl⟩ := tyc_bool (by kernel_rfl) h
 exact ⟨b, fun _ => rfl, trivial⟩
theorem im_pair {k : Nat} {l : List AV} (hl : l.length = 2) (h : TyC Tryz.prog (k + 2) 54 l) : ∃ p, (∀ h : Heap, RPair h l p) ∧ (I64 p.1 ∧ I64 p.2) := by
 obtain ⟨_, h2⟩ := tyc_array (n := 2) (e := 3) (by kernel_rfl) h
 have e3 : Tryz.prog.cellsOf 3 = 1 := by kernel_rfl
 match l, hl with
 | [a, b], _ =>
  have f0 := h2 0 (by decide)
  have f1 := h2 1 (by decide)
  simp only [e3] at f0 f1
  obtain ⟨x, hx, wx⟩ := im_int f0
  obtain ⟨y, hy, wy⟩ := im_int f1
  have ex : a = I x := List.cons.inj (hx fun _ => none) |>.1
  have ey : b = I y := List.cons.inj (hy fun _ => none) |>.1
  subst ex ey
  exact ⟨(x, y), fun _ => rfl, wx, wy⟩
theorem four_of {k : Nat} {l : List AV} (hl : l.length = 4) (h : ∀ p ∈ [((3 : TypeId), 0, 1), (3, 1, 1), (3, 2, 1), (3, 3, 1)], TyC Tryz.prog (k + 1) p.1 ((l.drop p.2.1).take p.2.2)) : ∃ p, (∀ h : Heap, RFour h l p) ∧ F64 p := by
 match l, hl with
 | [a, b, c, d], _ =>
  obtain ⟨x, hx, wx⟩ := im_int (h _ (.head _))
  obtain ⟨y, hy, wy⟩ := im_int (h _ (.tail _ (.head _)))
  obtain ⟨z, hz, wz⟩ := im_int (h _ (.tail _ (.tail _ (.head _))))
  obtain ⟨u, hu, wu⟩ := im_int (h _ (.tail _ (.tail _ (.tail _ (.head _)))))
  have ex : a = I x := List.cons.inj (hx fun _ => none) |>.1
  have ey : b = I y := List.cons.inj (hy fun _ => none) |>.1
  have ez : c = I z := List.cons.inj (hz fun _ => none) |>.1
  have eu : d = I u := List.cons.inj (hu fun _ => none) |>.1
  subst ex ey ez eu
  exact ⟨(x, y, z, u), fun _ => rfl, wx, wy, wz, wu⟩
theorem im_ins {k : Nat} {l : List AV} (h : TyC Tryz.prog (k + 2) 56 l) : ∃ p, (∀ h : Heap, RFour h l p) ∧ F64 p := by
 obtain ⟨h1, h2⟩ := tyc_st (n := 4) (l := [((3 : TypeId), 0, 1), (3, 1, 1), (3, 2, 1), (3, 3, 1)]) (by kernel_rfl) (by kernel_rfl) (by kernel_rfl) h
 exact four_of h1 h2
theorem im_trap {k : Nat} {l : List AV} (h : TyC Tryz.prog (k + 2) 60 l) : ∃ p, (∀ h : Heap, RFour h l p) ∧ F64 p := by
 obtain ⟨h1, h2⟩ := tyc_st (n := 4) (l := [((3 : TypeId), 0, 1), (3, 1, 1), (3, 2, 1), (3, 3, 1)]) (by kernel_rfl) (by kernel_rfl) (by kernel_rfl) h
 exact four_of h1 h2
theorem im_ints {k : Nat} {l : List AV} (h : TyC Tryz.prog (k + 2) 24 l) : ∃ v x, l = [v] ∧ (∀ h, Sl (RN .i64) 1 h v x) ∧ Len x ∧ ∀ a ∈ x, I64 a := by
 obtain ⟨v, x, e, hx, hl, hw⟩ := tyc_list (e := 3) (s := 1) (by kernel_rfl) (by kernel_rfl) (fun l _ h => im_int h) h
 exact ⟨v, x, e, hx, hl, hw⟩
theorem im_i32s {k : Nat} {l : List AV} (h : TyC Tryz.prog (k + 2) 25 l) : ∃ v x, l = [v] ∧ (∀ h, Sl (RN .i32) 1 h v x) ∧ Len x ∧ ∀ a ∈ x, I32 a := by
 obtain ⟨v, x, e, hx, hl, hw⟩ := tyc_list (e := 21) (s := 1) (by kernel_rfl) (by kernel_rfl) (fun l _ h => im_i32 h) h
 exact ⟨v, x, e, hx, hl, hw⟩
theorem im_bools {k : Nat} {l : List AV} (h : TyC Tryz.prog (k + 2) 26 l) : ∃ v x, l = [v] ∧ (∀ h, Sl RB 1 h v x) ∧ Len x := by
 obtain ⟨v, x, e, hx, hl, _⟩ := tyc_list (e := 4) (s := 1) (W := fun _ => True) (by kernel_rfl) (by kernel_rfl) (fun l _ h => im_bool h) h
 exact ⟨v, x, e, hx, hl⟩
theorem im_cls {k : Nat} {l : List AV} (h : TyC Tryz.prog (k + 4) 48 l) : ∃ c, (∀ h : Heap, RCls h l c) ∧ c.Wide := by
 obtain ⟨h1, h2⟩ := tyc_st (k := k + 3) (n := 10) (l := [((9 : TypeId), 0, 1), (3, 1, 1), (3, 2, 1), (26, 3, 1), (24, 4, 1), (24, 5, 1), (46, 6, 1), (3, 7, 1), (3, 8, 1), (4, 9, 1)]) (by kernel_rfl) (by kernel_rfl) (by kernel_rfl) h
 match l, h1 with
 | [a0, a1, a2, a3, a4, a5, a6, a7, a8, a9], _ =>
  obtain ⟨s, q0, ws⟩ := tyc_str (by kernel_rfl) (h2 _ (.head _))
  obtain ⟨x1, q1, w1⟩ := im_int (h2 (3, 1, 1) (by simp))
  obtain ⟨x2, q2, w2⟩ := im_int (h2 (3, 2, 1) (by simp))
  obtain ⟨v3, x3, q3, r3, w3⟩ := im_bools (h2 (26, 3, 1) (by simp))
  obtain ⟨v4, x4, q4, r4, w4⟩ := im_ints (h2 (24, 4, 1) (by simp))
  obtain ⟨v5, x5, q5, r5, w5⟩ := im_ints (h2 (24, 5, 1) (by simp))
  obtain ⟨v6, x6, q6, r6, w6⟩ := tyc_list (k := k + 2) (e := 54) (s := 2) (R := RPair) (W := fun p => I64 p.1 ∧ I64 p.2) (by kernel_rfl) (by kernel_rfl) (fun l hl h => im_pair hl h) (h2 (46, 6, 1) (by simp))
  obtain ⟨x7, q7, w7⟩ := im_int (h2 (3, 7, 1) (by simp))
  obtain ⟨x8, q8, w8⟩ := im_int (h2 (3, 8, 1) (by simp))
  obtain ⟨x9, q9, _⟩ := im_bool (h2 (4, 9, 1) (by simp))
  have e0 : a0 = .str s := List.cons.inj q0 |>.1
  have e1 : a1 = I x1 := List.cons.inj (q1 fun _ => none) |>.1
  have e2 : a2 = I x2 := List.cons.inj (q2 fun _ => none) |>.1
  have e3 : a3 = v3 := List.cons.inj q3 |>.1
  have e4 : a4 = v4 := List.cons.inj q4 |>.1
  have e5 : a5 = v5 := List.cons.inj q5 |>.1
  have e6 : a6 = v6 := List.cons.inj q6 |>.1
  have e7 : a7 = I x7 := List.cons.inj (q7 fun _ => none) |>.1
  have e8 : a8 = I x8 := List.cons.inj (q8 fun _ => none) |>.1
  have e9 : a9 = .bool x9 := List.cons.inj (q9 fun _ => none) |>.1
  subst e0 e1 e2 e3 e4 e5 e6 e7 e8 e9
  exact ⟨⟨s, x1, x2, x7, x8, x9, x3, x4, x5, x6⟩, fun h => ⟨_, _, _, _, rfl, r3 h, r4 h, r5 h, r6 h⟩, ⟨ws, w1, w2, w7, w8, w3, w4, w5, w6⟩⟩
theorem im_mth {k : Nat} {l : List AV} (h : TyC Tryz.prog (k + 4) 53 l) : ∃ c, (∀ h : Heap, RMth h l c) ∧ c.WF := by
 obtain ⟨h1, h2⟩ := tyc_st (k := k + 3) (n := 6) (l := [((3 : TypeId), 0, 1), (3, 1, 1), (3, 2, 1), (4, 3, 1), (50, 4, 1), (51, 5, 1)]) (by kernel_rfl) (by kernel_rfl) (by kernel_rfl) h
 match l, h1 with
 | [a0, a1, a2, a3, a4, a5], _ =>
  obtain ⟨x0, q0, w0⟩ := im_int (h2 (3, 0, 1) (by simp))
  obtain ⟨x1, q1, w1⟩ := im_int (h2 (3, 1, 1) (by simp))
  obtain ⟨x2, q2, w2⟩ := im_int (h2 (3, 2, 1) (by simp))
  obtain ⟨x3, q3, _⟩ := im_bool (h2 (4, 3, 1) (by simp))
  obtain ⟨v4, x4, q4, r4, w4⟩ := tyc_list (k := k + 2) (e := 56) (s := 4) (R := RFour) (W := F64) (by kernel_rfl) (by kernel_rfl) (fun l _ h => im_ins h) (h2 (50, 4, 1) (by simp))
  obtain ⟨v5, x5, q5, r5, w5⟩ := tyc_list (k := k + 2) (e := 60) (s := 4) (R := RFour) (W := F64) (by kernel_rfl) (by kernel_rfl) (fun l _ h => im_trap h) (h2 (51, 5, 1) (by simp))
  have e0 : a0 = I x0 := List.cons.inj (q0 fun _ => none) |>.1
  have e1 : a1 = I x1 := List.cons.inj (q1 fun _ => none) |>.1
  have e2 : a2 = I x2 := List.cons.inj (q2 fun _ => none) |>.1
  have e3 : a3 = .bool x3 := List.cons.inj (q3 fun _ => none) |>.1
  have e4 : a4 = v4 := List.cons.inj q4 |>.1
  have e5 : a5 = v5 := List.cons.inj q5 |>.1
  subst e0 e1 e2 e3 e4 e5
  exact ⟨⟨x0, x1, x2, x3, x4, x5⟩, fun h => ⟨_, _, rfl, r4 h, r5 h⟩, ⟨w0, w1, w2, w4, w5⟩⟩
theorem ty_image {v : AV} (h : TyV Tryz.prog 6 28 v) : ∃ c m, v = .agg c ∧ (∀ h, RImg h c m) ∧ m.Wide := by
 obtain ⟨l, rfl, hc⟩ := ty_struct (fs := fsOf Tryz.prog 28) (by kernel_rfl) h
 obtain ⟨h1, h2⟩ := tyc_st (k := 5) (n := 9) (l := [((22 : TypeId), 0, 1), (23, 1, 1), (3, 2, 1), (3, 3, 1), (24, 4, 1), (25, 5, 1), (24, 6, 1), (25, 7, 1), (26, 8, 1)]) (by kernel_rfl) (by kernel_rfl) (by kernel_rfl) hc
 match l, h1 with
 | [a0, a1, a2, a3, a4, a5, a6, a7, a8], _ =>
  obtain ⟨v0, x0, q0, r0, w0⟩ := tyc_list (k := 4) (e := 48) (s := 10) (R := RCls) (W := Cls.Wide) (by kernel_rfl) (by kernel_rfl) (fun l _ h => im_cls h) (h2 (22, 0, 1) (by simp))
  obtain ⟨v1, x1, q1, r1, w1⟩ := tyc_list (k := 4) (e := 53) (s := 6) (R := RMth) (W := Mth.WF) (by kernel_rfl) (by kernel_rfl) (fun l _ h => im_mth h) (h2 (23, 1, 1) (by simp))
  obtain ⟨x2, q2, w2⟩ := im_int (h2 (3, 2, 1) (by simp))
  obtain ⟨x3, q3, w3⟩ := im_int (h2 (3, 3, 1) (by simp))
  obtain ⟨v4, x4, q4, r4, w4⟩ := im_ints (h2 (24, 4, 1) (by simp))
  obtain ⟨v5, x5, q5, r5, w5⟩ := im_i32s (h2 (25, 5, 1) (by simp))
  obtain ⟨v6, x6, q6, r6, w6⟩ := im_ints (h2 (24, 6, 1) (by simp))
  obtain ⟨v7, x7, q7, r7, w7⟩ := im_i32s (h2 (25, 7, 1) (by simp))
  obtain ⟨v8, x8, q8, r8, w8⟩ := im_bools (h2 (26, 8, 1) (by simp))
  have e0 : a0 = v0 := List.cons.inj q0 |>.1
  have e1 : a1 = v1 := List.cons.inj q1 |>.1
  have e2 : a2 = I x2 := List.cons.inj (q2 fun _ => none) |>.1
  have e3 : a3 = I x3 := List.cons.inj (q3 fun _ => none) |>.1
  have e4 : a4 = v4 := List.cons.inj q4 |>.1
  have e5 : a5 = v5 := List.cons.inj q5 |>.1
  have e6 : a6 = v6 := List.cons.inj q6 |>.1
  have e7 : a7 = v7 := List.cons.inj q7 |>.1
  have e8 : a8 = v8 := List.cons.inj q8 |>.1
  subst e0 e1 e2 e3 e4 e5 e6 e7 e8
  exact ⟨_, ⟨x0, x1, x2, x3, x4, x5, x6, x7, x8⟩, rfl, fun h => ⟨_, _, _, _, _, _, _, rfl, r0 h, r1 h, r4 h, r5 h, r6 h, r7 h, r8 h⟩, ⟨w0, w1, w2, w3, w4, w5, w6, w7, w8⟩⟩
theorem extok : ExtOK Tryz.prog SlimCode.ann := by
 intro f e h
 cases h
end Go.Proofs
end
section
open Go Go.Abs Go.Proofs.SlimCode Go.Img
namespace Go.Proofs
set_option maxRecDepth 100000
theorem run_of_h {A : Ann} {P : Program} {f : Nat} {vs : List AV} {Q : Heap → Prop} (h : HCallC P A f vs (fun _ => none) fun v h' => v = .bool true ∧ Q h') : ∃ n h' n' lg, callN P A n f vs (fun _ => none) 0 = some (.bool true, h', n', lg) := by
 obtain ⟨k, v, h', n', lg, e, rfl, _⟩ := h 0 (fun _ _ => rfl)
 exact ⟨k, h', n', lg, e⟩
theorem law_run (ps : List AV) (h : TyVs Tryz.prog 6 Tryz.f7.params.toList ps) : ∃ n h' n' lg, callN Tryz.prog ann n 7 ps (fun _ => none) 0 = some (.bool true, h', n', lg) := by
 obtain ⟨a, _, rfl, ha, b, _, rfl, hb, c, _, rfl, hc, d, _, rfl, hd, rfl⟩ := h
 obtain ⟨c, m, rfl, hm, hw⟩ := ty_image ha
 obtain ⟨x, rfl, hx⟩ := ty_int (i := .i64) (by kernel_rfl) hb
 obtain ⟨y, rfl, hy⟩ := ty_int (i := .i64) (by kernel_rfl) hc
 obtain ⟨z, rfl, hz⟩ := ty_int (i := .i64) (by kernel_rfl) hd
 exact run_of_h (p7 hm hw (wf_i64 hx) (wf_i64 hy) (wf_i64 hz))
end Go.Proofs
end
