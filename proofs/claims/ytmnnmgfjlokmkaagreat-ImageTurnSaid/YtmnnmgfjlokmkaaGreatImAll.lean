import Derived.Test.YtmnnmgfjlokmkaaGreatAbsTac
import Derived.Test.YtmnnmgfjlokmkaaGreatImBegin
open Go Go.Abs Go.Proofs.SlimCode Go.Img
set_option maxRecDepth 100000
namespace Go.Proofs
theorem ext_joinS {S : List Nat} {h h1 : Heap} (h0 : ∀ id ∈ S, h1 id = none) : Ext h1 (joinS S h h1) := ext_joinR .refl h0
theorem join_at {S : List Nat} {h h1 : Heap} {i : Nat} (hi : i ∈ S) : joinS S h h1 i = h i := by
 unfold joinS
 rw [if_pos (by simpa using hi)]
theorem dec_enc {m : Image} (hw : m.WF) (hs : Image.Small m) : Img.decode (encode m) = some m := decode_encode hw (by have := small_len hw hs; unfold size; omega)
theorem enc_eq_iff {a b : Image} (ha : a.WF) (hb : b.WF) (sa : Image.Small a) (sb : Image.Small b) : decide (encode a = encode b) = decide (a = b) := by
 have h := encode_inj ha hb (by have := small_len ha sa; unfold size; omega) (by have := small_len hb sb; unfold size; omega)
 by_cases e : a = b
 ·rw [decide_eq_true e, decide_eq_true (h.2 e)]
 ·rw [decide_eq_false e, decide_eq_false (fun x => e (h.1 x))]
theorem dec_of {m : Image} {bs : B} {h h' : Heap} {v : AV} (H : DecQ bs h v h') (hd : Img.decode bs = some m) : Ext h h' ∧ ∃ c, v = .tup [.agg c, I 0] ∧ RImg h' c m := by
 obtain ⟨hx, c, e, m', rfl, hR, _, h2⟩ := H
 rcases h2 with ⟨rfl, h3⟩ | ⟨_, h3, _⟩
 ·rw [hd] at h3
  cases h3
  exact ⟨hx, c, rfl, hR⟩
 ·rw [hd] at h3
  cases h3
theorem p3 {h : Heap} {c1 c2 : List AV} {a0 b0 : Image} (hc1 : ∀ h, RImg h c1 a0) (hc2 : ∀ h, RImg h c2 b0) (hw1 : a0.Wide) (hw2 : b0.Wide) : HCallC Tryz.prog ann 3 [.agg c1, .agg c2] h fun v h' => v = .bool true ∧ Ext h h' := by
 have hone1 := (hc1 h).one
 have hone2 := (hc2 h).one
 have hl1 : c1.length = 9 := by obtain ⟨_, _, _, _, _, _, _, rfl, _⟩ := hc1 h; rfl
 have hl2 : c2.length = 9 := by obtain ⟨_, _, _, _, _, _, _, rfl, _⟩ := hc2 h; rfl
 refine (show Looks _ _ _ _ _ _ from ?_).go
 refine s_look_of rfl Tryz.func3 (frc (by with_unfolding_all rfl)) rfl ?_
 refine tS ?_
 apply o_hbox (v := .agg c1) rfl rfl hone1
 intro b2 hb2
 have ha : Ext h (upd h b2 (some (.cells c1))) := .upd hb2
 have e2 : upd h b2 (some (.cells c1)) b2 = some (.cells c1) := upd_same
 show SOps _ _ _ _ _ _ _ _ [b2] (upd h b2 (some (.cells c1))) _
 generalize upd h b2 (some (.cells c1)) = k0 at ha e2 ⊢
 apply o_hbox (v := .agg c2) rfl rfl hone2
 intro b3 hb3
 have hne : b2 ≠ b3 := fun hc => by rw [← hc, e2] at hb3; cases hb3
 have hh3 : h b3 = none := by
  cases e : h b3 with
  | none => rfl
  | some o => rw [ha _ _ e] at hb3; cases hb3
 replace ha : Ext h (upd k0 b3 (some (.cells c2))) := ha.trans (.upd hb3)
 replace e2 : upd k0 b3 (some (.cells c2)) b2 = _ := (upd_ne hne).trans e2
 have e3 : upd k0 b3 (some (.cells c2)) b3 = some (.cells c2) := upd_same
 show SOps _ _ _ _ _ _ _ _ [b3, b2] (upd k0 b3 (some (.cells c2))) _
 generalize upd k0 b3 (some (.cells c2)) = k1 at ha e2 e3 ⊢
 have hbx : ∀ i ∈ [b3, b2], h i = none := fun i hi => by
  simp only [List.mem_cons, List.not_mem_nil, or_false] at hi
  rcases hi with rfl | rfl
  ·exact hh3
  ·exact hb2
 refine tV ?_
 (refine tG ?_; (with_reducible apply o_call); exact rfl; exact rfl; exact rfl; exact p14)
 refine tV ?_
 apply o_val rfl rfl trivial
 ((with_reducible apply o_nil); (with_reducible apply ssq_norm))
 (with_reducible apply s_condF)
 exact rfl
 (with_reducible apply s_skip)
 (with_reducible apply ssq_norm)
 (with_reducible apply s_seq)
 have hS : ∀ id ∈ [b2, b3], k1 id ≠ none := fun id hid => by
  simp only [List.mem_cons, List.not_mem_nil, or_false] at hid
  rcases hid with rfl | rfl
  ·rw [e2]; simp
  ·rw [e3]; simp
 have hhS : ∀ id ∈ [b2, b3], h id = none := fun id hid => by
  simp only [List.mem_cons, List.not_mem_nil, or_false] at hid
  rcases hid with rfl | rfl
  ·exact hb2
  ·exact hh3
 apply s_regX [b2, b3] [.B, .A, .B, .A, .D, .D] hS rfl
 apply x_ldB (v := .agg c1) rfl rfl (.p b2 0 c1 c1 e2 (sliceL_all rfl)) (.head _) (.many rfl hl1)
 refine x_A (R := fun E' bx' k => ∃ c, E' = (15, .agg c) :: _ ∧ bx' = [b3, b2] ∧ Ext (killL [b2, b3] k1) k ∧ ∃ m, RImg k c m ∧ m.WF ∧ Image.Small m ∧ m = m)
  (o_hcall rfl rfl rfl rfl (p15 (hc1 _) hw1) fun v k q => by
   obtain ⟨hx, c, m, rfl, hR, hw, hs⟩ := q
   exact o_nil ⟨rfl, c, rfl, rfl, hx, m, hR, hw, hs, rfl⟩) ?_
 rintro _ _ kA ⟨cA, rfl, rfl, hxA, mA, hRA, hwA, hsA, _⟩ hnA
 have eA2 := (join_at (h := k1) (h1 := kA) (S := [b2, b3]) (i := b2) (.head _)).trans e2
 have eA3 := (join_at (h := k1) (h1 := kA) (S := [b2, b3]) (i := b3) (.tail _ (.head _))).trans e3
 have hjA := ext_joinS (S := [b2, b3]) (h := k1) hnA
 have hhA : Ext h kA := (ha.kill hhS).trans hxA
 generalize joinS [b2, b3] k1 kA = kB at eA2 eA3 hjA ⊢
 apply x_ldB (v := .agg c2) rfl rfl (.p b3 0 c2 c2 eA3 (sliceL_all rfl)) (.tail _ (.head _)) (.many rfl hl2)
 refine x_A (R := fun E' bx' k => ∃ c, E' = (17, .agg c) :: _ ∧ bx' = [b3, b2] ∧ Ext (killL [b2, b3] kB) k ∧ ∃ m, RImg k c m ∧ m.WF ∧ Image.Small m ∧ m = m)
  (o_hcall rfl rfl rfl rfl (p15 (hc2 _) hw2) fun v k q => by
   obtain ⟨hx, c, m, rfl, hR, hw, hs⟩ := q
   exact o_nil ⟨rfl, c, rfl, rfl, hx, m, hR, hw, hs, rfl⟩) ?_
 rintro _ _ G ⟨cB, rfl, rfl, hxB, mB, hRB, hwB, hsB, _⟩ hnG
 have eB2 := (join_at (h := kB) (h1 := G) (S := [b2, b3]) (i := b2) (.head _)).trans eA2
 have eB3 := (join_at (h := kB) (h1 := G) (S := [b2, b3]) (i := b3) (.tail _ (.head _))).trans eA3
 have hjB := ext_joinS (S := [b2, b3]) (h := kB) hnG
 have hAG : Ext kA G := (hjA.kill hnA).trans hxB
 have hhG : Ext h G := hhA.trans hAG
 replace hRA := mono_I hRA hAG
 generalize joinS [b2, b3] kB G = kC at eB2 eB3 hjB ⊢
 have hG2 : G b2 = none := hnG b2 (.head _)
 have hG3 : G b3 = none := hnG b3 (.tail _ (.head _))
 clear hAG hhA hjA hxA hxB eA2 eA3 hnA e2 e3 hS
 have hlA : cA.length = 9 := by obtain ⟨_, _, _, _, _, _, _, rfl, _⟩ := hRA; rfl
 have hlB : cB.length = 9 := by obtain ⟨_, _, _, _, _, _, _, rfl, _⟩ := hRB; rfl
 refine x_D (R := fun E' bx' k => E' = _ ∧ bx' = [b3, b2] ∧ k = upd kC b2 (some (.cells cA))) (o_st (v := .agg cA) (cs' := cA) rfl rfl rfl rfl hlA hRA.one eB2 (splice_all (hl1.trans hlA.symm)) (o_nil ⟨rfl, rfl, rfl, rfl⟩)) ?_
 rintro _ _ _ ⟨rfl, rfl, rfl⟩
 replace hjB := ext_set (b := b2) (X := some (.cells cA)) hjB hG2
 replace eB3 : upd kC b2 (some (.cells cA)) b3 = _ := (upd_ne (Ne.symm hne)).trans eB3
 have eC2 : upd kC b2 (some (.cells cA)) b2 = some (.cells cA) := upd_same
 generalize upd kC b2 (some (.cells cA)) = kD at hjB eB3 eC2 ⊢
 refine ⟨fun id hid => by
  simp only [List.mem_cons, List.not_mem_nil, or_false] at hid
  rcases hid with rfl | rfl
  ·rw [eC2]; simp
  ·rw [eB3]; simp, ?_⟩
 refine x_D (R := fun E' bx' k => E' = _ ∧ bx' = [b3, b2] ∧ k = upd kD b3 (some (.cells cB))) (o_st (v := .agg cB) (cs' := cB) rfl rfl rfl rfl hlB hRB.one eB3 (splice_all (hl2.trans hlB.symm)) (o_nil ⟨rfl, rfl, rfl, rfl⟩)) ?_
 rintro _ _ _ ⟨rfl, rfl, rfl⟩
 replace hjB := ext_set (b := b3) (X := some (.cells cB)) hjB hG3
 have e2 : upd kD b3 (some (.cells cB)) b2 = _ := (upd_ne hne).trans eC2
 have e3 : upd kD b3 (some (.cells cB)) b3 = some (.cells cB) := upd_same
 generalize upd kD b3 (some (.cells cB)) = kE at hjB e2 e3 ⊢
 have hS : ∀ id ∈ [b2, b3], kE id ≠ none := fun id hid => by
  simp only [List.mem_cons, List.not_mem_nil, or_false] at hid
  rcases hid with rfl | rfl
  ·rw [e2]; simp
  ·rw [e3]; simp
 refine ⟨hS, ?_⟩
 apply x_nil
 clear eB2 eB3 eC2
 have hlbA := small_len hwA hsA
 have hlbB := small_len hwB hsB
 (with_reducible apply ssq_norm)
 (with_reducible apply s_seq)
 apply s_regX [b2, b3] [.B, .A, .B, .A, .A, .A] hS rfl
 apply x_ldB (v := .agg cA) rfl rfl (.p b2 0 cA cA e2 (sliceL_all rfl)) (.head _) (.many rfl hlA)
 refine x_A (R := fun E' bx' k => ∃ v, E' = (19, v) :: _ ∧ bx' = [b3, b2] ∧ OSl (killL [b2, b3] kE) 1 v (ubs (encode mA)) (encode mA).length k)
  (o_hcall rfl rfl rfl rfl (p16 (mono_I hRA (hjB.kill hnG)) hwA (by omega)) fun v k q => by
   rcases q with ⟨_, O⟩ | ⟨hb, _⟩
   ·exact o_nil ⟨rfl, v, rfl, rfl, O⟩
   ·unfold size at hb; omega) ?_
 rintro _ _ kF ⟨vA, rfl, rfl, OA⟩ hnF
 have eF2 := (join_at (h := kE) (h1 := kF) (S := [b2, b3]) (i := b2) (.head _)).trans e2
 have eF3 := (join_at (h := kE) (h1 := kF) (S := [b2, b3]) (i := b3) (.tail _ (.head _))).trans e3
 have hjF := ext_joinS (S := [b2, b3]) (h := kE) hnF
 have hGF : Ext G kF := (hjB.kill hnG).trans OA.ext
 generalize joinS [b2, b3] kE kF = kH at eF2 eF3 hjF ⊢
 apply x_ldB (v := .agg cB) rfl rfl (.p b3 0 cB cB eF3 (sliceL_all rfl)) (.tail _ (.head _)) (.many rfl hlB)
 refine x_A (R := fun E' bx' k => ∃ v, E' = (21, v) :: _ ∧ bx' = [b3, b2] ∧ OSl (killL [b2, b3] kH) 1 v (ubs (encode mB)) (encode mB).length k)
  (o_hcall rfl rfl rfl rfl (p16 (mono_I hRB (hGF.trans (hjF.kill hnF))) hwB (by omega)) fun v k q => by
   rcases q with ⟨_, O⟩ | ⟨hb, _⟩
   ·exact o_nil ⟨rfl, v, rfl, rfl, O⟩
   ·unfold size at hb; omega) ?_
 rintro _ _ kI ⟨vB, rfl, rfl, OB⟩ hnI
 have e2' := (join_at (h := kH) (h1 := kI) (S := [b2, b3]) (i := b2) (.head _)).trans eF2
 have e3' := (join_at (h := kH) (h1 := kI) (S := [b2, b3]) (i := b3) (.tail _ (.head _))).trans eF3
 have hjI := ext_joinS (S := [b2, b3]) (h := kH) hnI
 have hFI : Ext kF kI := (hjF.kill hnF).trans OB.ext
 have hvA := (OA.view.mono hFI).mono hjI
 have hvB := OB.view.mono hjI
 have hGK := (hGF.trans hFI).trans hjI
 generalize joinS [b2, b3] kH kI = kk at e2' e3' hjI hvA hvB hGK ⊢
 apply x_v rfl rfl trivial
 apply x_v rfl rfl trivial
 apply x_nil
 replace hRA := mono_I hRA hGK
 replace hRB := mono_I hRB hGK
 have hhK := hhG.trans hGK
 clear hGF hFI hjF hjI hjB OA OB eF2 eF3 hnF hnI hGK hS e2 e3 hnG hhG hG2 hG3
 refine tV ?_
 apply o_hcall rfl rfl rfl rfl (p17 hvA (by rw [encode_len]; unfold size; omega))
 intro vd kd hd
 obtain ⟨hx, cD, rfl, hRD⟩ := dec_of hd (dec_enc hwA hsA)
 clear hd
 replace e2' := hx _ _ e2'
 replace e3' := hx _ _ e3'
 replace hRA := mono_I hRA hx
 replace hRB := mono_I hRB hx
 replace hvA := hvA.mono hx
 replace hvB := hvB.mono hx
 replace hhK := hhK.trans hx
 clear hx
 refine tW ?_
 apply o_alc rfl
 intro b8 hn
 have hlD : cD.length = 9 := by obtain ⟨_, _, _, _, _, _, _, rfl, _⟩ := hRD; rfl
 apply o_st (v := .agg cD) (cs := [.nil .sl, .nil .sl, I 0, I 0, .nil .sl, .nil .sl, .nil .sl, .nil .sl, .nil .sl]) (cs' := cD) rfl rfl rfl rfl hlD hRD.one upd_same (splice_all hlD.symm)
 rw [upd_upd]
 have hx : Ext kd (upd kd b8 (some (.cells cD))) := .upd hn
 have e8 : upd kd b8 (some (.cells cD)) b8 = some (.cells cD) := upd_same
 have hh8 : h b8 = none := by
  cases e : h b8 with
  | none => rfl
  | some o => rw [hhK _ _ e] at hn; cases hn
 generalize upd kd b8 (some (.cells cD)) = ke at hx e8 ⊢
 replace e2' := hx _ _ e2'
 replace e3' := hx _ _ e3'
 replace hRA := mono_I hRA hx
 replace hRB := mono_I hRB hx
 replace hRD := mono_I hRD hx
 replace hvA := hvA.mono hx
 replace hvB := hvB.mono hx
 replace hhK := hhK.trans hx
 clear hx
 refine tV ?_
 apply o_ldhn (l := cA) rfl rfl e2' (fun h => by omega) (sliceL_all hlA)
 refine tV ?_
 apply o_ldhn (l := cB) rfl rfl e3' (fun h => by omega) (sliceL_all hlB)
 refine tV ?_
 apply o_hcall rfl rfl rfl rfl (p18 hRA hRB hwA hwB).go
 rintro _ k18 ⟨rfl, hx⟩
 replace e2' := hx _ _ e2'
 replace e3' := hx _ _ e3'
 replace e8 := hx _ _ e8
 replace hRA := mono_I hRA hx
 replace hRB := mono_I hRB hx
 replace hRD := mono_I hRD hx
 replace hvA := hvA.mono hx
 replace hvB := hvB.mono hx
 replace hhK := hhK.trans hx
 clear hx
 refine tV ?_
 apply o_ldhn (l := cA) rfl rfl e2' (fun h => by omega) (sliceL_all hlA)
 refine tV ?_
 apply o_ldhn (l := cB) rfl rfl e3' (fun h => by omega) (sliceL_all hlB)
 refine tV ?_
 apply o_hcall rfl rfl rfl rfl (p19 hRA hRB hwA hwB).go
 rintro _ k19 ⟨rfl, hx⟩
 replace e2' := hx _ _ e2'
 replace e3' := hx _ _ e3'
 replace e8 := hx _ _ e8
 replace hRA := mono_I hRA hx
 replace hRB := mono_I hRB hx
 replace hRD := mono_I hRD hx
 replace hvA := hvA.mono hx
 replace hvB := hvB.mono hx
 replace hhK := hhK.trans hx
 clear hx
 refine tV ?_
 refine oB fun b hb => ?_
 obtain rfl : b = true := by rw [hb]; simp
 refine tV ?_
 apply o_ldhn (l := cA) rfl rfl e2' (fun h => by omega) (sliceL_all hlA)
 refine tV ?_
 apply o_ldhn (l := cA) rfl rfl e2' (fun h => by omega) (sliceL_all hlA)
 refine tV ?_
 apply o_hcall rfl rfl rfl rfl (p19 hRA hRA hwA hwA).go
 rintro _ k20 ⟨rfl, hx⟩
 replace e2' := hx _ _ e2'
 replace e3' := hx _ _ e3'
 replace e8 := hx _ _ e8
 replace hRA := mono_I hRA hx
 replace hRB := mono_I hRB hx
 replace hRD := mono_I hRD hx
 replace hvA := hvA.mono hx
 replace hvB := hvB.mono hx
 replace hhK := hhK.trans hx
 clear hx
 rw [decide_eq_true (rfl : mA = mA)]
 refine tV ?_
 refine oB fun b hb => ?_
 obtain rfl : b = true := by rw [hb]; rfl
 refine tV ?_
 apply o_ldhn (l := cD) rfl rfl e8 (fun h => by omega) (sliceL_all hlD)
 refine tV ?_
 apply o_ldhn (l := cA) rfl rfl e2' (fun h => by omega) (sliceL_all hlA)
 refine tV ?_
 apply o_hcall rfl rfl rfl rfl (p18 hRD hRA hwA hwA).go
 rintro _ k21 ⟨rfl, hx⟩
 replace e2' := hx _ _ e2'
 replace e3' := hx _ _ e3'
 replace e8 := hx _ _ e8
 replace hRA := mono_I hRA hx
 replace hRB := mono_I hRB hx
 replace hRD := mono_I hRD hx
 replace hvA := hvA.mono hx
 replace hvB := hvB.mono hx
 replace hhK := hhK.trans hx
 clear hx
 rw [decide_eq_true (rfl : mA = mA)]
 refine tV ?_
 apply o_b2sV rfl rfl hvA (fun h => by omega)
 refine tV ?_
 apply o_b2sV rfl rfl hvB (fun h => by omega)
 refine tV ?_
 apply o_as (w := .bool (decide (encode mA = encode mB))) rfl rfl trivial (by
  by_cases e : encode mA = encode mB
  ·simp [e]
  ·simp [e])
 rw [enc_eq_iff hwA hwB hsA hsB]
 refine tV ?_
 refine oB fun b hb => ?_
 obtain rfl : b = true := by rw [hb]; simp
 refine tW ?_
 (first | apply lret_ret | apply lret_norm)
 ·exact rfl
 ·exact rfl
 ·exact rfl
 ·exact hhK
 ·intro i hi
  rcases List.mem_cons.1 hi with rfl | hi
  ·exact hh8
  ·exact hbx i hi
end Go.Proofs
