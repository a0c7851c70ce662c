import Derived.Test.YtmnnmgfjlokmkaaGreatImBegin
import Derived.Test.YtmnnmgfjlokmkaaGreatImCrc
import Derived.Test.YtmnnmgfjlokmkaaGreatImCut
import Derived.Test.YtmnnmgfjlokmkaaGreatAbsLaw
import Derived.Test.YtmnnmgfjlokmkaaGreatAbsTy
section
open Go Go.Abs Go.Proofs.SlimCode Go.Img
set_option maxRecDepth 100000
namespace Go.Proofs
theorem ext_joinS {S : List Nat} {h h1 : Heap} (h0 : ∀ id ∈ S, h1 id = none) : Ext h1 (joinS S h h1) := ext_joinR .refl h0
theorem join_at {S : List Nat} {h h1 : Heap} {i : Nat} (hi : i ∈ S) : joinS S h h1 i = h i := by
  unfold joinS
  rw [if_pos (by simpa using hi)]
theorem dec_enc {m : Image} (hw : m.WF) (hs : Image.Small m) : Img.decode (encode m) = some m := decode_encode hw (by have := small_len hw hs; unfold size; omega)
theorem enc_eq_iff {a b : Image} (ha : a.WF) (hb : b.WF) (sa : Image.Small a) (sb : Image.Small b) : decide (encode a = encode b) = decide (a = b) := by
  have h := encode_inj ha hb (by have := small_len ha sa; unfold size; omega) (by have := small_len hb sb; unfold size; omega)
  by_cases e : a = b
  · rw [decide_eq_true e, decide_eq_true (h.2 e)]
  · rw [decide_eq_false e, decide_eq_false (fun x => e (h.1 x))]
theorem dec_of {m : Image} {bs : B} {h h' : Heap} {v : AV} (H : DecQ bs h v h') (hd : Img.decode bs = some m) : Ext h h' ∧ ∃ c, v = .tup [.agg c, I 0] ∧ RImg h' c m := by
  obtain ⟨hx, c, e, m', rfl, hR, _, h2⟩ := H
  rcases h2 with ⟨rfl, h3⟩ | ⟨_, h3, _⟩
  · rw [hd] at h3
    cases h3
    exact ⟨hx, c, rfl, hR⟩
  · rw [hd] at h3
    cases h3
theorem p3 {h : Heap} {c1 c2 : List AV} {a0 b0 : Image} (hc1 : ∀ h, RImg h c1 a0) (hc2 : ∀ h, RImg h c2 b0) (hw1 : a0.Wide) (hw2 : b0.Wide) : HCallC Tryz.prog ann 3 [.agg c1, .agg c2] h fun v h' => v = .bool true ∧ Ext h h' := by
  have hone1 := (hc1 h).one
  have hone2 := (hc2 h).one
  have hl1 : c1.length = 9 := by obtain ⟨_, _, _, _, _, _, _, rfl, _⟩ := hc1 h; rfl
  have hl2 : c2.length = 9 := by obtain ⟨_, _, _, _, _, _, _, rfl, _⟩ := hc2 h; rfl
  refine (show Looks _ _ _ _ _ _ from ?_).go
  refine s_look_of rfl Tryz.func3 (frc (by with_unfolding_all rfl)) rfl ?_
  (repeat ((with_reducible first | apply s_seq | apply s_reg0)))
  apply o_hbox (v := .agg c1) rfl rfl hone1
  intro b2 hb2
  have ha : Ext h (upd h b2 (some (.cells c1))) := .upd hb2
  have e2 : upd h b2 (some (.cells c1)) b2 = some (.cells c1) := upd_same
  show SOps _ _ _ _ _ _ _ _ [b2] (upd h b2 (some (.cells c1))) _
  generalize upd h b2 (some (.cells c1)) = k0 at ha e2 ⊢
  apply o_hbox (v := .agg c2) rfl rfl hone2
  intro b3 hb3
  have hne : b2 ≠ b3 := fun hc => by rw [← hc, e2] at hb3; cases hb3
  have hh3 : h b3 = none := by
    cases e : h b3 with
    | none => rfl
    | some o => rw [ha _ _ e] at hb3; cases hb3
  replace ha : Ext h (upd k0 b3 (some (.cells c2))) := ha.trans (.upd hb3)
  replace e2 : upd k0 b3 (some (.cells c2)) b2 = _ := (upd_ne hne).trans e2
  have e3 : upd k0 b3 (some (.cells c2)) b3 = some (.cells c2) := upd_same
  show SOps _ _ _ _ _ _ _ _ [b3, b2] (upd k0 b3 (some (.cells c2))) _
  generalize upd k0 b3 (some (.cells c2)) = k1 at ha e2 e3 ⊢
  have hbx : ∀ i ∈ [b3, b2], h i = none := fun i hi => by
    simp only [List.mem_cons, List.not_mem_nil, or_false] at hi
    rcases hi with rfl | rfl
    · exact hh3
    · exact hb2
  (repeat (first | ((with_reducible apply o_valM); exact rfl; exact rfl; exact rfl; exact trivial) | (with_reducible first | apply s_seq | apply s_reg0 | apply o_nil | apply ssq_norm)))
  ((with_reducible apply o_call); exact rfl; exact rfl; exact rfl; exact p14)
  (repeat (first | ((with_reducible apply o_valM); exact rfl; exact rfl; exact rfl; exact trivial) | (with_reducible first | apply s_seq | apply s_reg0 | apply o_nil | apply ssq_norm)))
  apply o_val rfl rfl trivial
  ((with_reducible apply o_nil); (with_reducible apply ssq_norm))
  (with_reducible apply s_condF)
  exact rfl
  (with_reducible apply s_skip)
  (with_reducible apply ssq_norm)
  (with_reducible apply s_seq)
  have hS : ∀ id ∈ [b2, b3], k1 id ≠ none := fun id hid => by
    simp only [List.mem_cons, List.not_mem_nil, or_false] at hid
    rcases hid with rfl | rfl
    · rw [e2]; simp
    · rw [e3]; simp
  have hhS : ∀ id ∈ [b2, b3], h id = none := fun id hid => by
    simp only [List.mem_cons, List.not_mem_nil, or_false] at hid
    rcases hid with rfl | rfl
    · exact hb2
    · exact hh3
  apply s_regX [b2, b3] [.B, .A, .B, .A, .D, .D] hS rfl
  apply x_ldB (v := .agg c1) rfl rfl (.p b2 0 c1 c1 e2 (sliceL_all rfl)) (.head _) (.many rfl hl1)
  refine x_A (R := fun E' bx' k => ∃ c, E' = (15, .agg c) :: _ ∧ bx' = [b3, b2] ∧ Ext (killL [b2, b3] k1) k ∧ ∃ m, RImg k c m ∧ m.WF ∧ Image.Small m ∧ m = m)
    (o_hcall rfl rfl rfl rfl (p15 (hc1 _) hw1) fun v k q => by
      obtain ⟨hx, c, m, rfl, hR, hw, hs⟩ := q
      exact o_nil ⟨rfl, c, rfl, rfl, hx, m, hR, hw, hs, rfl⟩) ?_
  rintro _ _ kA ⟨cA, rfl, rfl, hxA, mA, hRA, hwA, hsA, _⟩ hnA
  have eA2 := (join_at (h := k1) (h1 := kA) (S := [b2, b3]) (i := b2) (.head _)).trans e2
  have eA3 := (join_at (h := k1) (h1 := kA) (S := [b2, b3]) (i := b3) (.tail _ (.head _))).trans e3
  have hjA := ext_joinS (S := [b2, b3]) (h := k1) hnA
  have hhA : Ext h kA := (ha.kill hhS).trans hxA
  generalize joinS [b2, b3] k1 kA = kB at eA2 eA3 hjA ⊢
  apply x_ldB (v := .agg c2) rfl rfl (.p b3 0 c2 c2 eA3 (sliceL_all rfl)) (.tail _ (.head _)) (.many rfl hl2)
  refine x_A (R := fun E' bx' k => ∃ c, E' = (17, .agg c) :: _ ∧ bx' = [b3, b2] ∧ Ext (killL [b2, b3] kB) k ∧ ∃ m, RImg k c m ∧ m.WF ∧ Image.Small m ∧ m = m)
    (o_hcall rfl rfl rfl rfl (p15 (hc2 _) hw2) fun v k q => by
      obtain ⟨hx, c, m, rfl, hR, hw, hs⟩ := q
      exact o_nil ⟨rfl, c, rfl, rfl, hx, m, hR, hw, hs, rfl⟩) ?_
  rintro _ _ G ⟨cB, rfl, rfl, hxB, mB, hRB, hwB, hsB, _⟩ hnG
  have eB2 := (join_at (h := kB) (h1 := G) (S := [b2, b3]) (i := b2) (.head _)).trans eA2
  have eB3 := (join_at (h := kB) (h1 := G) (S := [b2, b3]) (i := b3) (.tail _ (.head _))).trans eA3
  have hjB := ext_joinS (S := [b2, b3]) (h := kB) hnG
  have hAG : Ext kA G := (hjA.kill hnA).trans hxB
  have hhG : Ext h G := hhA.trans hAG
  replace hRA := mono_I hRA hAG
  generalize joinS [b2, b3] kB G = kC at eB2 eB3 hjB ⊢
  have hG2 : G b2 = none := hnG b2 (.head _)
  have hG3 : G b3 = none := hnG b3 (.tail _ (.head _))
  clear hAG hhA hjA hxA hxB eA2 eA3 hnA e2 e3 hS
  have hlA : cA.length = 9 := by obtain ⟨_, _, _, _, _, _, _, rfl, _⟩ := hRA; rfl
  have hlB : cB.length = 9 := by obtain ⟨_, _, _, _, _, _, _, rfl, _⟩ := hRB; rfl
  refine x_D (R := fun E' bx' k => E' = _ ∧ bx' = [b3, b2] ∧ k = upd kC b2 (some (.cells cA))) (o_st (v := .agg cA) (cs' := cA) rfl rfl rfl rfl hlA hRA.one eB2 (splice_all (hl1.trans hlA.symm)) (o_nil ⟨rfl, rfl, rfl, rfl⟩)) ?_
  rintro _ _ _ ⟨rfl, rfl, rfl⟩
  replace hjB := ext_set (b := b2) (X := some (.cells cA)) hjB hG2
  replace eB3 : upd kC b2 (some (.cells cA)) b3 = _ := (upd_ne (Ne.symm hne)).trans eB3
  have eC2 : upd kC b2 (some (.cells cA)) b2 = some (.cells cA) := upd_same
  generalize upd kC b2 (some (.cells cA)) = kD at hjB eB3 eC2 ⊢
  refine ⟨fun id hid => by
    simp only [List.mem_cons, List.not_mem_nil, or_false] at hid
    rcases hid with rfl | rfl
    · rw [eC2]; simp
    · rw [eB3]; simp, ?_⟩
  refine x_D (R := fun E' bx' k => E' = _ ∧ bx' = [b3, b2] ∧ k = upd kD b3 (some (.cells cB))) (o_st (v := .agg cB) (cs' := cB) rfl rfl rfl rfl hlB hRB.one eB3 (splice_all (hl2.trans hlB.symm)) (o_nil ⟨rfl, rfl, rfl, rfl⟩)) ?_
  rintro _ _ _ ⟨rfl, rfl, rfl⟩
  replace hjB := ext_set (b := b3) (X := some (.cells cB)) hjB hG3
  have e2 : upd kD b3 (some (.cells cB)) b2 = _ := (upd_ne hne).trans eC2
  have e3 : upd kD b3 (some (.cells cB)) b3 = some (.cells cB) := upd_same
  generalize upd kD b3 (some (.cells cB)) = kE at hjB e2 e3 ⊢
  have hS : ∀ id ∈ [b2, b3], kE id ≠ none := fun id hid => by
    simp only [List.mem_cons, List.not_mem_nil, or_false] at hid
    rcases hid with rfl | rfl
    · rw [e2]; simp
    · rw [e3]; simp
  refine ⟨hS, ?_⟩
  apply x_nil
  clear eB2 eB3 eC2
  have hlbA := small_len hwA hsA
  have hlbB := small_len hwB hsB
  (with_reducible apply ssq_norm)
  (with_reducible apply s_seq)
  apply s_regX [b2, b3] [.B, .A, .B, .A, .A, .A] hS rfl
  apply x_ldB (v := .agg cA) rfl rfl (.p b2 0 cA cA e2 (sliceL_all rfl)) (.head _) (.many rfl hlA)
  refine x_A (R := fun E' bx' k => ∃ v, E' = (19, v) :: _ ∧ bx' = [b3, b2] ∧ OSl (killL [b2, b3] kE) 1 v (ubs (encode mA)) (encode mA).length k)
    (o_hcall rfl rfl rfl rfl (p16 (mono_I hRA (hjB.kill hnG)) hwA (by omega)) fun v k q => by
      rcases q with ⟨_, O⟩ | ⟨hb, _⟩
      · exact o_nil ⟨rfl, v, rfl, rfl, O⟩
      · unfold size at hb; omega) ?_
  rintro _ _ kF ⟨vA, rfl, rfl, OA⟩ hnF
  have eF2 := (join_at (h := kE) (h1 := kF) (S := [b2, b3]) (i := b2) (.head _)).trans e2
  have eF3 := (join_at (h := kE) (h1 := kF) (S := [b2, b3]) (i := b3) (.tail _ (.head _))).trans e3
  have hjF := ext_joinS (S := [b2, b3]) (h := kE) hnF
  have hGF : Ext G kF := (hjB.kill hnG).trans OA.ext
  generalize joinS [b2, b3] kE kF = kH at eF2 eF3 hjF ⊢
  apply x_ldB (v := .agg cB) rfl rfl (.p b3 0 cB cB eF3 (sliceL_all rfl)) (.tail _ (.head _)) (.many rfl hlB)
  refine x_A (R := fun E' bx' k => ∃ v, E' = (21, v) :: _ ∧ bx' = [b3, b2] ∧ OSl (killL [b2, b3] kH) 1 v (ubs (encode mB)) (encode mB).length k)
    (o_hcall rfl rfl rfl rfl (p16 (mono_I hRB (hGF.trans (hjF.kill hnF))) hwB (by omega)) fun v k q => by
      rcases q with ⟨_, O⟩ | ⟨hb, _⟩
      · exact o_nil ⟨rfl, v, rfl, rfl, O⟩
      · unfold size at hb; omega) ?_
  rintro _ _ kI ⟨vB, rfl, rfl, OB⟩ hnI
  have e2' := (join_at (h := kH) (h1 := kI) (S := [b2, b3]) (i := b2) (.head _)).trans eF2
  have e3' := (join_at (h := kH) (h1 := kI) (S := [b2, b3]) (i := b3) (.tail _ (.head _))).trans eF3
  have hjI := ext_joinS (S := [b2, b3]) (h := kH) hnI
  have hFI : Ext kF kI := (hjF.kill hnF).trans OB.ext
  have hvA := (OA.view.mono hFI).mono hjI
  have hvB := OB.view.mono hjI
  have hGK := (hGF.trans hFI).trans hjI
  generalize joinS [b2, b3] kH kI = kk at e2' e3' hjI hvA hvB hGK ⊢
  apply x_v rfl rfl trivial
  apply x_v rfl rfl trivial
  apply x_nil
  replace hRA := mono_I hRA hGK
  replace hRB := mono_I hRB hGK
  have hhK := hhG.trans hGK
  clear hGF hFI hjF hjI hjB OA OB eF2 eF3 hnF hnI hGK hS e2 e3 hnG hhG hG2 hG3
  (repeat (first | ((with_reducible apply o_valM); exact rfl; exact rfl; exact rfl; exact trivial) | (with_reducible first | apply s_seq | apply s_reg0 | apply ssq_norm)))
  apply o_hcall rfl rfl rfl rfl (p17 hvA (by rw [encode_len]; unfold size; omega))
  intro vd kd hd
  obtain ⟨hx, cD, rfl, hRD⟩ := dec_of hd (dec_enc hwA hsA)
  clear hd
  replace e2' := hx _ _ e2'
  replace e3' := hx _ _ e3'
  replace hRA := mono_I hRA hx
  replace hRB := mono_I hRB hx
  replace hvA := hvA.mono hx
  replace hvB := hvB.mono hx
  replace hhK := hhK.trans hx
  clear hx
  (repeat ((with_reducible apply o_valW); exact rfl; exact rfl; exact rfl; exact trivial))
  apply o_alc rfl
  intro b8 hn
  have hlD : cD.length = 9 := by obtain ⟨_, _, _, _, _, _, _, rfl, _⟩ := hRD; rfl
  apply o_st (v := .agg cD) (cs := [.nil .sl, .nil .sl, I 0, I 0, .nil .sl, .nil .sl, .nil .sl, .nil .sl, .nil .sl]) (cs' := cD) rfl rfl rfl rfl hlD hRD.one upd_same (splice_all hlD.symm)
  rw [upd_upd]
  have hx : Ext kd (upd kd b8 (some (.cells cD))) := .upd hn
  have e8 : upd kd b8 (some (.cells cD)) b8 = some (.cells cD) := upd_same
  have hh8 : h b8 = none := by
    cases e : h b8 with
    | none => rfl
    | some o => rw [hhK _ _ e] at hn; cases hn
  generalize upd kd b8 (some (.cells cD)) = ke at hx e8 ⊢
  replace e2' := hx _ _ e2'
  replace e3' := hx _ _ e3'
  replace hRA := mono_I hRA hx
  replace hRB := mono_I hRB hx
  replace hRD := mono_I hRD hx
  replace hvA := hvA.mono hx
  replace hvB := hvB.mono hx
  replace hhK := hhK.trans hx
  clear hx
  (repeat (first | ((with_reducible apply o_valM); exact rfl; exact rfl; exact rfl; exact trivial) | (with_reducible first | apply s_seq | apply s_reg0 | apply o_nil | apply ssq_norm)))
  apply o_ldhn (l := cA) rfl rfl e2' (fun h => by omega) (sliceL_all hlA)
  skip
  apply o_ldhn (l := cB) rfl rfl e3' (fun h => by omega) (sliceL_all hlB)
  skip
  apply o_hcall rfl rfl rfl rfl (p18 hRA hRB hwA hwB).go
  rintro _ k18 ⟨rfl, hx⟩
  replace e2' := hx _ _ e2'
  replace e3' := hx _ _ e3'
  replace e8 := hx _ _ e8
  replace hRA := mono_I hRA hx
  replace hRB := mono_I hRB hx
  replace hRD := mono_I hRD hx
  replace hvA := hvA.mono hx
  replace hvB := hvB.mono hx
  replace hhK := hhK.trans hx
  clear hx
  (repeat (first | ((with_reducible apply o_valM); exact rfl; exact rfl; exact rfl; exact trivial) | (with_reducible first | apply s_seq | apply s_reg0 | apply o_nil | apply ssq_norm)))
  apply o_ldhn (l := cA) rfl rfl e2' (fun h => by omega) (sliceL_all hlA)
  skip
  apply o_ldhn (l := cB) rfl rfl e3' (fun h => by omega) (sliceL_all hlB)
  skip
  apply o_hcall rfl rfl rfl rfl (p19 hRA hRB hwA hwB).go
  rintro _ k19 ⟨rfl, hx⟩
  replace e2' := hx _ _ e2'
  replace e3' := hx _ _ e3'
  replace e8 := hx _ _ e8
  replace hRA := mono_I hRA hx
  replace hRB := mono_I hRB hx
  replace hRD := mono_I hRD hx
  replace hvA := hvA.mono hx
  replace hvB := hvB.mono hx
  replace hhK := hhK.trans hx
  clear hx
  (repeat ((with_reducible apply o_valM); exact rfl; exact rfl; exact rfl; exact trivial))
  (with_reducible apply o_bool)
  exact rfl
  exact rfl
  exact trivial
  intro b hb
  obtain rfl : b = true := by rw [hb]; simp
  (repeat (first | ((with_reducible apply o_valM); exact rfl; exact rfl; exact rfl; exact trivial) | ((with_reducible apply o_guardT); exact rfl; exact rfl)))
  apply o_ldhn (l := cA) rfl rfl e2' (fun h => by omega) (sliceL_all hlA)
  (repeat ((with_reducible apply o_guardT); exact rfl; exact rfl))
  apply o_ldhn (l := cA) rfl rfl e2' (fun h => by omega) (sliceL_all hlA)
  (repeat ((with_reducible apply o_guardT); exact rfl; exact rfl))
  apply o_hcall rfl rfl rfl rfl (p19 hRA hRA hwA hwA).go
  rintro _ k20 ⟨rfl, hx⟩
  replace e2' := hx _ _ e2'
  replace e3' := hx _ _ e3'
  replace e8 := hx _ _ e8
  replace hRA := mono_I hRA hx
  replace hRB := mono_I hRB hx
  replace hRD := mono_I hRD hx
  replace hvA := hvA.mono hx
  replace hvB := hvB.mono hx
  replace hhK := hhK.trans hx
  clear hx
  rw [decide_eq_true (rfl : mA = mA)]
  (repeat (first | ((with_reducible apply o_valM); exact rfl; exact rfl; exact rfl; exact trivial) | ((with_reducible apply o_guardT); exact rfl; exact rfl)))
  (with_reducible apply o_bool)
  exact rfl
  exact rfl
  exact trivial
  intro b hb
  obtain rfl : b = true := by rw [hb]; rfl
  (repeat (first | ((with_reducible apply o_valM); exact rfl; exact rfl; exact rfl; exact trivial) | ((with_reducible apply o_guardT); exact rfl; exact rfl)))
  apply o_ldhn (l := cD) rfl rfl e8 (fun h => by omega) (sliceL_all hlD)
  (repeat ((with_reducible apply o_guardT); exact rfl; exact rfl))
  apply o_ldhn (l := cA) rfl rfl e2' (fun h => by omega) (sliceL_all hlA)
  (repeat ((with_reducible apply o_guardT); exact rfl; exact rfl))
  apply o_hcall rfl rfl rfl rfl (p18 hRD hRA hwA hwA).go
  rintro _ k21 ⟨rfl, hx⟩
  replace e2' := hx _ _ e2'
  replace e3' := hx _ _ e3'
  replace e8 := hx _ _ e8
  replace hRA := mono_I hRA hx
  replace hRB := mono_I hRB hx
  replace hRD := mono_I hRD hx
  replace hvA := hvA.mono hx
  replace hvB := hvB.mono hx
  replace hhK := hhK.trans hx
  clear hx
  rw [decide_eq_true (rfl : mA = mA)]
  (repeat (first | ((with_reducible apply o_valM); exact rfl; exact rfl; exact rfl; exact trivial) | ((with_reducible apply o_guardT); exact rfl; exact rfl)))
  apply o_b2sV rfl rfl hvA (fun h => by omega)
  (repeat (first | ((with_reducible apply o_valM); exact rfl; exact rfl; exact rfl; exact trivial) | ((with_reducible apply o_guardT); exact rfl; exact rfl)))
  apply o_b2sV rfl rfl hvB (fun h => by omega)
  (repeat ((with_reducible apply o_guardT); exact rfl; exact rfl))
  apply o_as (w := .bool (decide (encode mA = encode mB))) rfl rfl trivial (by
    by_cases e : encode mA = encode mB
    · simp [e]
    · simp [e])
  rw [enc_eq_iff hwA hwB hsA hsB]
  (repeat (first | ((with_reducible apply o_valM); exact rfl; exact rfl; exact rfl; exact trivial) | ((with_reducible apply o_guardT); exact rfl; exact rfl)))
  (with_reducible apply o_bool)
  exact rfl
  exact rfl
  exact trivial
  intro b hb
  obtain rfl : b = true := by rw [hb]; simp
  (repeat (first | ((with_reducible apply o_valW); exact rfl; exact rfl; exact rfl; exact trivial) | (with_reducible first | apply s_ret | apply o_nil | apply ssq_norm)))
  (first | apply lret_ret | apply lret_norm)
  · exact rfl
  · exact rfl
  · exact rfl
  · exact hhK
  · intro i hi
    rcases List.mem_cons.1 hi with rfl | hi
    · exact hh8
    · exact hbx i hi
end Go.Proofs
end
section
open Go Go.Abs Go.Proofs.SlimCode Go.Img
set_option maxRecDepth 100000
namespace Go.Proofs
theorem tree_sl {s n : Nat} {v : AV} {cs : List AV} (H : ∀ h, VSl h s v cs n) : (v = .nil .sl ∧ cs = [] ∧ n = 0) ∨ (v = .tsl cs n ∧ cs.length = n * s) := by
  have H := H (fun _ => none)
  cases H with
  | nil => exact .inl ⟨rfl, rfl, rfl⟩
  | tsl _ _ hl => exact .inr ⟨rfl, hl⟩
  | sl id _ _ os _ hid _ => cases hid
theorem p21 {h : Heap} {v : AV} {bs : B} (hv : ∀ h, VSl h 1 v (ubs bs) bs.length) (hl : bs.length ≤ 9223372036854775807) : HCallC Tryz.prog ann 21 [v, I 60] h fun w h' => Ext h h' ∧ ∀ h, VSl h 1 w (ubs (bs.take 60)) (bs.take 60).length := by
  have fin : ∀ (w : AV), (∀ h, VSl h 1 w (ubs (bs.take 60)) (bs.take 60).length) → ∀ (E : Env), lk E 4 = some w → hretx Tryz.prog ann 21 [.tmp 4] h (fun w h' => Ext h h' ∧ ∀ h, VSl h 1 w (ubs (bs.take 60)) (bs.take 60).length) .ret E [] h := fun w hw E hE => hx_ret (vs := [w]) (by simp only [resE, hE]) rfl (by rw [killL_nil]; exact ⟨.refl, hw⟩) (fun _ => .inl ⟨.refl, hw⟩)
  refine s_call_x rfl Tryz.func21 (frc (by with_unfolding_all rfl)) rfl ?_
  (repeat (first | ((with_reducible apply o_valM); exact rfl; exact rfl; exact rfl; exact trivial) | (with_reducible first | apply s_seq | apply s_reg0 | apply o_nil | apply ssq_norm)))
  apply o_lenV rfl rfl (hv h)
  (repeat ((with_reducible apply o_valM); exact rfl; exact rfl; exact rfl; exact trivial))
  (with_reducible apply o_bool)
  exact rfl
  exact rfl
  exact trivial
  intro b hb
  by_cases hk : bs.length ≤ 60
  · obtain rfl : b = false := by rw [hb]; exact decide_eq_false (by omega)
    (repeat (first | ((with_reducible apply o_valW); exact rfl; exact rfl; exact rfl; exact trivial) | (with_reducible first | apply s_seq | apply s_reg0 | apply s_skip | apply s_ret | apply o_nil | apply ssq_norm) | ((with_reducible apply s_condF); exact rfl)))
    exact fin _ (by rw [List.take_of_length_le hk]; exact hv) _ rfl
  · obtain rfl : b = true := by rw [hb]; exact decide_eq_true (by omega)
    (repeat (first | ((with_reducible apply o_valM); exact rfl; exact rfl; exact rfl; exact trivial) | (with_reducible first | apply s_seq | apply s_reg0 | apply o_nil | apply ssq_norm) | ((with_reducible apply s_condT); exact rfl)))
    rcases tree_sl hv with ⟨_, _, h0⟩ | ⟨rfl, hln⟩
    · omega
    apply o_val (p := (0 : Int) ≤ 0 ∧ (0 : Int) ≤ 60 ∧ (60 : Int) ≤ bs.length) (v := .tsl ((ubs bs).take 60) 60) rfl rfl ⟨by omega, by omega, by omega⟩
    (repeat (first | ((with_reducible apply o_valW); exact rfl; exact rfl; exact rfl; exact trivial) | (with_reducible first | apply s_ret | apply o_nil | apply ssq_norm | apply ssq_ret)))
    refine fin _ (fun h => ?_) _ rfl
    have e : (bs.take 60).length = 60 := by rw [List.length_take]; omega
    have e2 : ubs (bs.take 60) = (ubs bs).take 60 := by unfold ubs; rw [List.map_take]
    rw [e, e2]
    exact .tsl _ _ (by rw [List.length_take]; simp [ubs]; omega)
theorem p23 {h : Heap} {v : AV} {bs : B} (hv : VSl h 1 v (ubs bs) bs.length) (hl : bs.length ≤ 9223372036854775807) : Looks Tryz.prog ann 23 [v] h (.bool (Img.decode bs).isSome) := by
  refine s_look_of rfl Tryz.func23 (frc (by with_unfolding_all rfl)) rfl ?_
  (repeat (first | ((with_reducible apply o_valM); exact rfl; exact rfl; exact rfl; exact trivial) | (with_reducible first | apply s_seq | apply s_reg0 | apply o_nil | apply ssq_norm)))
  apply o_hcall rfl rfl rfl rfl (p17 hv hl)
  rintro _ k1 ⟨hx, c, e, m, rfl, hR, hW, hd⟩
  have hlc : c.length = 9 := by obtain ⟨_, _, _, _, _, _, _, rfl, _⟩ := hR; rfl
  (repeat ((with_reducible apply o_valW); exact rfl; exact rfl; exact rfl; exact trivial))
  apply o_alc rfl
  intro b3 hn
  have hh : h b3 = none := by
    cases e : h b3 with
    | none => rfl
    | some o => rw [hx _ _ e] at hn; cases hn
  apply o_st (v := .agg c) (cs := [.nil .sl, .nil .sl, I 0, I 0, .nil .sl, .nil .sl, .nil .sl, .nil .sl, .nil .sl]) (cs' := c) rfl rfl rfl rfl hlc hR.one upd_same (splice_all hlc.symm)
  rw [upd_upd]
  have hx2 : Ext h (upd k1 b3 (some (.cells c))) := hx.trans (.upd hn)
  generalize upd k1 b3 (some (.cells c)) = k2 at hx2 ⊢
  (repeat (first | ((with_reducible apply o_valM); exact rfl; exact rfl; exact rfl; exact trivial) | (with_reducible first | apply s_seq | apply s_reg0 | apply o_nil | apply ssq_norm)))
  (with_reducible apply o_bool)
  exact rfl
  exact rfl
  exact trivial
  intro b hb
  have e : b = (Img.decode bs).isSome := by
    rw [hb]
    rcases hd with ⟨rfl, h2⟩ | ⟨rfl, h2, _⟩
    · rw [h2]; rfl
    · rw [h2]; rfl
  subst e
  (repeat (first | ((with_reducible apply o_valW); exact rfl; exact rfl; exact rfl; exact trivial) | (with_reducible first | apply s_ret | apply o_nil | apply ssq_norm)))
  (first | apply lret_ret | apply lret_norm)
  · exact rfl
  · exact rfl
  · exact rfl
  · exact hx2
  · intro i hi
    rw [List.mem_singleton.1 hi]
    exact hh
theorem p22 {h : Heap} {v : AV} {bs : B} (hv : ∀ h, VSl h 1 v (ubs bs) bs.length) (hl : bs.length ≤ 9223372036854775807) : Looks Tryz.prog ann 22 [v] h (.bool true) := by
  refine s_look_of rfl Tryz.func22 (frc (by with_unfolding_all rfl)) rfl ?_
  (repeat (first | ((with_reducible apply o_valM); exact rfl; exact rfl; exact rfl; exact trivial) | (with_reducible first | apply s_seq | apply s_reg0 | apply o_nil | apply ssq_norm)))
  apply o_hcall rfl rfl rfl rfl (p17 (hv h) hl)
  rintro _ k1 ⟨hx, c, e, m, rfl, hR, hW, hd⟩
  have hlc : c.length = 9 := by obtain ⟨_, _, _, _, _, _, _, rfl, _⟩ := hR; rfl
  (repeat ((with_reducible apply o_valW); exact rfl; exact rfl; exact rfl; exact trivial))
  apply o_alc rfl
  intro b3 hn
  have hh : h b3 = none := by
    cases e : h b3 with
    | none => rfl
    | some o => rw [hx _ _ e] at hn; cases hn
  apply o_st (v := .agg c) (cs := [.nil .sl, .nil .sl, I 0, I 0, .nil .sl, .nil .sl, .nil .sl, .nil .sl, .nil .sl]) (cs' := c) rfl rfl rfl rfl hlc hR.one upd_same (splice_all hlc.symm)
  rw [upd_upd]
  have hx1 : Ext k1 (upd k1 b3 (some (.cells c))) := .upd hn
  have e3 : upd k1 b3 (some (.cells c)) b3 = some (.cells c) := upd_same
  generalize upd k1 b3 (some (.cells c)) = k2 at hx1 e3 ⊢
  have hhx := hx.trans hx1
  replace hR := mono_I hR hx1
  have hbx : ∀ i ∈ [b3], h i = none := fun i hi => by rw [List.mem_singleton.1 hi]; exact hh
  rcases hd with ⟨rfl, h2⟩ | ⟨rfl, h2, rfl⟩
  · obtain ⟨henc, hsz⟩ := decode_some h2
    (repeat (first | ((with_reducible apply o_valM); exact rfl; exact rfl; exact rfl; exact trivial) | (with_reducible first | apply s_seq | apply s_reg0 | apply o_nil | apply ssq_norm)))
    (with_reducible apply o_bool)
    exact rfl
    exact rfl
    exact trivial
    intro b hb
    obtain rfl : b = false := by rw [hb]; rfl
    ((with_reducible apply o_nil); (with_reducible apply ssq_norm))
    (with_reducible apply s_condF)
    exact rfl
    (with_reducible apply s_skip)
    (with_reducible apply ssq_norm)
    (with_reducible apply s_seq)
    apply s_regX [] [.A, .A, .A, .A, .C, .A, .A] (fun _ h => nomatch h) rfl
    refine x_A (R := fun E' bx' k => E' = (19, .agg c) :: _ ∧ bx' = [b3] ∧ k = killL [] k2) (o_ldhn (l := c) rfl rfl (by rw [killL_nil]; exact e3) (fun h => by omega) (sliceL_all hlc) (o_nil ⟨rfl, rfl, rfl, rfl⟩)) ?_
    rintro _ _ _ ⟨rfl, rfl, rfl⟩ _
    rw [joinS_kill]
    refine x_A (R := fun E' bx' k => ∃ w, E' = (20, w) :: _ ∧ bx' = [b3] ∧ OSl k2 1 w (ubs (encode m)) (encode m).length k) (o_hcall rfl rfl rfl rfl (p16 (by rw [killL_nil]; exact hR) hW (by unfold size at hsz; omega)) fun w k q => by
      rw [killL_nil] at q
      rcases q with ⟨_, O⟩ | ⟨hb, _⟩
      · exact o_nil ⟨rfl, w, rfl, rfl, O⟩
      · omega) ?_
    rintro _ _ k3 ⟨w, rfl, rfl, O⟩ _
    have ej : joinS [] k2 k3 = k3 := by funext id; rfl
    rw [ej]
    refine x_A (R := fun E' bx' k => E' = (21, .str (encode m)) :: _ ∧ bx' = [b3] ∧ k = killL [] k3) (o_b2sV rfl rfl (by rw [killL_nil]; exact O.view) (fun h => by omega) (o_nil ⟨rfl, rfl, rfl, rfl⟩)) ?_
    rintro _ _ _ ⟨rfl, rfl, rfl⟩ _
    rw [joinS_kill]
    apply x_v rfl rfl trivial
    have hb2s : ∀ (E : Env), lk E 22 = some v → sv (lk E) (.b2s (.r 22)) = some (True, .str bs) := fun E hE => by
      have hE : ev (lk E) (.r 22) = some v := hE
      rcases tree_sl hv with ⟨rfl, h0, _⟩ | ⟨rfl, hln⟩
      · have : bs = [] := by simpa [ubs] using h0
        subst this
        simp only [sv, hE]
      · simp only [sv, hE]
        rw [sliceL_all (by omega)]
        simp only [bytesOf_ubs]
    apply x_vC rfl rfl (hb2s _ rfl) trivial
    refine x_A (R := fun E' bx' k => E' = (24, .bool true) :: _ ∧ bx' = [b3] ∧ k = killL [] k3) (o_as (w := .bool true) rfl rfl trivial (by simp [henc]) (o_nil ⟨rfl, rfl, rfl, rfl⟩)) ?_
    rintro _ _ _ ⟨rfl, rfl, rfl⟩ _
    rw [joinS_kill]
    apply x_v rfl rfl trivial
    apply x_nil
    (repeat (with_reducible first | apply s_ret | apply ssq_norm))
    (first | apply lret_ret | apply lret_norm)
    · exact rfl
    · exact rfl
    · exact rfl
    · exact hhx.trans O.ext
    · exact hbx
  · (repeat (first | ((with_reducible apply o_valM); exact rfl; exact rfl; exact rfl; exact trivial) | (with_reducible first | apply s_seq | apply s_reg0 | apply o_nil | apply ssq_norm)))
    (with_reducible apply o_bool)
    exact rfl
    exact rfl
    exact trivial
    intro b hb
    obtain rfl : b = true := by rw [hb]; rfl
    (repeat (first | ((with_reducible apply o_valM); exact rfl; exact rfl; exact rfl; exact trivial) | (with_reducible first | apply s_seq | apply s_reg0 | apply o_nil | apply ssq_norm) | ((with_reducible apply s_condT); exact rfl)))
    (with_reducible apply o_bool)
    exact rfl
    exact rfl
    exact trivial
    intro b hb
    obtain rfl : b = true := by rw [hb]; rfl
    (repeat (first | ((with_reducible apply o_valM); exact rfl; exact rfl; exact rfl; exact trivial) | ((with_reducible apply o_guardT); exact rfl; exact rfl)))
    apply o_ldhn (l := c) rfl rfl e3 (fun h => by omega) (sliceL_all hlc)
    (repeat (first | ((with_reducible apply o_valW); exact rfl; exact rfl; exact rfl; exact trivial) | ((with_reducible apply o_guardT); exact rfl; exact rfl)))
    apply o_hcall rfl rfl rfl rfl (p18 hR noImage_R noImage_WF noImage_WF).go
    rintro _ k3 ⟨rfl, hx3⟩
    rw [decide_eq_true (rfl : noImage = noImage)]
    (repeat (first | ((with_reducible apply o_valW); exact rfl; exact rfl; exact rfl; exact trivial) | (with_reducible first | apply s_ret | apply o_nil | apply ssq_norm | apply ssq_ret)))
    (first | apply lret_ret | apply lret_norm)
    · exact rfl
    · exact rfl
    · exact rfl
    · exact hhx.trans hx3
    · exact hbx
end Go.Proofs
end
section
open Go Go.Abs Go.Proofs.SlimCode Go.Img
set_option maxRecDepth 100000
namespace Go.Proofs
theorem dec_cut {m : Image} (hw : m.WF) (hs : Image.Small m) {k : Nat} (hk : k < (encode m).length) : Img.decode ((encode m).take k) = none := not_front (by have := small_len hw hs; unfold size; omega) hk
theorem dec_more {m : Image} (hw : m.WF) (hs : Image.Small m) (b : B) : (Img.decode (encode m ++ b)).isSome = decide (b = []) := by
  by_cases h : b = []
  · subst h
    rw [List.append_nil, dec_enc hw hs]
    rfl
  · rw [not_more (by have := small_len hw hs; unfold size; omega) h, decide_eq_false h]
    rfl
theorem HasSl.at {s n i : Nat} {cs : List AV} {hb : Heap} (hi : hb i = none) (hl : cs.length = n * s) : HasSl hb s (.sl i 0 n s) cs n (upd hb i (some (.cells cs))) := .sl i cs n hi hl
theorem p5 {h : Heap} {v0 : AV} {bs0 : B} {c : List AV} {m0 : Image} {cut : Int} (hv0 : ∀ h, VSl h 1 v0 (ubs bs0) bs0.length) (hl0 : bs0.length ≤ 9223372036854775807) (hc : ∀ h, RImg h c m0) (hw0 : m0.Wide) (hcut : I64 cut) : HCallC Tryz.prog ann 5 [v0, .agg c, I cut] h fun v h' => v = .bool true ∧ Ext h h' := by
  have hone := (hc h).one
  have hcl : c.length = 9 := by obtain ⟨_, _, _, _, _, _, _, rfl, _⟩ := hc h; rfl
  refine (show Looks _ _ _ _ _ _ from ?_).go
  refine s_look_of rfl Tryz.func5 (frc (by with_unfolding_all rfl)) rfl ?_
  (repeat ((with_reducible first | apply s_seq | apply s_reg0)))
  apply o_val rfl rfl hone
  (repeat (first | ((with_reducible apply o_valM); exact rfl; exact rfl; exact rfl; exact trivial) | (with_reducible first | apply s_seq | apply s_reg0 | apply o_nil | apply ssq_norm)))
  ((with_reducible apply o_call); exact rfl; exact rfl; exact rfl; exact p14)
  (repeat (first | ((with_reducible apply o_valW); exact rfl; exact rfl; exact rfl; exact trivial) | (with_reducible first | apply s_seq | apply s_reg0 | apply s_skip | apply o_nil | apply ssq_norm) | ((with_reducible apply s_condF); exact rfl)))
  apply o_hcall rfl rfl rfl rfl (p21 hv0 hl0)
  rintro vb k1 ⟨hx1, hvb⟩
  have hbl : (bs0.take 60).length ≤ 60 := by rw [List.length_take]; omega
  generalize bs0.take 60 = bs at hvb hbl
  (repeat (first | ((with_reducible apply o_valW); exact rfl; exact rfl; exact rfl; exact trivial) | (with_reducible first | apply s_seq | apply s_reg0 | apply o_nil | apply ssq_norm)))
  apply o_val rfl (show sv _ (.ld _ (some 9)) = some (True, .agg c) by show (match sliceL c 0 9 with | some l => some (True, AV.agg l) | none => none) = _; rw [sliceL_all hcl]) trivial
  apply o_hcall rfl rfl rfl rfl (p15 (hc _) hw0)
  rintro _ k2 ⟨hx2, c', m, rfl, hcm, hw, hs⟩
  have hlb := small_len hw hs
  apply o_hcall rfl rfl rfl rfl (p16 hcm hw (by omega))
  intro vp k3 hq
  have hsz : size m ≤ 1048576 := by unfold size; omega
  rcases hq with ⟨_, O⟩ | ⟨hq, _⟩
  rotate_left
  · omega
  have hx3 := (hx1.trans hx2).trans O.ext
  have hv := O.view
  clear O hcm
  have hn : (encode m).length = size m := encode_len m
  have hpos : 0 < (encode m).length := by rw [hn]; unfold size; omega
  obtain ⟨L, hL⟩ : ∃ L, L = (encode m).length := ⟨_, rfl⟩
  (repeat (first | ((with_reducible apply o_valM); exact rfl; exact rfl; exact rfl; exact trivial) | (with_reducible first | apply s_seq | apply s_reg0 | apply o_nil | apply ssq_norm)))
  (with_reducible apply o_bool)
  exact rfl
  exact rfl
  exact trivial
  intro b hb
  by_cases hc0 : cut < 0
  · obtain rfl : b = true := by rw [hb]; exact decide_eq_true hc0
    (repeat (first | ((with_reducible apply o_valW); exact rfl; exact rfl; exact rfl; exact trivial) | (with_reducible first | apply s_seq | apply s_reg0 | apply o_nil | apply ssq_norm) | ((with_reducible apply s_condT); exact rfl) | ((with_reducible apply o_guardF); exact rfl; exact rfl)))
    apply o_lenV rfl rfl hv
    skip
    (with_reducible apply o_bool)
    exact rfl
    exact rfl
    exact trivial
    intro b hb
    obtain rfl : b = true := by rw [hb]; exact decide_eq_true (by omega)
    (repeat (first | ((with_reducible apply o_valW); exact rfl; exact rfl; exact rfl; exact trivial) | (with_reducible first | apply s_ret | apply o_nil | apply ssq_norm | apply ssq_ret)))
    (first | apply lret_ret | apply lret_norm)
    · exact rfl
    · exact rfl
    · exact rfl
    · exact hx3
    · simp
  obtain rfl : b = false := by rw [hb]; exact decide_eq_false hc0
  (repeat (first | ((with_reducible apply o_valM); exact rfl; exact rfl; exact rfl; exact trivial) | ((with_reducible apply o_guardT); exact rfl; exact rfl)))
  apply o_lenV rfl rfl hv
  (repeat ((with_reducible apply o_guardT); exact rfl; exact rfl))
  (with_reducible apply o_bool)
  exact rfl
  exact rfl
  exact trivial
  intro b hb
  obtain rfl : b = false := by rw [hb]; exact decide_eq_false (by omega)
  (repeat (first | ((with_reducible apply o_valM); exact rfl; exact rfl; exact rfl; exact trivial) | (with_reducible first | apply s_seq | apply s_reg0 | apply s_skip | apply o_nil | apply ssq_norm) | ((with_reducible apply s_condF); exact rfl)))
  apply o_hcall rfl rfl rfl rfl (p22 hvb (by omega)).go
  rintro _ k4 ⟨rfl, hx4⟩
  (repeat (first | ((with_reducible apply o_valM); exact rfl; exact rfl; exact rfl; exact trivial) | ((with_reducible apply o_guardT); exact rfl; exact rfl)))
  apply o_hbs (cs := ubs Img.head) rfl rfl rfl
  intro i hi
  have ei : upd k4 i (some (.cells (ubs Img.head))) i = some (.cells (ubs Img.head)) := upd_same
  (repeat ((with_reducible apply o_guardT); exact rfl; exact rfl))
  apply o_cvs (l := ubs Img.head) rfl rfl (by decide) ei (fun h => by omega) rfl
  (repeat (first | ((with_reducible apply o_valM); exact rfl; exact rfl; exact rfl; exact trivial) | ((with_reducible apply o_guardT); exact rfl; exact rfl)))
  apply o_appT (n := bs.length) rfl rfl rfl (HasSl.at hi (n := 4) rfl) (srcOf_V (hvb _)) (by simp [ubs]) (by simp [ubs, AV.one]) (by omega) (.inl rfl) (fun h => by omega)
  intro v33 hv33
  have ehd : ubs Img.head ++ ubs bs = ubs (Img.head ++ bs) := (ubs_append _ _).symm
  have e33 : 4 + bs.length = (Img.head ++ bs).length := by rw [List.length_append]; rfl
  rw [ehd, e33] at hv33
  (repeat ((with_reducible apply o_guardT); exact rfl; exact rfl))
  apply o_hcall rfl rfl rfl rfl (p22 (h := k4) (fun _ => .of_T hv33) (by rw [← e33]; omega)).go
  rintro _ k5 ⟨rfl, hx5⟩
  have hv5 := (hv.mono hx4).mono hx5
  have hh5 := (hx3.trans hx4).trans hx5
  clear hv33 ei hi hv hx4 hx5
  obtain ⟨n, rfl⟩ : ∃ n : Nat, cut = n := ⟨cut.toNat, by omega⟩
  unfold I64 at hcut
  (repeat (first | ((with_reducible apply o_valM); exact rfl; exact rfl; exact rfl; exact trivial) | ((with_reducible apply o_guardT); exact rfl; exact rfl)))
  apply o_lenV rfl rfl hv5
  (repeat ((with_reducible apply o_guardT); exact rfl; exact rfl))
  apply o_remN (a := n) (b := (encode m).length) rfl rfl rfl (by omega)
  have hk := Nat.mod_lt n hpos
  (repeat ((with_reducible apply o_guardT); exact rfl; exact rfl))
  apply o_sltV (l := 0) (m := ((n % (encode m).length : Nat) : Int)) rfl rfl hv5 rfl rfl (by omega) (by omega) (by omega)
  intro w hwv
  have ew : ((ubs (encode m)).take (((n % (encode m).length : Nat) : Int).toNat * 1)).drop ((0 : Int).toNat * 1) = ubs ((encode m).take (n % (encode m).length)) := by
    simp only [Int.toNat_natCast, Nat.mul_one]
    unfold ubs
    rw [List.map_take]
    rfl
  have el : ((n % (encode m).length : Nat) : Int).toNat - (0 : Int).toNat = ((encode m).take (n % (encode m).length)).length := by
    rw [Int.toNat_natCast, List.length_take]
    show n % (encode m).length - 0 = _
    omega
  rw [ew, el] at hwv
  (repeat ((with_reducible apply o_guardT); exact rfl; exact rfl))
  apply o_hcall rfl rfl rfl rfl (p23 hwv (by rw [List.length_take]; omega)).go
  rintro _ k6 ⟨rfl, hx6⟩
  rw [dec_cut hw hs hk]
  have hv6 := hv5.mono hx6
  have hh6 := hh5.trans hx6
  clear hwv hv5 hh5
  (repeat ((with_reducible apply o_guardT); exact rfl; exact rfl))
  apply o_val rfl rfl trivial
  (repeat (first | ((with_reducible apply o_valM); exact rfl; exact rfl; exact rfl; exact trivial) | ((with_reducible apply o_guardT); exact rfl; exact rfl)))
  apply o_appO (hb := k6) (old := []) (l := 0) (new := ubs (encode m)) (n := (encode m).length) rfl rfl rfl rfl (OSl.nil .refl) (srcOf_V hv6) (by simp [ubs]) (by simp [ubs, AV.one]) (by omega)
  intro v48 k7 O _
  rw [List.nil_append, Nat.zero_add] at O
  obtain ⟨H7, hx7⟩ := O.has
  (repeat (first | ((with_reducible apply o_valM); exact rfl; exact rfl; exact rfl; exact trivial) | ((with_reducible apply o_guardT); exact rfl; exact rfl)))
  apply o_appT (n := bs.length) rfl rfl rfl H7 (srcOf_V (hvb _)) (by simp [ubs]) (by simp [ubs, AV.one]) (by omega) (.inl rfl) (fun h => by omega)
  intro v50 hv50
  generalize minus k7 v48 = k8 at hx7 ⊢
  have e50 : (encode m).length + bs.length = (encode m ++ bs).length := List.length_append.symm
  rw [(ubs_append _ _).symm, e50] at hv50
  (repeat ((with_reducible apply o_guardT); exact rfl; exact rfl))
  apply o_hcall rfl rfl rfl rfl (p23 (h := k8) (.of_T hv50) (by rw [← e50]; omega)).go
  rintro _ k9 ⟨rfl, hx9⟩
  rw [dec_more hw hs]
  (repeat (first | ((with_reducible apply o_valM); exact rfl; exact rfl; exact rfl; exact trivial) | ((with_reducible apply o_guardT); exact rfl; exact rfl)))
  apply o_lenV rfl rfl (hvb k9)
  (repeat ((with_reducible apply o_guardT); exact rfl; exact rfl))
  (with_reducible apply o_bool)
  exact rfl
  exact rfl
  exact trivial
  intro b hb
  have e54 : b = decide (bs = []) := by
    rw [hb]
    by_cases e : bs = []
    · subst e
      rfl
    · have := List.length_pos_iff.mpr e
      rw [decide_eq_false e]
      exact decide_eq_false (by omega)
  subst e54
  (repeat ((with_reducible apply o_guardT); exact rfl; exact rfl))
  (with_reducible apply o_bool)
  exact rfl
  exact rfl
  exact trivial
  intro b hb
  obtain rfl : b = true := by rw [hb]; simp
  (repeat (first | ((with_reducible apply o_valW); exact rfl; exact rfl; exact rfl; exact trivial) | (with_reducible first | apply s_ret | apply o_nil | apply ssq_norm)))
  (first | apply lret_ret | apply lret_norm)
  · exact rfl
  · exact rfl
  · exact rfl
  · exact (hh6.trans hx7).trans hx9
  · simp
end Go.Proofs
end
section
open Go Go.Abs Go.Img
namespace Go.Proofs
set_option maxRecDepth 100000
def fsOf (P : Program) (t : TypeId) : Array Field := match P.underlying t with | some (.struct fs) => fs | _ => #[]
theorem tyc_st {P : Program} {k n : Nat} {t : TypeId} {cs : List AV} {l : List (TypeId × Nat × Nat)} (ht : P.underlying t = some (.struct (fsOf P t))) (hl : (fsOf P t).toList.map (fun f => (f.type, f.offset, P.cellsOf f.type)) = l) (hn : P.cellsOf t = n) (h : TyC P (k + 1) t cs) : cs.length = n ∧ ∀ p ∈ l, TyC P k p.1 ((cs.drop p.2.1).take p.2.2) := by
  obtain ⟨h1, h2⟩ := tyc_struct ht h
  refine ⟨h1.trans hn, fun p hp => ?_⟩
  subst hl
  obtain ⟨f, hf, rfl⟩ := List.mem_map.1 hp
  exact h2 f hf
theorem wf_i64 {n : Int} (h : (Lit.int .i64 n).wf = true) : I64 n := by
  simp [Lit.wf, IntKind.min, IntKind.max, IntKind.bits, IntKind.signed] at h
  unfold I64
  omega
theorem wf_i32 {n : Int} (h : (Lit.int .i32 n).wf = true) : I32 n := by
  simp [Lit.wf, IntKind.min, IntKind.max, IntKind.bits, IntKind.signed] at h
  unfold I32
  omega
theorem im_int {k : Nat} {l : List AV} (h : TyC Tryz.prog (k + 1) 3 l) : ∃ n, (∀ h : Heap, RN .i64 h l n) ∧ I64 n := by
  obtain ⟨n, rfl, hw⟩ := tyc_int (i := .i64) (by kernel_rfl) h
  exact ⟨n, fun _ => rfl, wf_i64 hw⟩
theorem im_i32 {k : Nat} {l : List AV} (h : TyC Tryz.prog (k + 1) 21 l) : ∃ n, (∀ h : Heap, RN .i32 h l n) ∧ I32 n := by
  obtain ⟨n, rfl, hw⟩ := tyc_int (i := .i32) (by kernel_rfl) h
  exact ⟨n, fun _ => rfl, wf_i32 hw⟩
theorem im_bool {k : Nat} {l : List AV} (h : TyC Tryz.prog (k + 1) 4 l) : ∃ b, (∀ h : Heap, RB h l b) ∧ True := by
  obtain ⟨b, rfl⟩ := tyc_bool (by kernel_rfl) h
  exact ⟨b, fun _ => rfl, trivial⟩
theorem im_pair {k : Nat} {l : List AV} (hl : l.length = 2) (h : TyC Tryz.prog (k + 2) 54 l) : ∃ p, (∀ h : Heap, RPair h l p) ∧ (I64 p.1 ∧ I64 p.2) := by
  obtain ⟨_, h2⟩ := tyc_array (n := 2) (e := 3) (by kernel_rfl) h
  have e3 : Tryz.prog.cellsOf 3 = 1 := by kernel_rfl
  match l, hl with
  | [a, b], _ =>
    have f0 := h2 0 (by decide)
    have f1 := h2 1 (by decide)
    simp only [e3] at f0 f1
    obtain ⟨x, hx, wx⟩ := im_int f0
    obtain ⟨y, hy, wy⟩ := im_int f1
    have ex : a = I x := List.cons.inj (hx fun _ => none) |>.1
    have ey : b = I y := List.cons.inj (hy fun _ => none) |>.1
    subst ex ey
    exact ⟨(x, y), fun _ => rfl, wx, wy⟩
theorem four_of {k : Nat} {l : List AV} (hl : l.length = 4) (h : ∀ p ∈ [((3 : TypeId), 0, 1), (3, 1, 1), (3, 2, 1), (3, 3, 1)], TyC Tryz.prog (k + 1) p.1 ((l.drop p.2.1).take p.2.2)) : ∃ p, (∀ h : Heap, RFour h l p) ∧ F64 p := by
  match l, hl with
  | [a, b, c, d], _ =>
    obtain ⟨x, hx, wx⟩ := im_int (h _ (.head _))
    obtain ⟨y, hy, wy⟩ := im_int (h _ (.tail _ (.head _)))
    obtain ⟨z, hz, wz⟩ := im_int (h _ (.tail _ (.tail _ (.head _))))
    obtain ⟨u, hu, wu⟩ := im_int (h _ (.tail _ (.tail _ (.tail _ (.head _)))))
    have ex : a = I x := List.cons.inj (hx fun _ => none) |>.1
    have ey : b = I y := List.cons.inj (hy fun _ => none) |>.1
    have ez : c = I z := List.cons.inj (hz fun _ => none) |>.1
    have eu : d = I u := List.cons.inj (hu fun _ => none) |>.1
    subst ex ey ez eu
    exact ⟨(x, y, z, u), fun _ => rfl, wx, wy, wz, wu⟩
theorem im_ins {k : Nat} {l : List AV} (h : TyC Tryz.prog (k + 2) 56 l) : ∃ p, (∀ h : Heap, RFour h l p) ∧ F64 p := by
  obtain ⟨h1, h2⟩ := tyc_st (n := 4) (l := [((3 : TypeId), 0, 1), (3, 1, 1), (3, 2, 1), (3, 3, 1)]) (by kernel_rfl) (by kernel_rfl) (by kernel_rfl) h
  exact four_of h1 h2
theorem im_trap {k : Nat} {l : List AV} (h : TyC Tryz.prog (k + 2) 60 l) : ∃ p, (∀ h : Heap, RFour h l p) ∧ F64 p := by
  obtain ⟨h1, h2⟩ := tyc_st (n := 4) (l := [((3 : TypeId), 0, 1), (3, 1, 1), (3, 2, 1), (3, 3, 1)]) (by kernel_rfl) (by kernel_rfl) (by kernel_rfl) h
  exact four_of h1 h2
theorem im_ints {k : Nat} {l : List AV} (h : TyC Tryz.prog (k + 2) 24 l) : ∃ v x, l = [v] ∧ (∀ h, Sl (RN .i64) 1 h v x) ∧ Len x ∧ ∀ a ∈ x, I64 a := by
  obtain ⟨v, x, e, hx, hl, hw⟩ := tyc_list (e := 3) (s := 1) (by kernel_rfl) (by kernel_rfl) (fun l _ h => im_int h) h
  exact ⟨v, x, e, hx, hl, hw⟩
theorem im_i32s {k : Nat} {l : List AV} (h : TyC Tryz.prog (k + 2) 25 l) : ∃ v x, l = [v] ∧ (∀ h, Sl (RN .i32) 1 h v x) ∧ Len x ∧ ∀ a ∈ x, I32 a := by
  obtain ⟨v, x, e, hx, hl, hw⟩ := tyc_list (e := 21) (s := 1) (by kernel_rfl) (by kernel_rfl) (fun l _ h => im_i32 h) h
  exact ⟨v, x, e, hx, hl, hw⟩
theorem im_bools {k : Nat} {l : List AV} (h : TyC Tryz.prog (k + 2) 26 l) : ∃ v x, l = [v] ∧ (∀ h, Sl RB 1 h v x) ∧ Len x := by
  obtain ⟨v, x, e, hx, hl, _⟩ := tyc_list (e := 4) (s := 1) (W := fun _ => True) (by kernel_rfl) (by kernel_rfl) (fun l _ h => im_bool h) h
  exact ⟨v, x, e, hx, hl⟩
theorem im_cls {k : Nat} {l : List AV} (h : TyC Tryz.prog (k + 4) 48 l) : ∃ c, (∀ h : Heap, RCls h l c) ∧ c.Wide := by
  obtain ⟨h1, h2⟩ := tyc_st (k := k + 3) (n := 10) (l := [((9 : TypeId), 0, 1), (3, 1, 1), (3, 2, 1), (26, 3, 1), (24, 4, 1), (24, 5, 1), (46, 6, 1), (3, 7, 1), (3, 8, 1), (4, 9, 1)]) (by kernel_rfl) (by kernel_rfl) (by kernel_rfl) h
  match l, h1 with
  | [a0, a1, a2, a3, a4, a5, a6, a7, a8, a9], _ =>
    obtain ⟨s, q0, ws⟩ := tyc_str (by kernel_rfl) (h2 _ (.head _))
    obtain ⟨x1, q1, w1⟩ := im_int (h2 (3, 1, 1) (by simp))
    obtain ⟨x2, q2, w2⟩ := im_int (h2 (3, 2, 1) (by simp))
    obtain ⟨v3, x3, q3, r3, w3⟩ := im_bools (h2 (26, 3, 1) (by simp))
    obtain ⟨v4, x4, q4, r4, w4⟩ := im_ints (h2 (24, 4, 1) (by simp))
    obtain ⟨v5, x5, q5, r5, w5⟩ := im_ints (h2 (24, 5, 1) (by simp))
    obtain ⟨v6, x6, q6, r6, w6⟩ := tyc_list (k := k + 2) (e := 54) (s := 2) (R := RPair) (W := fun p => I64 p.1 ∧ I64 p.2) (by kernel_rfl) (by kernel_rfl) (fun l hl h => im_pair hl h) (h2 (46, 6, 1) (by simp))
    obtain ⟨x7, q7, w7⟩ := im_int (h2 (3, 7, 1) (by simp))
    obtain ⟨x8, q8, w8⟩ := im_int (h2 (3, 8, 1) (by simp))
    obtain ⟨x9, q9, _⟩ := im_bool (h2 (4, 9, 1) (by simp))
    have e0 : a0 = .str s := List.cons.inj q0 |>.1
    have e1 : a1 = I x1 := List.cons.inj (q1 fun _ => none) |>.1
    have e2 : a2 = I x2 := List.cons.inj (q2 fun _ => none) |>.1
    have e3 : a3 = v3 := List.cons.inj q3 |>.1
    have e4 : a4 = v4 := List.cons.inj q4 |>.1
    have e5 : a5 = v5 := List.cons.inj q5 |>.1
    have e6 : a6 = v6 := List.cons.inj q6 |>.1
    have e7 : a7 = I x7 := List.cons.inj (q7 fun _ => none) |>.1
    have e8 : a8 = I x8 := List.cons.inj (q8 fun _ => none) |>.1
    have e9 : a9 = .bool x9 := List.cons.inj (q9 fun _ => none) |>.1
    subst e0 e1 e2 e3 e4 e5 e6 e7 e8 e9
    exact ⟨⟨s, x1, x2, x7, x8, x9, x3, x4, x5, x6⟩, fun h => ⟨_, _, _, _, rfl, r3 h, r4 h, r5 h, r6 h⟩, ⟨ws, w1, w2, w7, w8, w3, w4, w5, w6⟩⟩
theorem im_mth {k : Nat} {l : List AV} (h : TyC Tryz.prog (k + 4) 53 l) : ∃ c, (∀ h : Heap, RMth h l c) ∧ c.WF := by
  obtain ⟨h1, h2⟩ := tyc_st (k := k + 3) (n := 6) (l := [((3 : TypeId), 0, 1), (3, 1, 1), (3, 2, 1), (4, 3, 1), (50, 4, 1), (51, 5, 1)]) (by kernel_rfl) (by kernel_rfl) (by kernel_rfl) h
  match l, h1 with
  | [a0, a1, a2, a3, a4, a5], _ =>
    obtain ⟨x0, q0, w0⟩ := im_int (h2 (3, 0, 1) (by simp))
    obtain ⟨x1, q1, w1⟩ := im_int (h2 (3, 1, 1) (by simp))
    obtain ⟨x2, q2, w2⟩ := im_int (h2 (3, 2, 1) (by simp))
    obtain ⟨x3, q3, _⟩ := im_bool (h2 (4, 3, 1) (by simp))
    obtain ⟨v4, x4, q4, r4, w4⟩ := tyc_list (k := k + 2) (e := 56) (s := 4) (R := RFour) (W := F64) (by kernel_rfl) (by kernel_rfl) (fun l _ h => im_ins h) (h2 (50, 4, 1) (by simp))
    obtain ⟨v5, x5, q5, r5, w5⟩ := tyc_list (k := k + 2) (e := 60) (s := 4) (R := RFour) (W := F64) (by kernel_rfl) (by kernel_rfl) (fun l _ h => im_trap h) (h2 (51, 5, 1) (by simp))
    have e0 : a0 = I x0 := List.cons.inj (q0 fun _ => none) |>.1
    have e1 : a1 = I x1 := List.cons.inj (q1 fun _ => none) |>.1
    have e2 : a2 = I x2 := List.cons.inj (q2 fun _ => none) |>.1
    have e3 : a3 = .bool x3 := List.cons.inj (q3 fun _ => none) |>.1
    have e4 : a4 = v4 := List.cons.inj q4 |>.1
    have e5 : a5 = v5 := List.cons.inj q5 |>.1
    subst e0 e1 e2 e3 e4 e5
    exact ⟨⟨x0, x1, x2, x3, x4, x5⟩, fun h => ⟨_, _, rfl, r4 h, r5 h⟩, ⟨w0, w1, w2, w4, w5⟩⟩
theorem ty_image {v : AV} (h : TyV Tryz.prog 6 28 v) : ∃ c m, v = .agg c ∧ (∀ h, RImg h c m) ∧ m.Wide := by
  obtain ⟨l, rfl, hc⟩ := ty_struct (fs := fsOf Tryz.prog 28) (by kernel_rfl) h
  obtain ⟨h1, h2⟩ := tyc_st (k := 5) (n := 9) (l := [((22 : TypeId), 0, 1), (23, 1, 1), (3, 2, 1), (3, 3, 1), (24, 4, 1), (25, 5, 1), (24, 6, 1), (25, 7, 1), (26, 8, 1)]) (by kernel_rfl) (by kernel_rfl) (by kernel_rfl) hc
  match l, h1 with
  | [a0, a1, a2, a3, a4, a5, a6, a7, a8], _ =>
    obtain ⟨v0, x0, q0, r0, w0⟩ := tyc_list (k := 4) (e := 48) (s := 10) (R := RCls) (W := Cls.Wide) (by kernel_rfl) (by kernel_rfl) (fun l _ h => im_cls h) (h2 (22, 0, 1) (by simp))
    obtain ⟨v1, x1, q1, r1, w1⟩ := tyc_list (k := 4) (e := 53) (s := 6) (R := RMth) (W := Mth.WF) (by kernel_rfl) (by kernel_rfl) (fun l _ h => im_mth h) (h2 (23, 1, 1) (by simp))
    obtain ⟨x2, q2, w2⟩ := im_int (h2 (3, 2, 1) (by simp))
    obtain ⟨x3, q3, w3⟩ := im_int (h2 (3, 3, 1) (by simp))
    obtain ⟨v4, x4, q4, r4, w4⟩ := im_ints (h2 (24, 4, 1) (by simp))
    obtain ⟨v5, x5, q5, r5, w5⟩ := im_i32s (h2 (25, 5, 1) (by simp))
    obtain ⟨v6, x6, q6, r6, w6⟩ := im_ints (h2 (24, 6, 1) (by simp))
    obtain ⟨v7, x7, q7, r7, w7⟩ := im_i32s (h2 (25, 7, 1) (by simp))
    obtain ⟨v8, x8, q8, r8, w8⟩ := im_bools (h2 (26, 8, 1) (by simp))
    have e0 : a0 = v0 := List.cons.inj q0 |>.1
    have e1 : a1 = v1 := List.cons.inj q1 |>.1
    have e2 : a2 = I x2 := List.cons.inj (q2 fun _ => none) |>.1
    have e3 : a3 = I x3 := List.cons.inj (q3 fun _ => none) |>.1
    have e4 : a4 = v4 := List.cons.inj q4 |>.1
    have e5 : a5 = v5 := List.cons.inj q5 |>.1
    have e6 : a6 = v6 := List.cons.inj q6 |>.1
    have e7 : a7 = v7 := List.cons.inj q7 |>.1
    have e8 : a8 = v8 := List.cons.inj q8 |>.1
    subst e0 e1 e2 e3 e4 e5 e6 e7 e8
    exact ⟨_, ⟨x0, x1, x2, x3, x4, x5, x6, x7, x8⟩, rfl, fun h => ⟨_, _, _, _, _, _, _, rfl, r0 h, r1 h, r4 h, r5 h, r6 h, r7 h, r8 h⟩, ⟨w0, w1, w2, w3, w4, w5, w6, w7, w8⟩⟩
theorem tyv_c {P : Program} {k : Nat} {t e : TypeId} {a : AV} (ht : P.underlying t = some (.slice e)) (h : TyV P k t a) : TyC P k t [a] := by
  unfold TyV at h
  rw [ht] at h
  exact h
theorem im_u8 {k : Nat} {l : List AV} (h : TyC Tryz.prog (k + 1) 5 l) : ∃ a : UInt8, (∀ h : Heap, RU h l a) ∧ True := by
  obtain ⟨n, rfl, hw⟩ := tyc_int (i := .u8) (by kernel_rfl) h
  refine ⟨UInt8.ofNat n.toNat, fun _ => ?_, trivial⟩
  simp [Lit.wf, IntKind.min, IntKind.max, IntKind.bits, IntKind.signed] at hw
  show [AV.int .u8 n] = [AV.int .u8 ((UInt8.ofNat n.toNat).toNat : Int)]
  congr 2
  simp
  omega
theorem ty_bytes {v : AV} (h : TyV Tryz.prog 6 31 v) : ∃ bs : B, (∀ h, VSl h 1 v (ubs bs) bs.length) ∧ bs.length ≤ 9223372036854775807 := by
  obtain ⟨w, x, e, hx, hl, _⟩ := tyc_list (k := 5) (e := 5) (s := 1) (R := RU) (W := fun _ => True) (by kernel_rfl) (by kernel_rfl) (fun l _ h => im_u8 h) (tyv_c (e := 5) (by kernel_rfl) h)
  obtain rfl := (List.cons.inj e).1
  exact ⟨x, fun h => (hx h).ubs, hl⟩
theorem extok : ExtOK Tryz.prog SlimCode.ann := by
  intro f e h
  cases h
end Go.Proofs
end
section
open Go Go.Abs Go.Proofs.SlimCode Go.Img
namespace Go.Proofs
set_option maxRecDepth 100000
theorem run_of_h {A : Ann} {P : Program} {f : Nat} {vs : List AV} {Q : Heap → Prop} (h : HCallC P A f vs (fun _ => none) fun v h' => v = .bool true ∧ Q h') : ∃ n h' n' lg, callN P A n f vs (fun _ => none) 0 = some (.bool true, h', n', lg) := by
  obtain ⟨k, v, h', n', lg, e, rfl, _⟩ := h 0 (fun _ _ => rfl)
  exact ⟨k, h', n', lg, e⟩
theorem law_run (ps : List AV) (h : TyVs Tryz.prog 6 Tryz.f5.params.toList ps) : ∃ n h' n' lg, callN Tryz.prog ann n 5 ps (fun _ => none) 0 = some (.bool true, h', n', lg) := by
  obtain ⟨a, _, rfl, ha, b, _, rfl, hb, x, _, rfl, hx, rfl⟩ := h
  obtain ⟨bs, hv, hl⟩ := ty_bytes ha
  obtain ⟨d, n, rfl, hd, hw⟩ := ty_image hb
  obtain ⟨cut, rfl, hc⟩ := ty_int (i := .i64) (by kernel_rfl) hx
  exact run_of_h (p5 hv hl hd hw (wf_i64 hc))
end Go.Proofs
end
