import Derived.Test.YtmnnmgfjlokmkaaGreatImBegin
import Derived.Test.YtmnnmgfjlokmkaaGreatImCrc
import Derived.Test.YtmnnmgfjlokmkaaGreatImCut
import Derived.Test.YtmnnmgfjlokmkaaGreatAbsLaw
import Derived.Test.YtmnnmgfjlokmkaaGreatAbsTy
section
open Go Go.Abs Go.Proofs.SlimCode Go.Img
set_option maxRecDepth 100000
namespace Go.Proofs
theorem ext_joinS {S : List Nat} {h h1 : Heap} (h0 : ∀ id ∈ S, h1 id = none) : Ext h1 (joinS S h h1) := ext_joinR .refl h0
theorem join_at {S : List Nat} {h h1 : Heap} {i : Nat} (hi : i ∈ S) : joinS S h h1 i = h i := by
  unfold joinS
  rw [if_pos (by simpa using hi)]
theorem dec_enc {m : Image} (hw : m.WF) (hs : Image.Small m) : Img.decode (encode m) = some m := decode_encode hw (by have := small_len hw hs; unfold size; omega)
theorem enc_eq_iff {a b : Image} (ha : a.WF) (hb : b.WF) (sa : Image.Small a) (sb : Image.Small b) : decide (encode a = encode b) = decide (a = b) := by
  have h := encode_inj ha hb (by have := small_len ha sa; unfold size; omega) (by have := small_len hb sb; unfold size; omega)
  by_cases e : a = b
  · rw [decide_eq_true e, decide_eq_true (h.2 e)]
  · rw [decide_eq_false e, decide_eq_false (fun x => e (h.1 x))]
theorem dec_of {m : Image} {bs : B} {h h' : Heap} {v : AV} (H : DecQ bs h v h') (hd : Img.decode bs = some m) : Ext h h' ∧ ∃ c, v = .tup [.agg c, I 0] ∧ RImg h' c m := by
  obtain ⟨hx, c, e, m', rfl, hR, _, h2⟩ := H
  rcases h2 with ⟨rfl, h3⟩ | ⟨_, h3, _⟩
  · rw [hd] at h3
    cases h3
    exact ⟨hx, c, rfl, hR⟩
  · rw [hd] at h3
    cases h3
theorem p3 {h : Heap} {c1 c2 : List AV} {a0 b0 : Image} (hc1 : ∀ h, RImg h c1 a0) (hc2 : ∀ h, RImg h c2 b0) (hw1 : a0.Wide) (hw2 : b0.Wide) : HCallC Tryz.prog ann 3 [.agg c1, .agg c2] h fun v h' => v = .bool true ∧ Ext h h' := by
  have hone1 := (hc1 h).one
  have hone2 := (hc2 h).one
  have hl1 : c1.length = 9 := by obtain ⟨_, _, _, _, _, _, _, rfl, _⟩ := hc1 h; rfl
  have hl2 : c2.length = 9 := by obtain ⟨_, _, _, _, _, _, _, rfl, _⟩ := hc2 h; rfl
  refine (show Looks _ _ _ _ _ _ from ?_).go
  refine s_look_of rfl Tryz.func3 (frc (by with_unfolding_all rfl)) rfl ?_
  (repeat ((with_reducible first | apply s_seq | apply s_reg0)))
  apply o_hbox (v := .agg c1) rfl rfl hone1
  intro b2 hb2
  have ha : Ext h (upd h b2 (some (.cells c1))) := .upd hb2
  have e2 : upd h b2 (some (.cells c1)) b2 = some (.cells c1) := upd_same
  show SOps _ _ _ _ _ _ _ _ [b2] (upd h b2 (some (.cells c1))) _
  generalize upd h b2 (some (.cells c1)) = k0 at ha e2 ⊢
  apply o_hbox (v := .agg c2) rfl rfl hone2
  intro b3 hb3
  have hne : b2 ≠ b3 := fun hc => by rw [← hc, e2] at hb3; cases hb3
  have hh3 : h b3 = none := by
    cases e : h b3 with
    | none => rfl
    | some o => rw [ha _ _ e] at hb3; cases hb3
  replace ha : Ext h (upd k0 b3 (some (.cells c2))) := ha.trans (.upd hb3)
  replace e2 : upd k0 b3 (some (.cells c2)) b2 = _ := (upd_ne hne).trans e2
  have e3 : upd k0 b3 (some (.cells c2)) b3 = some (.cells c2) := upd_same
  show SOps _ _ _ _ _ _ _ _ [b3, b2] (upd k0 b3 (some (.cells c2))) _
  generalize upd k0 b3 (some (.cells c2)) = k1 at ha e2 e3 ⊢
  have hbx : ∀ i ∈ [b3, b2], h i = none := fun i hi => by
    simp only [List.mem_cons, List.not_mem_nil, or_false] at hi
    rcases hi with rfl | rfl
    · exact hh3
    · exact hb2
  (repeat (first | ((with_reducible apply o_valM); exact rfl; exact rfl; exact rfl; exact trivial) | (with_reducible first | apply s_seq | apply s_reg0 | apply o_nil | apply ssq_norm)))
  ((with_reducible apply o_call); exact rfl; exact rfl; exact rfl; exact p14)
  (repeat (first | ((with_reducible apply o_valM); exact rfl; exact rfl; exact rfl; exact trivial) | (with_reducible first | apply s_seq | apply s_reg0 | apply o_nil | apply ssq_norm)))
  apply o_val rfl rfl trivial
  ((with_reducible apply o_nil); (with_reducible apply ssq_norm))
  (with_reducible apply s_condF)
  exact rfl
  (with_reducible apply s_skip)
  (with_reducible apply ssq_norm)
  (with_reducible apply s_seq)
  have hS : ∀ id ∈ [b2, b3], k1 id ≠ none := fun id hid => by
    simp only [List.mem_cons, List.not_mem_nil, or_false] at hid
    rcases hid with rfl | rfl
    · rw [e2]; simp
    · rw [e3]; simp
  have hhS : ∀ id ∈ [b2, b3], h id = none := fun id hid => by
    simp only [List.mem_cons, List.not_mem_nil, or_false] at hid
    rcases hid with rfl | rfl
    · exact hb2
    · exact hh3
  apply s_regX [b2, b3] [.B, .A, .B, .A, .D, .D] hS rfl
  apply x_ldB (v := .agg c1) rfl rfl (.p b2 0 c1 c1 e2 (sliceL_all rfl)) (.head _) (.many rfl hl1)
  refine x_A (R := fun E' bx' k => ∃ c, E' = (15, .agg c) :: _ ∧ bx' = [b3, b2] ∧ Ext (killL [b2, b3] k1) k ∧ ∃ m, RImg k c m ∧ m.WF ∧ Image.Small m ∧ m = m)
    (o_hcall rfl rfl rfl rfl (p15 (hc1 _) hw1) fun v k q => by
      obtain ⟨hx, c, m, rfl, hR, hw, hs⟩ := q
      exact o_nil ⟨rfl, c, rfl, rfl, hx, m, hR, hw, hs, rfl⟩) ?_
  rintro _ _ kA ⟨cA, rfl, rfl, hxA, mA, hRA, hwA, hsA, _⟩ hnA
  have eA2 := (join_at (h := k1) (h1 := kA) (S := [b2, b3]) (i := b2) (.head _)).trans e2
  have eA3 := (join_at (h := k1) (h1 := kA) (S := [b2, b3]) (i := b3) (.tail _ (.head _))).trans e3
  have hjA := ext_joinS (S := [b2, b3]) (h := k1) hnA
  have hhA : Ext h kA := (ha.kill hhS).trans hxA
  generalize joinS [b2, b3] k1 kA = kB at eA2 eA3 hjA ⊢
  apply x_ldB (v := .agg c2) rfl rfl (.p b3 0 c2 c2 eA3 (sliceL_all rfl)) (.tail _ (.head _)) (.many rfl hl2)
  refine x_A (R := fun E' bx' k => ∃ c, E' = (17, .agg c) :: _ ∧ bx' = [b3, b2] ∧ Ext (killL [b2, b3] kB) k ∧ ∃ m, RImg k c m ∧ m.WF ∧ Image.Small m ∧ m = m)
    (o_hcall rfl rfl rfl rfl (p15 (hc2 _) hw2) fun v k q => by
      obtain ⟨hx, c, m, rfl, hR, hw, hs⟩ := q
      exact o_nil ⟨rfl, c, rfl, rfl, hx, m, hR, hw, hs, rfl⟩) ?_
  rintro _ _ G ⟨cB, rfl, rfl, hxB, mB, hRB, hwB, hsB, _⟩ hnG
  have eB2 := (join_at (h := kB) (h1 := G) (S := [b2, b3]) (i := b2) (.head _)).trans eA2
  have eB3 := (join_at (h := kB) (h1 := G) (S := [b2, b3]) (i := b3) (.tail _ (.head _))).trans eA3
  have hjB := ext_joinS (S := [b2, b3]) (h := kB) hnG
  have hAG : Ext kA G := (hjA.kill hnA).trans hxB
  have hhG : Ext h G := hhA.trans hAG
  replace hRA := mono_I hRA hAG
  generalize joinS [b2, b3] kB G = kC at eB2 eB3 hjB ⊢
  have hG2 : G b2 = none := hnG b2 (.head _)
  have hG3 : G b3 = none := hnG b3 (.tail _ (.head _))
  clear hAG hhA hjA hxA hxB eA2 eA3 hnA e2 e3 hS
  have hlA : cA.length = 9 := by obtain ⟨_, _, _, _, _, _, _, rfl, _⟩ := hRA; rfl
  have hlB : cB.length = 9 := by obtain ⟨_, _, _, _, _, _, _, rfl, _⟩ := hRB; rfl
  refine x_D (R := fun E' bx' k => E' = _ ∧ bx' = [b3, b2] ∧ k = upd kC b2 (some (.cells cA))) (o_st (v := .agg cA) (cs' := cA) rfl rfl rfl rfl hlA hRA.one eB2 (splice_all (hl1.trans hlA.symm)) (o_nil ⟨rfl, rfl, rfl, rfl⟩)) ?_
  rintro _ _ _ ⟨rfl, rfl, rfl⟩
  replace hjB := ext_set (b := b2) (X := some (.cells cA)) hjB hG2
  replace eB3 : upd kC b2 (some (.cells cA)) b3 = _ := (upd_ne (Ne.symm hne)).trans eB3
  have eC2 : upd kC b2 (some (.cells cA)) b2 = some (.cells cA) := upd_same
  generalize upd kC b2 (some (.cells cA)) = kD at hjB eB3 eC2 ⊢
  refine ⟨fun id hid => by
    simp only [List.mem_cons, List.not_mem_nil, or_false] at hid
    rcases hid with rfl | rfl
    · rw [eC2]; simp
    · rw [eB3]; simp, ?_⟩
  refine x_D (R := fun E' bx' k => E' = _ ∧ bx' = [b3, b2] ∧ k = upd kD b3 (some (.cells cB))) (o_st (v := .agg cB) (cs' := cB) rfl rfl rfl rfl hlB hRB.one eB3 (splice_all (hl2.trans hlB.symm)) (o_nil ⟨rfl, rfl, rfl, rfl⟩)) ?_
  rintro _ _ _ ⟨rfl, rfl, rfl⟩
  replace hjB := ext_set (b := b3) (X := some (.cells cB)) hjB hG3
  have e2 : upd kD b3 (some (.cells cB)) b2 = _ := (upd_ne hne).trans eC2
  have e3 : upd kD b3 (some (.cells cB)) b3 = some (.cells cB) := upd_same
  generalize upd kD b3 (some (.cells cB)) = kE at hjB e2 e3 ⊢
  have hS : ∀ id ∈ [b2, b3], kE id ≠ none := fun id hid => by
    simp only [List.mem_cons, List.not_mem_nil, or_false] at hid
    rcases hid with rfl | rfl
    · rw [e2]; simp
    · rw [e3]; simp
  refine ⟨hS, ?_⟩
  apply x_nil
  clear eB2 eB3 eC2
  have hlbA := small_len hwA hsA
  have hlbB := small_len hwB hsB
  (with_reducible apply ssq_norm)
  (with_reducible apply s_seq)
  apply s_regX [b2, b3] [.B, .A, .B, .A, .A, .A] hS rfl
  apply x_ldB (v := .agg cA) rfl rfl (.p b2 0 cA cA e2 (sliceL_all rfl)) (.head _) (.many rfl hlA)
  refine x_A (R := fun E' bx' k => ∃ v, E' = (19, v) :: _ ∧ bx' = [b3, b2] ∧ OSl (killL [b2, b3] kE) 1 v (ubs (encode mA)) (encode mA).length k)
    (o_hcall rfl rfl rfl rfl (p16 (mono_I hRA (hjB.kill hnG)) hwA (by omega)) fun v k q => by
      rcases q with ⟨_, O⟩ | ⟨hb, _⟩
      · exact o_nil ⟨rfl, v, rfl, rfl, O⟩
      · unfold size at hb; omega) ?_
  rintro _ _ kF ⟨vA, rfl, rfl, OA⟩ hnF
  have eF2 := (join_at (h := kE) (h1 := kF) (S := [b2, b3]) (i := b2) (.head _)).trans e2
  have eF3 := (join_at (h := kE) (h1 := kF) (S := [b2, b3]) (i := b3) (.tail _ (.head _))).trans e3
  have hjF := ext_joinS (S := [b2, b3]) (h := kE) hnF
  have hGF : Ext G kF := (hjB.kill hnG).trans OA.ext
  generalize joinS [b2, b3] kE kF = kH at eF2 eF3 hjF ⊢
  apply x_ldB (v := .agg cB) rfl rfl (.p b3 0 cB cB eF3 (sliceL_all rfl)) (.tail _ (.head _)) (.many rfl hlB)
  refine x_A (R := fun E' bx' k => ∃ v, E' = (21, v) :: _ ∧ bx' = [b3, b2] ∧ OSl (killL [b2, b3] kH) 1 v (ubs (encode mB)) (encode mB).length k)
    (o_hcall rfl rfl rfl rfl (p16 (mono_I hRB (hGF.trans (hjF.kill hnF))) hwB (by omega)) fun v k q => by
      rcases q with ⟨_, O⟩ | ⟨hb, _⟩
      · exact o_nil ⟨rfl, v, rfl, rfl, O⟩
      · unfold size at hb; omega) ?_
  rintro _ _ kI ⟨vB, rfl, rfl, OB⟩ hnI
  have e2' := (join_at (h := kH) (h1 := kI) (S := [b2, b3]) (i := b2) (.head _)).trans eF2
  have e3' := (join_at (h := kH) (h1 := kI) (S := [b2, b3]) (i := b3) (.tail _ (.head _))).trans eF3
  have hjI := ext_joinS (S := [b2, b3]) (h := kH) hnI
  have hFI : Ext kF kI := (hjF.kill hnF).trans OB.ext
  have hvA := (OA.view.mono hFI).mono hjI
  have hvB := OB.view.mono hjI
  have hGK := (hGF.trans hFI).trans hjI
  generalize joinS [b2, b3] kH kI = kk at e2' e3' hjI hvA hvB hGK ⊢
  apply x_v rfl rfl trivial
  apply x_v rfl rfl trivial
  apply x_nil
  replace hRA := mono_I hRA hGK
  replace hRB := mono_I hRB hGK
  have hhK := hhG.trans hGK
  clear hGF hFI hjF hjI hjB OA OB eF2 eF3 hnF hnI hGK hS e2 e3 hnG hhG hG2 hG3
  (repeat (first | ((with_reducible apply o_valM); exact rfl; exact rfl; exact rfl; exact trivial) | (with_reducible first | apply s_seq | apply s_reg0 | apply ssq_norm)))
  apply o_hcall rfl rfl rfl rfl (p17 hvA (by rw [encode_len]; unfold size; omega))
  intro vd kd hd
  obtain ⟨hx, cD, rfl, hRD⟩ := dec_of hd (dec_enc hwA hsA)
  clear hd
  replace e2' := hx _ _ e2'
  replace e3' := hx _ _ e3'
  replace hRA := mono_I hRA hx
  replace hRB := mono_I hRB hx
  replace hvA := hvA.mono hx
  replace hvB := hvB.mono hx
  replace hhK := hhK.trans hx
  clear hx
  (repeat ((with_reducible apply o_valW); exact rfl; exact rfl; exact rfl; exact trivial))
  apply o_alc rfl
  intro b8 hn
  have hlD : cD.length = 9 := by obtain ⟨_, _, _, _, _, _, _, rfl, _⟩ := hRD; rfl
  apply o_st (v := .agg cD) (cs := [.nil .sl, .nil .sl, I 0, I 0, .nil .sl, .nil .sl, .nil .sl, .nil .sl, .nil .sl]) (cs' := cD) rfl rfl rfl rfl hlD hRD.one upd_same (splice_all hlD.symm)
  rw [upd_upd]
  have hx : Ext kd (upd kd b8 (some (.cells cD))) := .upd hn
  have e8 : upd kd b8 (some (.cells cD)) b8 = some (.cells cD) := upd_same
  have hh8 : h b8 = none := by
    cases e : h b8 with
    | none => rfl
    | some o => rw [hhK _ _ e] at hn; cases hn
  generalize upd kd b8 (some (.cells cD)) = ke at hx e8 ⊢
  replace e2' := hx _ _ e2'
  replace e3' := hx _ _ e3'
  replace hRA := mono_I hRA hx
  replace hRB := mono_I hRB hx
  replace hRD := mono_I hRD hx
  replace hvA := hvA.mono hx
  replace hvB := hvB.mono hx
  replace hhK := hhK.trans hx
  clear hx
  (repeat (first | ((with_reducible apply o_valM); exact rfl; exact rfl; exact rfl; exact trivial) | (with_reducible first | apply s_seq | apply s_reg0 | apply o_nil | apply ssq_norm)))
  apply o_ldhn (l := cA) rfl rfl e2' (fun h => by omega) (sliceL_all hlA)
  skip
  apply o_ldhn (l := cB) rfl rfl e3' (fun h => by omega) (sliceL_all hlB)
  skip
  apply o_hcall rfl rfl rfl rfl (p18 hRA hRB hwA hwB).go
  rintro _ k18 ⟨rfl, hx⟩
  replace e2' := hx _ _ e2'
  replace e3' := hx _ _ e3'
  replace e8 := hx _ _ e8
  replace hRA := mono_I hRA hx
  replace hRB := mono_I hRB hx
  replace hRD := mono_I hRD hx
  replace hvA := hvA.mono hx
  replace hvB := hvB.mono hx
  replace hhK := hhK.trans hx
  clear hx
  (repeat (first | ((with_reducible apply o_valM); exact rfl; exact rfl; exact rfl; exact trivial) | (with_reducible first | apply s_seq | apply s_reg0 | apply o_nil | apply ssq_norm)))
  apply o_ldhn (l := cA) rfl rfl e2' (fun h => by omega) (sliceL_all hlA)
  skip
  apply o_ldhn (l := cB) rfl rfl e3' (fun h => by omega) (sliceL_all hlB)
  skip
  apply o_hcall rfl rfl rfl rfl (p19 hRA hRB hwA hwB).go
  rintro _ k19 ⟨rfl, hx⟩
  replace e2' := hx _ _ e2'
  replace e3' := hx _ _ e3'
  replace e8 := hx _ _ e8
  replace hRA := mono_I hRA hx
  replace hRB := mono_I hRB hx
  replace hRD := mono_I hRD hx
  replace hvA := hvA.mono hx
  replace hvB := hvB.mono hx
  replace hhK := hhK.trans hx
  clear hx
  (repeat ((with_reducible apply o_valM); exact rfl; exact rfl; exact rfl; exact trivial))
  (with_reducible apply o_bool)
  exact rfl
  exact rfl
  exact trivial
  intro b hb
  obtain rfl : b = true := by rw [hb]; simp
  (repeat (first | ((with_reducible apply o_valM); exact rfl; exact rfl; exact rfl; exact trivial) | ((with_reducible apply o_guardT); exact rfl; exact rfl)))
  apply o_ldhn (l := cA) rfl rfl e2' (fun h => by omega) (sliceL_all hlA)
  (repeat ((with_reducible apply o_guardT); exact rfl; exact rfl))
  apply o_ldhn (l := cA) rfl rfl e2' (fun h => by omega) (sliceL_all hlA)
  (repeat ((with_reducible apply o_guardT); exact rfl; exact rfl))
  apply o_hcall rfl rfl rfl rfl (p19 hRA hRA hwA hwA).go
  rintro _ k20 ⟨rfl, hx⟩
  replace e2' := hx _ _ e2'
  replace e3' := hx _ _ e3'
  replace e8 := hx _ _ e8
  replace hRA := mono_I hRA hx
  replace hRB := mono_I hRB hx
  replace hRD := mono_I hRD hx
  replace hvA := hvA.mono hx
  replace hvB := hvB.mono hx
  replace hhK := hhK.trans hx
  clear hx
  rw [decide_eq_true (rfl : mA = mA)]
  (repeat (first | ((with_reducible apply o_valM); exact rfl; exact rfl; exact rfl; exact trivial) | ((with_reducible apply o_guardT); exact rfl; exact rfl)))
  (with_reducible apply o_bool)
  exact rfl
  exact rfl
  exact trivial
  intro b hb
  obtain rfl : b = true := by rw [hb]; rfl
  (repeat (first | ((with_reducible apply o_valM); exact rfl; exact rfl; exact rfl; exact trivial) | ((with_reducible apply o_guardT); exact rfl; exact rfl)))
  apply o_ldhn (l := cD) rfl rfl e8 (fun h => by omega) (sliceL_all hlD)
  (repeat ((with_reducible apply o_guardT); exact rfl; exact rfl))
  apply o_ldhn (l := cA) rfl rfl e2' (fun h => by omega) (sliceL_all hlA)
  (repeat ((with_reducible apply o_guardT); exact rfl; exact rfl))
  apply o_hcall rfl rfl rfl rfl (p18 hRD hRA hwA hwA).go
  rintro _ k21 ⟨rfl, hx⟩
  replace e2' := hx _ _ e2'
  replace e3' := hx _ _ e3'
  replace e8 := hx _ _ e8
  replace hRA := mono_I hRA hx
  replace hRB := mono_I hRB hx
  replace hRD := mono_I hRD hx
  replace hvA := hvA.mono hx
  replace hvB := hvB.mono hx
  replace hhK := hhK.trans hx
  clear hx
  rw [decide_eq_true (rfl : mA = mA)]
  (repeat (first | ((with_reducible apply o_valM); exact rfl; exact rfl; exact rfl; exact trivial) | ((with_reducible apply o_guardT); exact rfl; exact rfl)))
  apply o_b2sV rfl rfl hvA (fun h => by omega)
  (repeat (first | ((with_reducible apply o_valM); exact rfl; exact rfl; exact rfl; exact trivial) | ((with_reducible apply o_guardT); exact rfl; exact rfl)))
  apply o_b2sV rfl rfl hvB (fun h => by omega)
  (repeat ((with_reducible apply o_guardT); exact rfl; exact rfl))
  apply o_as (w := .bool (decide (encode mA = encode mB))) rfl rfl trivial (by
    by_cases e : encode mA = encode mB
    · simp [e]
    · simp [e])
  rw [enc_eq_iff hwA hwB hsA hsB]
  (repeat (first | ((with_reducible apply o_valM); exact rfl; exact rfl; exact rfl; exact trivial) | ((with_reducible apply o_guardT); exact rfl; exact rfl)))
  (with_reducible apply o_bool)
  exact rfl
  exact rfl
  exact trivial
  intro b hb
  obtain rfl : b = true := by rw [hb]; simp
  (repeat (first | ((with_reducible apply o_valW); exact rfl; exact rfl; exact rfl; exact trivial) | (with_reducible first | apply s_ret | apply o_nil | apply ssq_norm)))
  (first | apply lret_ret | apply lret_norm)
  · exact rfl
  · exact rfl
  · exact rfl
  · exact hhK
  · intro i hi
    rcases List.mem_cons.1 hi with rfl | hi
    · exact hh8
    · exact hbx i hi
end Go.Proofs
end
section
open Go Go.Abs Go.Proofs.SlimCode Go.Img
set_option maxRecDepth 100000
namespace Go.Proofs
theorem p23 {h : Heap} {v : AV} {bs : B} (hv : VSl h 1 v (ubs bs) bs.length) (hl : bs.length ≤ 9223372036854775807) : Looks Tryz.prog ann 23 [v] h (.bool (Img.decode bs).isSome) := by
  refine s_look_of rfl Tryz.func23 (frc (by with_unfolding_all rfl)) rfl ?_
  (repeat (first | ((with_reducible apply o_valM); exact rfl; exact rfl; exact rfl; exact trivial) | (with_reducible first | apply s_seq | apply s_reg0 | apply o_nil | apply ssq_norm)))
  apply o_hcall rfl rfl rfl rfl (p17 hv hl)
  rintro _ k1 ⟨hx, c, e, m, rfl, hR, hW, hd⟩
  have hlc : c.length = 9 := by obtain ⟨_, _, _, _, _, _, _, rfl, _⟩ := hR; rfl
  (repeat ((with_reducible apply o_valW); exact rfl; exact rfl; exact rfl; exact trivial))
  apply o_alc rfl
  intro b3 hn
  have hh : h b3 = none := by
    cases e : h b3 with
    | none => rfl
    | some o => rw [hx _ _ e] at hn; cases hn
  apply o_st (v := .agg c) (cs := [.nil .sl, .nil .sl, I 0, I 0, .nil .sl, .nil .sl, .nil .sl, .nil .sl, .nil .sl]) (cs' := c) rfl rfl rfl rfl hlc hR.one upd_same (splice_all hlc.symm)
  rw [upd_upd]
  have hx2 : Ext h (upd k1 b3 (some (.cells c))) := hx.trans (.upd hn)
  generalize upd k1 b3 (some (.cells c)) = k2 at hx2 ⊢
  (repeat (first | ((with_reducible apply o_valM); exact rfl; exact rfl; exact rfl; exact trivial) | (with_reducible first | apply s_seq | apply s_reg0 | apply o_nil | apply ssq_norm)))
  (with_reducible apply o_bool)
  exact rfl
  exact rfl
  exact trivial
  intro b hb
  have e : b = (Img.decode bs).isSome := by
    rw [hb]
    rcases hd with ⟨rfl, h2⟩ | ⟨rfl, h2, _⟩
    · rw [h2]; rfl
    · rw [h2]; rfl
  subst e
  (repeat (first | ((with_reducible apply o_valW); exact rfl; exact rfl; exact rfl; exact trivial) | (with_reducible first | apply s_ret | apply o_nil | apply ssq_norm)))
  (first | apply lret_ret | apply lret_norm)
  · exact rfl
  · exact rfl
  · exact rfl
  · exact hx2
  · intro i hi
    rw [List.mem_singleton.1 hi]
    exact hh
end Go.Proofs
end
section
open Go Go.Abs Go.Proofs.SlimCode Go.Img
set_option maxRecDepth 100000
namespace Go.Proofs
theorem burst_dec {m : Image} {cur : B} {a e : Nat} (hw : m.WF) (hs : Image.Small m) (hl : cur.length = (encode m).length) (ha : a ≤ 8 * (encode m).length) (he : e < 2 ^ 32) (h : WN cur = WN (encode m) ^^^ (2 ^ a * e)) : (Img.decode cur).isSome = !decide (e ≠ 0) := by
  by_cases e0 : e = 0
  · subst e0
    rw [Nat.mul_zero, Nat.xor_zero] at h
    have : cur = encode m := WN_inj hl h
    rw [this, dec_enc hw hs]
    rfl
  · cases hd : Img.decode cur with
    | none => simp [e0]
    | some n =>
      obtain ⟨h1, _⟩ := decode_some hd
      exfalso
      refine e0 (burst (x := front m) (y := front n) (at' := a) ?_ he ha ?_)
      · show (encode m).length = (encode n).length
        rw [h1, hl]
      · show WN (encode n) = WN (encode m) ^^^ _
        rw [h1, h]
theorem bit_mod {w k : Nat} (_hk : k < 32) : w % 2 ^ (k + 1) = if w / 2 ^ k % 2 = 1 then w % 2 ^ k + 2 ^ k else w % 2 ^ k := by
  have h := Nat.mod_pow_succ (b := 2) (x := w) (k := k)
  rcases Nat.mod_two_eq_zero_or_one (w / 2 ^ k) with e | e
  · rw [h, e, if_neg (by omega)]
    simp
  · rw [h, e, if_pos rfl]
    simp
theorem xor_bit {x k : Nat} (hx : x < 2 ^ k) : x ^^^ 2 ^ k = x + 2 ^ k := by
  have h := Nat.shiftLeft_add_eq_or_of_lt hx 1
  rw [Nat.shiftLeft_eq, Nat.one_mul] at h
  rw [Nat.add_comm, h, Nat.xor_comm]
  apply Nat.eq_of_testBit_eq
  intro i
  rw [Nat.testBit_or, Nat.testBit_xor]
  by_cases e : i = k
  · subst e
    have : x.testBit i = false := Nat.testBit_lt_two_pow hx
    simp [this]
  · have : (2 ^ k).testBit i = false := by rw [Nat.testBit_two_pow]; simp; omega
    simp [this]
theorem mul_xor2 (a x y : Nat) : 2 ^ a * (x ^^^ y) = 2 ^ a * x ^^^ 2 ^ a * y := by
  have e : ∀ z : Nat, 2 ^ a * z = z <<< a := fun z => by rw [Nat.shiftLeft_eq, Nat.mul_comm]
  rw [e, e, e, Nat.shiftLeft_xor_distrib]
theorem turn_WN {cur : B} {W a k w : Nat} (h : WN cur = W ^^^ (2 ^ a * (w % 2 ^ k))) (hk : k < 32) (hb : w / 2 ^ k % 2 = 1) (hj : (a + k) / 8 < cur.length) :
    WN (cur.set ((a + k) / 8) (cur[(a + k) / 8] ^^^ UInt8.ofNat (2 ^ ((a + k) % 8)))) = W ^^^ (2 ^ a * (w % 2 ^ (k + 1))) := by
  have hr : (a + k) % 8 < 8 := Nat.mod_lt _ (by decide)
  have h8 : (UInt8.ofNat (2 ^ ((a + k) % 8))).toNat = 2 ^ ((a + k) % 8) := by
    have : 2 ^ ((a + k) % 8) < 2 ^ 8 := Nat.pow_lt_pow_right (by decide) hr
    simp
    omega
  rw [WN_set hj, h, h8, bit_mod hk, if_pos hb, ← xor_bit (Nat.mod_lt _ (Nat.pow_pos (by decide))), mul_xor2, Nat.xor_assoc]
  congr 2
  have : (256 : Nat) ^ ((a + k) / 8) = 2 ^ (8 * ((a + k) / 8)) := by rw [Nat.pow_mul]
  rw [this, ← Nat.pow_add, ← Nat.pow_add]
  congr 1
  omega
theorem shl8 {r : Nat} {z : Int} (hz : z = (r : Int)) (hr : r < 8) : AV.int .u8 (IntKind.wrap .u8 ((1 : Int) * 2 ^ (min z.toNat (IntKind.bits .u8)))) = ub (UInt8.ofNat (2 ^ r)) := by
  subst hz
  have key : ∀ r : Nat, r < 8 → IntKind.wrap .u8 ((1 : Int) * 2 ^ (min r 8)) = ((UInt8.ofNat (2 ^ r)).toNat : Int) := by decide
  show AV.int .u8 (IntKind.wrap .u8 ((1 : Int) * 2 ^ (min (r : Int).toNat 8))) = _
  rw [Int.toNat_natCast, key r hr]
theorem xor8 (a b : UInt8) : AV.int .u8 (IntKind.wrap .u8 ((BitVec.ofInt (IntKind.bits .u8) (a.toNat : Int) ^^^ BitVec.ofInt (IntKind.bits .u8) (b.toNat : Int)).toNat)) = ub (a ^^^ b) := by
  show AV.int .u8 (IntKind.wrap .u8 ((BitVec.ofInt 8 (a.toNat : Int) ^^^ BitVec.ofInt 8 (b.toNat : Int)).toNat)) = AV.int .u8 ((a ^^^ b).toNat : Int)
  have e : ∀ x : Nat, BitVec.ofInt 8 (x : Int) = BitVec.ofNat 8 x := fun x => BitVec.ofInt_natCast ..
  have ha := a.toNat_lt
  have hb := b.toNat_lt
  rw [e, e, BitVec.toNat_xor, BitVec.toNat_ofNat, BitVec.toNat_ofNat, Nat.mod_eq_of_lt ha, Nat.mod_eq_of_lt hb, UInt8.toNat_xor]
  have h : a.toNat ^^^ b.toNat < 2 ^ 8 := Nat.xor_lt_two_pow ha hb
  congr 1
  simp only [IntKind.wrap, IntKind.bits, IntKind.signed]
  simp
  omega
theorem p6 {h : Heap} {c : List AV} {m0 : Image} {at' : Int} {w : Nat} (hc : ∀ h, RImg h c m0) (hw0 : m0.Wide) (hat : I64 at') (hwb : w < 4294967296) : HCallC Tryz.prog ann 6 [.agg c, I at', .int .u32 (w : Int)] h fun v h' => v = .bool true ∧ Ext h h' := by
  have hone := (hc h).one
  have hcl : c.length = 9 := by obtain ⟨_, _, _, _, _, _, _, rfl, _⟩ := hc h; rfl
  refine (show Looks _ _ _ _ _ _ from ?_).go
  refine s_look_of rfl Tryz.func6 (frc (by with_unfolding_all rfl)) rfl ?_
  (repeat ((with_reducible first | apply s_seq | apply s_reg0)))
  apply o_val rfl rfl hone
  (repeat (first | ((with_reducible apply o_valM); exact rfl; exact rfl; exact rfl; exact trivial) | (with_reducible first | apply s_seq | apply s_reg0 | apply o_nil | apply ssq_norm)))
  ((with_reducible apply o_call); exact rfl; exact rfl; exact rfl; exact p14)
  (repeat (first | ((with_reducible apply o_valW); exact rfl; exact rfl; exact rfl; exact trivial) | (with_reducible first | apply s_seq | apply s_reg0 | apply s_skip | apply o_nil | apply ssq_norm) | ((with_reducible apply s_condF); exact rfl)))
  apply o_val rfl (show sv _ (.ld _ (some 9)) = some (True, .agg c) by show (match sliceL c 0 9 with | some l => some (True, AV.agg l) | none => none) = _; rw [sliceL_all hcl]) trivial
  apply o_hcall rfl rfl rfl rfl (p15 (hc _) hw0)
  rintro _ k2 ⟨hx2, c', m, rfl, hcm, hw, hs⟩
  have hlb := small_len hw hs
  apply o_hcall rfl rfl rfl rfl (p16 hcm hw (by omega))
  intro vp k3 hq
  have hsz : size m ≤ 1048576 := by unfold size; omega
  rcases hq with ⟨_, O⟩ | ⟨hq, _⟩
  rotate_left
  · omega
  have hn : (encode m).length = size m := encode_len m
  have hpos : 0 < (encode m).length := by rw [hn]; unfold size; omega
  obtain ⟨ib, rfl, hb0, hb3, _⟩ := own_pos O hpos
  have hhb : h ib = none := by
    cases e : h ib with
    | none => rfl
    | some o => rw [hx2 _ _ e] at hb0; cases hb0
  have hx3 := hx2.trans O.ext
  clear O hcm hx2 hb0
  generalize hL : (encode m).length = L at hn hpos hb3 ⊢
  have hv3 : VSl k3 1 (.sl ib 0 L 1) (ubs (encode m)) L := .sl ib 0 L _ _ hb3 (sliceL_all (by simp [ubs, hL]))
  unfold I64 at hat
  (repeat (first | ((with_reducible apply o_valM); exact rfl; exact rfl; exact rfl; exact trivial) | (with_reducible first | apply s_seq | apply s_reg0 | apply o_nil | apply ssq_norm)))
  (with_reducible apply o_bool)
  exact rfl
  exact rfl
  exact trivial
  intro b hb
  by_cases h0 : at' < 0
  · obtain rfl : b = true := by rw [hb]; exact decide_eq_true h0
    (repeat (first | ((with_reducible apply o_valM); exact rfl; exact rfl; exact rfl; exact trivial) | (with_reducible first | apply s_seq | apply s_reg0 | apply o_nil | apply ssq_norm) | ((with_reducible apply s_condT); exact rfl) | ((with_reducible apply o_guardF); exact rfl; exact rfl)))
    (with_reducible apply o_bool)
    exact rfl
    exact rfl
    exact trivial
    intro b hb
    obtain rfl : b = true := by rw [hb]; exact decide_eq_true (by omega)
    (repeat (first | ((with_reducible apply o_valW); exact rfl; exact rfl; exact rfl; exact trivial) | (with_reducible first | apply s_ret | apply o_nil | apply ssq_norm | apply ssq_ret)))
    exact lret_ret (vs := [.bool true]) rfl rfl rfl hx3 (by simp)
  obtain rfl : b = false := by rw [hb]; exact decide_eq_false h0
  (repeat (first | ((with_reducible apply o_valM); exact rfl; exact rfl; exact rfl; exact trivial) | ((with_reducible apply o_guardT); exact rfl; exact rfl)))
  (with_reducible apply o_bool)
  exact rfl
  exact rfl
  exact trivial
  intro b hb
  by_cases hw00 : w = 0
  · obtain rfl : b = true := by rw [hb]; exact decide_eq_true (by omega)
    (repeat (first | ((with_reducible apply o_valM); exact rfl; exact rfl; exact rfl; exact trivial) | (with_reducible first | apply s_seq | apply s_reg0 | apply o_nil | apply ssq_norm) | ((with_reducible apply s_condT); exact rfl) | ((with_reducible apply o_guardF); exact rfl; exact rfl)))
    (with_reducible apply o_bool)
    exact rfl
    exact rfl
    exact trivial
    intro b hb
    obtain rfl : b = true := by rw [hb]; exact decide_eq_true (by omega)
    (repeat (first | ((with_reducible apply o_valW); exact rfl; exact rfl; exact rfl; exact trivial) | (with_reducible first | apply s_ret | apply o_nil | apply ssq_norm | apply ssq_ret)))
    exact lret_ret (vs := [.bool true]) rfl rfl rfl hx3 (by simp)
  obtain rfl : b = false := by rw [hb]; exact decide_eq_false (by omega)
  (repeat (first | ((with_reducible apply o_valM); exact rfl; exact rfl; exact rfl; exact trivial) | ((with_reducible apply o_guardT); exact rfl; exact rfl)))
  (with_reducible apply o_bool)
  exact rfl
  exact rfl
  exact trivial
  intro b hb
  obtain rfl : b = false := by rw [hb]; exact decide_eq_false (by omega)
  obtain ⟨n, rfl⟩ : ∃ n : Nat, at' = n := ⟨at'.toNat, by omega⟩
  (repeat (first | ((with_reducible apply o_valM); exact rfl; exact rfl; exact rfl; exact trivial) | (with_reducible first | apply s_seq | apply s_reg0 | apply s_skip | apply o_nil | apply ssq_norm) | ((with_reducible apply s_condF); exact rfl)))
  ((with_reducible apply o_mulN (a := 8) (b := L)); exact rfl; exact rfl; exact rfl; exact w64 (by omega) (by omega))
  apply o_remN (a := n) (b := 8 * L) rfl rfl rfl (by omega)
  have ha := Nat.mod_lt n (show 0 < 8 * L by omega)
  generalize n % (8 * L) = a at ha ⊢
  (repeat (first | ((with_reducible apply o_valM); exact rfl; exact rfl; exact rfl; exact trivial) | (with_reducible first | apply s_seq | apply s_reg0 | apply s_block | apply o_nil | apply ssq_norm)))
  refine s_loop (fun k : Nat => [(1, .int .i64 (a : Int)), (2, .int .u32 (w : Int)), (8, .sl ib 0 L 1), (9, .bool (decide (w % 2 ^ k ≠ 0))), (10, .int .i64 (k : Int))]) (fun k h' => Ext h h' ∧ k ≤ 32 ∧ a + k ≤ 8 * L ∧ ∃ cur : B, h' ib = some (.cells (ubs cur)) ∧ cur.length = L ∧ WN cur = WN (encode m) ^^^ (2 ^ a * (w % 2 ^ k))) (fun k => 32 - k) 0
    (sub_cons rfl (sub_cons rfl (sub_cons rfl (sub_cons (by simp [Nat.mod_one]; rfl) (sub_cons rfl sub_nil))))) ⟨hx3, by omega, by omega, encode m, hb3, hL, by simp [Nat.mod_one]⟩ ?_
  rintro k h' ⟨hx, hk, hak, cur, hcur, hcl2, hWN⟩
  have hvc : VSl h' 1 (.sl ib 0 L 1) (ubs cur) L := .sl ib 0 L _ _ hcur (sliceL_all (by simp [ubs, hcl2]))
  have fin : (32 ≤ k ∨ 8 * L ≤ a + k) → (Img.decode cur).isSome = !decide (w % 2 ^ k ≠ 0) := fun _ => burst_dec hw hs (by rw [hcl2, hL]) (a := a) (by rw [hL]; omega) (Nat.lt_of_lt_of_le (Nat.mod_lt _ (Nat.pow_pos (by decide))) (Nat.pow_le_pow_right (by decide) hk)) hWN
  (repeat (first | ((with_reducible apply o_valM); exact rfl; exact rfl; exact rfl; exact trivial) | (with_reducible first | apply s_seq | apply s_reg0)))
  (with_reducible apply o_bool)
  exact rfl
  exact rfl
  exact trivial
  intro b hb
  by_cases hk32 : k < 32
  rotate_left
  · obtain rfl : b = false := by rw [hb]; exact decide_eq_false (by omega)
    (repeat (first | ((with_reducible apply o_valM); exact rfl; exact rfl; exact rfl; exact trivial) | (with_reducible first | apply s_seq | apply s_reg0 | apply s_exit | apply o_nil | apply ssq_norm | apply ssq_exit | apply sbq_hit | apply slq_exit) | ((with_reducible apply s_condF); exact rfl) | ((with_reducible apply o_guardF); exact rfl; exact rfl)))
    apply o_hcall rfl rfl rfl rfl (p23 (by rw [hcl2]; exact hvc) (by omega)).go
    rintro _ k9 ⟨rfl, hx9⟩
    rw [fin (by omega)]
    (repeat ((with_reducible apply o_valM); exact rfl; exact rfl; exact rfl; exact trivial))
    (with_reducible apply o_bool)
    exact rfl
    exact rfl
    exact trivial
    intro b hb
    obtain rfl : b = true := by rw [hb]; simp
    (repeat (first | ((with_reducible apply o_valW); exact rfl; exact rfl; exact rfl; exact trivial) | (with_reducible first | apply s_ret | apply o_nil | apply ssq_norm)))
    exact lret_ret (vs := [.bool true]) rfl rfl rfl (hx.trans hx9) (by simp)
  obtain rfl : b = true := by rw [hb]; exact decide_eq_true (by omega)
  (repeat (first | ((with_reducible apply o_valM); exact rfl; exact rfl; exact rfl; exact trivial) | ((with_reducible apply o_guardT); exact rfl; exact rfl)))
  ((with_reducible apply o_addN (a := a) (b := k)); exact rfl; exact rfl; exact rfl; exact w64 (by omega) (by omega))
  (repeat (first | ((with_reducible apply o_valM); exact rfl; exact rfl; exact rfl; exact trivial) | ((with_reducible apply o_guardT); exact rfl; exact rfl)))
  ((with_reducible apply o_mulN (a := 8) (b := L)); exact rfl; exact rfl; exact rfl; exact w64 (by omega) (by omega))
  (repeat ((with_reducible apply o_guardT); exact rfl; exact rfl))
  (with_reducible apply o_bool)
  exact rfl
  exact rfl
  exact trivial
  intro b hb
  by_cases hin : a + k < 8 * L
  rotate_left
  · obtain rfl : b = false := by rw [hb]; exact decide_eq_false (by omega)
    (repeat (first | ((with_reducible apply o_valM); exact rfl; exact rfl; exact rfl; exact trivial) | (with_reducible first | apply s_seq | apply s_reg0 | apply s_exit | apply o_nil | apply ssq_norm | apply ssq_exit | apply sbq_hit | apply slq_exit) | ((with_reducible apply s_condF); exact rfl)))
    apply o_hcall rfl rfl rfl rfl (p23 (by rw [hcl2]; exact hvc) (by omega)).go
    rintro _ k9 ⟨rfl, hx9⟩
    rw [fin (by omega)]
    (repeat ((with_reducible apply o_valM); exact rfl; exact rfl; exact rfl; exact trivial))
    (with_reducible apply o_bool)
    exact rfl
    exact rfl
    exact trivial
    intro b hb
    obtain rfl : b = true := by rw [hb]; simp
    (repeat (first | ((with_reducible apply o_valW); exact rfl; exact rfl; exact rfl; exact trivial) | (with_reducible first | apply s_ret | apply o_nil | apply ssq_norm)))
    exact lret_ret (vs := [.bool true]) rfl rfl rfl (hx.trans hx9) (by simp)
  obtain rfl : b = true := by rw [hb]; exact decide_eq_true (by omega)
  (repeat (first | ((with_reducible apply o_valM); exact rfl; exact rfl; exact rfl; exact trivial) | (with_reducible first | apply s_seq | apply s_reg0 | apply s_skip | apply s_block | apply o_nil | apply ssq_norm) | ((with_reducible apply s_condT); exact rfl)))
  ((with_reducible apply o_cvN (a := k)); exact rfl; exact rfl; exact wu64 (by omega) (by omega))
  apply o_shrN (a := w) (b := k) rfl rfl rfl (by show k ≤ 32; omega)
  have hws : w / 2 ^ k < 4294967296 := Nat.lt_of_le_of_lt (Nat.div_le_self _ _) hwb
  apply o_as (w := .int .u32 ((w / 2 ^ k % 2 : Nat) : Int)) rfl rfl trivial (by
    refine (and32 hws (b := 1) (by decide)).trans ?_
    rw [Nat.and_one_is_mod])
  skip
  (with_reducible apply o_bool)
  exact rfl
  exact rfl
  exact trivial
  intro b hb
  by_cases hbit : w / 2 ^ k % 2 = 1
  rotate_left
  · obtain rfl : b = false := by rw [hb]; exact decide_eq_false (by omega)
    (repeat (first | ((with_reducible apply o_valW); exact rfl; exact rfl; exact rfl; exact trivial) | (with_reducible first | apply s_reg0 | apply s_skip | apply o_nil | apply ssq_norm | apply sbq_norm) | ((with_reducible apply s_condF); exact rfl)))
    rw [w64 (n := (k : Int) + 1) (by omega) (by omega)]
    have e := bit_mod (w := w) hk32
    rw [if_neg hbit] at e
    refine ⟨k + 1, by simp only; omega, sub_cons rfl (sub_cons rfl (sub_cons rfl (sub_cons ?_ (sub_cons rfl sub_nil)))), rfl, hx, by omega, by omega, cur, hcur, hcl2, ?_⟩
    · rw [e]
      rfl
    · rw [e]
      exact hWN
  obtain rfl : b = true := by rw [hb]; exact decide_eq_true (by omega)
  have hj : (a + k) / 8 < cur.length := by omega
  (repeat (first | ((with_reducible apply o_valM); exact rfl; exact rfl; exact rfl; exact trivial) | (with_reducible first | apply s_seq | apply s_reg0 | apply o_nil | apply ssq_norm) | ((with_reducible apply s_condT); exact rfl)))
  ((with_reducible apply o_addN (a := a) (b := k)); exact rfl; exact rfl; exact rfl; exact w64 (by omega) (by omega))
  apply o_quoN (a := a + k) (b := 8) rfl rfl rfl (by decide) (w64 (by omega) (by omega))
  apply o_iaV rfl rfl rfl hvc (by omega) (by omega)
  intro p hp
  replace hp : VPtr h' p [ub cur[(a + k) / 8]] := byte_ptr (i := (a + k) / 8) rfl hj hp
  apply o_ldV rfl rfl hp (fun h => by omega)
  (repeat ((with_reducible apply o_valM); exact rfl; exact rfl; exact rfl; exact trivial))
  ((with_reducible apply o_addN (a := a) (b := k)); exact rfl; exact rfl; exact rfl; exact w64 (by omega) (by omega))
  apply o_remN (a := a + k) (b := 8) rfl rfl rfl (by decide)
  ((with_reducible apply o_cvN (a := (a + k) % 8)); exact rfl; exact rfl; exact wu64 (by omega) (by omega))
  apply o_as rfl rfl (show (0 : Int) ≤ (((a + k) % 8 : Nat) : Int) by omega) (shl8 (r := (a + k) % 8) rfl (Nat.mod_lt _ (by decide)))
  apply o_as rfl rfl trivial (xor8 _ _)
  apply o_val (v := .ptr ib (0 + (((a + k) / 8 : Nat) : Int).toNat * 1)) rfl rfl (show (1 = 1 ∧ (0 : Int) ≤ (((a + k) / 8 : Nat) : Int) ∧ (((a + k) / 8 : Nat) : Int) < (L : Int)) from ⟨rfl, by omega, by omega⟩)
  have eoff : 0 + (((a + k) / 8 : Nat) : Int).toNat * 1 = (a + k) / 8 := by rw [Int.toNat_natCast]; omega
  rw [eoff]
  apply o_st1 rfl rfl rfl rfl rfl hcur (by simp [ubs]; omega)
  have eset : (ubs cur).set ((a + k) / 8) (ub (cur[(a + k) / 8] ^^^ UInt8.ofNat (2 ^ ((a + k) % 8)))) = ubs (cur.set ((a + k) / 8) (cur[(a + k) / 8] ^^^ UInt8.ofNat (2 ^ ((a + k) % 8)))) := by
    unfold ubs
    rw [List.map_set]
  rw [eset]
  (repeat (first | ((with_reducible apply o_valW); exact rfl; exact rfl; exact rfl; exact trivial) | (with_reducible first | apply s_reg0 | apply o_nil | apply ssq_norm | apply sbq_norm)))
  rw [w64 (n := (k : Int) + 1) (by omega) (by omega)]
  refine ⟨k + 1, by simp only; omega, sub_cons rfl (sub_cons rfl (sub_cons rfl (sub_cons ?_ (sub_cons rfl sub_nil)))), rfl, ext_set hx hhb, by omega, by omega, _, upd_same, by rw [List.length_set]; exact hcl2, turn_WN hWN hk32 hbit hj⟩
  have e := bit_mod (w := w) hk32
  rw [if_pos hbit] at e
  have : 0 < 2 ^ k := Nat.pow_pos (by decide)
  rw [decide_eq_true (show w % 2 ^ (k + 1) ≠ 0 by omega)]
  rfl
end Go.Proofs
end
section
open Go Go.Abs Go.Img
namespace Go.Proofs
set_option maxRecDepth 100000
def fsOf (P : Program) (t : TypeId) : Array Field := match P.underlying t with | some (.struct fs) => fs | _ => #[]
theorem tyc_st {P : Program} {k n : Nat} {t : TypeId} {cs : List AV} {l : List (TypeId × Nat × Nat)} (ht : P.underlying t = some (.struct (fsOf P t))) (hl : (fsOf P t).toList.map (fun f => (f.type, f.offset, P.cellsOf f.type)) = l) (hn : P.cellsOf t = n) (h : TyC P (k + 1) t cs) : cs.length = n ∧ ∀ p ∈ l, TyC P k p.1 ((cs.drop p.2.1).take p.2.2) := by
  obtain ⟨h1, h2⟩ := tyc_struct ht h
  refine ⟨h1.trans hn, fun p hp => ?_⟩
  subst hl
  obtain ⟨f, hf, rfl⟩ := List.mem_map.1 hp
  exact h2 f hf
theorem wf_i64 {n : Int} (h : (Lit.int .i64 n).wf = true) : I64 n := by
  simp [Lit.wf, IntKind.min, IntKind.max, IntKind.bits, IntKind.signed] at h
  unfold I64
  omega
theorem wf_i32 {n : Int} (h : (Lit.int .i32 n).wf = true) : I32 n := by
  simp [Lit.wf, IntKind.min, IntKind.max, IntKind.bits, IntKind.signed] at h
  unfold I32
  omega
theorem im_int {k : Nat} {l : List AV} (h : TyC Tryz.prog (k + 1) 3 l) : ∃ n, (∀ h : Heap, RN .i64 h l n) ∧ I64 n := by
  obtain ⟨n, rfl, hw⟩ := tyc_int (i := .i64) (by kernel_rfl) h
  exact ⟨n, fun _ => rfl, wf_i64 hw⟩
theorem im_i32 {k : Nat} {l : List AV} (h : TyC Tryz.prog (k + 1) 21 l) : ∃ n, (∀ h : Heap, RN .i32 h l n) ∧ I32 n := by
  obtain ⟨n, rfl, hw⟩ := tyc_int (i := .i32) (by kernel_rfl) h
  exact ⟨n, fun _ => rfl, wf_i32 hw⟩
theorem im_bool {k : Nat} {l : List AV} (h : TyC Tryz.prog (k + 1) 4 l) : ∃ b, (∀ h : Heap, RB h l b) ∧ True := by
  obtain ⟨b, rfl⟩ := tyc_bool (by kernel_rfl) h
  exact ⟨b, fun _ => rfl, trivial⟩
theorem im_pair {k : Nat} {l : List AV} (hl : l.length = 2) (h : TyC Tryz.prog (k + 2) 54 l) : ∃ p, (∀ h : Heap, RPair h l p) ∧ (I64 p.1 ∧ I64 p.2) := by
  obtain ⟨_, h2⟩ := tyc_array (n := 2) (e := 3) (by kernel_rfl) h
  have e3 : Tryz.prog.cellsOf 3 = 1 := by kernel_rfl
  match l, hl with
  | [a, b], _ =>
    have f0 := h2 0 (by decide)
    have f1 := h2 1 (by decide)
    simp only [e3] at f0 f1
    obtain ⟨x, hx, wx⟩ := im_int f0
    obtain ⟨y, hy, wy⟩ := im_int f1
    have ex : a = I x := List.cons.inj (hx fun _ => none) |>.1
    have ey : b = I y := List.cons.inj (hy fun _ => none) |>.1
    subst ex ey
    exact ⟨(x, y), fun _ => rfl, wx, wy⟩
theorem four_of {k : Nat} {l : List AV} (hl : l.length = 4) (h : ∀ p ∈ [((3 : TypeId), 0, 1), (3, 1, 1), (3, 2, 1), (3, 3, 1)], TyC Tryz.prog (k + 1) p.1 ((l.drop p.2.1).take p.2.2)) : ∃ p, (∀ h : Heap, RFour h l p) ∧ F64 p := by
  match l, hl with
  | [a, b, c, d], _ =>
    obtain ⟨x, hx, wx⟩ := im_int (h _ (.head _))
    obtain ⟨y, hy, wy⟩ := im_int (h _ (.tail _ (.head _)))
    obtain ⟨z, hz, wz⟩ := im_int (h _ (.tail _ (.tail _ (.head _))))
    obtain ⟨u, hu, wu⟩ := im_int (h _ (.tail _ (.tail _ (.tail _ (.head _)))))
    have ex : a = I x := List.cons.inj (hx fun _ => none) |>.1
    have ey : b = I y := List.cons.inj (hy fun _ => none) |>.1
    have ez : c = I z := List.cons.inj (hz fun _ => none) |>.1
    have eu : d = I u := List.cons.inj (hu fun _ => none) |>.1
    subst ex ey ez eu
    exact ⟨(x, y, z, u), fun _ => rfl, wx, wy, wz, wu⟩
theorem im_ins {k : Nat} {l : List AV} (h : TyC Tryz.prog (k + 2) 56 l) : ∃ p, (∀ h : Heap, RFour h l p) ∧ F64 p := by
  obtain ⟨h1, h2⟩ := tyc_st (n := 4) (l := [((3 : TypeId), 0, 1), (3, 1, 1), (3, 2, 1), (3, 3, 1)]) (by kernel_rfl) (by kernel_rfl) (by kernel_rfl) h
  exact four_of h1 h2
theorem im_trap {k : Nat} {l : List AV} (h : TyC Tryz.prog (k + 2) 60 l) : ∃ p, (∀ h : Heap, RFour h l p) ∧ F64 p := by
  obtain ⟨h1, h2⟩ := tyc_st (n := 4) (l := [((3 : TypeId), 0, 1), (3, 1, 1), (3, 2, 1), (3, 3, 1)]) (by kernel_rfl) (by kernel_rfl) (by kernel_rfl) h
  exact four_of h1 h2
theorem im_ints {k : Nat} {l : List AV} (h : TyC Tryz.prog (k + 2) 24 l) : ∃ v x, l = [v] ∧ (∀ h, Sl (RN .i64) 1 h v x) ∧ Len x ∧ ∀ a ∈ x, I64 a := by
  obtain ⟨v, x, e, hx, hl, hw⟩ := tyc_list (e := 3) (s := 1) (by kernel_rfl) (by kernel_rfl) (fun l _ h => im_int h) h
  exact ⟨v, x, e, hx, hl, hw⟩
theorem im_i32s {k : Nat} {l : List AV} (h : TyC Tryz.prog (k + 2) 25 l) : ∃ v x, l = [v] ∧ (∀ h, Sl (RN .i32) 1 h v x) ∧ Len x ∧ ∀ a ∈ x, I32 a := by
  obtain ⟨v, x, e, hx, hl, hw⟩ := tyc_list (e := 21) (s := 1) (by kernel_rfl) (by kernel_rfl) (fun l _ h => im_i32 h) h
  exact ⟨v, x, e, hx, hl, hw⟩
theorem im_bools {k : Nat} {l : List AV} (h : TyC Tryz.prog (k + 2) 26 l) : ∃ v x, l = [v] ∧ (∀ h, Sl RB 1 h v x) ∧ Len x := by
  obtain ⟨v, x, e, hx, hl, _⟩ := tyc_list (e := 4) (s := 1) (W := fun _ => True) (by kernel_rfl) (by kernel_rfl) (fun l _ h => im_bool h) h
  exact ⟨v, x, e, hx, hl⟩
theorem im_cls {k : Nat} {l : List AV} (h : TyC Tryz.prog (k + 4) 48 l) : ∃ c, (∀ h : Heap, RCls h l c) ∧ c.Wide := by
  obtain ⟨h1, h2⟩ := tyc_st (k := k + 3) (n := 10) (l := [((9 : TypeId), 0, 1), (3, 1, 1), (3, 2, 1), (26, 3, 1), (24, 4, 1), (24, 5, 1), (46, 6, 1), (3, 7, 1), (3, 8, 1), (4, 9, 1)]) (by kernel_rfl) (by kernel_rfl) (by kernel_rfl) h
  match l, h1 with
  | [a0, a1, a2, a3, a4, a5, a6, a7, a8, a9], _ =>
    obtain ⟨s, q0, ws⟩ := tyc_str (by kernel_rfl) (h2 _ (.head _))
    obtain ⟨x1, q1, w1⟩ := im_int (h2 (3, 1, 1) (by simp))
    obtain ⟨x2, q2, w2⟩ := im_int (h2 (3, 2, 1) (by simp))
    obtain ⟨v3, x3, q3, r3, w3⟩ := im_bools (h2 (26, 3, 1) (by simp))
    obtain ⟨v4, x4, q4, r4, w4⟩ := im_ints (h2 (24, 4, 1) (by simp))
    obtain ⟨v5, x5, q5, r5, w5⟩ := im_ints (h2 (24, 5, 1) (by simp))
    obtain ⟨v6, x6, q6, r6, w6⟩ := tyc_list (k := k + 2) (e := 54) (s := 2) (R := RPair) (W := fun p => I64 p.1 ∧ I64 p.2) (by kernel_rfl) (by kernel_rfl) (fun l hl h => im_pair hl h) (h2 (46, 6, 1) (by simp))
    obtain ⟨x7, q7, w7⟩ := im_int (h2 (3, 7, 1) (by simp))
    obtain ⟨x8, q8, w8⟩ := im_int (h2 (3, 8, 1) (by simp))
    obtain ⟨x9, q9, _⟩ := im_bool (h2 (4, 9, 1) (by simp))
    have e0 : a0 = .str s := List.cons.inj q0 |>.1
    have e1 : a1 = I x1 := List.cons.inj (q1 fun _ => none) |>.1
    have e2 : a2 = I x2 := List.cons.inj (q2 fun _ => none) |>.1
    have e3 : a3 = v3 := List.cons.inj q3 |>.1
    have e4 : a4 = v4 := List.cons.inj q4 |>.1
    have e5 : a5 = v5 := List.cons.inj q5 |>.1
    have e6 : a6 = v6 := List.cons.inj q6 |>.1
    have e7 : a7 = I x7 := List.cons.inj (q7 fun _ => none) |>.1
    have e8 : a8 = I x8 := List.cons.inj (q8 fun _ => none) |>.1
    have e9 : a9 = .bool x9 := List.cons.inj (q9 fun _ => none) |>.1
    subst e0 e1 e2 e3 e4 e5 e6 e7 e8 e9
    exact ⟨⟨s, x1, x2, x7, x8, x9, x3, x4, x5, x6⟩, fun h => ⟨_, _, _, _, rfl, r3 h, r4 h, r5 h, r6 h⟩, ⟨ws, w1, w2, w7, w8, w3, w4, w5, w6⟩⟩
theorem im_mth {k : Nat} {l : List AV} (h : TyC Tryz.prog (k + 4) 53 l) : ∃ c, (∀ h : Heap, RMth h l c) ∧ c.WF := by
  obtain ⟨h1, h2⟩ := tyc_st (k := k + 3) (n := 6) (l := [((3 : TypeId), 0, 1), (3, 1, 1), (3, 2, 1), (4, 3, 1), (50, 4, 1), (51, 5, 1)]) (by kernel_rfl) (by kernel_rfl) (by kernel_rfl) h
  match l, h1 with
  | [a0, a1, a2, a3, a4, a5], _ =>
    obtain ⟨x0, q0, w0⟩ := im_int (h2 (3, 0, 1) (by simp))
    obtain ⟨x1, q1, w1⟩ := im_int (h2 (3, 1, 1) (by simp))
    obtain ⟨x2, q2, w2⟩ := im_int (h2 (3, 2, 1) (by simp))
    obtain ⟨x3, q3, _⟩ := im_bool (h2 (4, 3, 1) (by simp))
    obtain ⟨v4, x4, q4, r4, w4⟩ := tyc_list (k := k + 2) (e := 56) (s := 4) (R := RFour) (W := F64) (by kernel_rfl) (by kernel_rfl) (fun l _ h => im_ins h) (h2 (50, 4, 1) (by simp))
    obtain ⟨v5, x5, q5, r5, w5⟩ := tyc_list (k := k + 2) (e := 60) (s := 4) (R := RFour) (W := F64) (by kernel_rfl) (by kernel_rfl) (fun l _ h => im_trap h) (h2 (51, 5, 1) (by simp))
    have e0 : a0 = I x0 := List.cons.inj (q0 fun _ => none) |>.1
    have e1 : a1 = I x1 := List.cons.inj (q1 fun _ => none) |>.1
    have e2 : a2 = I x2 := List.cons.inj (q2 fun _ => none) |>.1
    have e3 : a3 = .bool x3 := List.cons.inj (q3 fun _ => none) |>.1
    have e4 : a4 = v4 := List.cons.inj q4 |>.1
    have e5 : a5 = v5 := List.cons.inj q5 |>.1
    subst e0 e1 e2 e3 e4 e5
    exact ⟨⟨x0, x1, x2, x3, x4, x5⟩, fun h => ⟨_, _, rfl, r4 h, r5 h⟩, ⟨w0, w1, w2, w4, w5⟩⟩
theorem ty_image {v : AV} (h : TyV Tryz.prog 6 28 v) : ∃ c m, v = .agg c ∧ (∀ h, RImg h c m) ∧ m.Wide := by
  obtain ⟨l, rfl, hc⟩ := ty_struct (fs := fsOf Tryz.prog 28) (by kernel_rfl) h
  obtain ⟨h1, h2⟩ := tyc_st (k := 5) (n := 9) (l := [((22 : TypeId), 0, 1), (23, 1, 1), (3, 2, 1), (3, 3, 1), (24, 4, 1), (25, 5, 1), (24, 6, 1), (25, 7, 1), (26, 8, 1)]) (by kernel_rfl) (by kernel_rfl) (by kernel_rfl) hc
  match l, h1 with
  | [a0, a1, a2, a3, a4, a5, a6, a7, a8], _ =>
    obtain ⟨v0, x0, q0, r0, w0⟩ := tyc_list (k := 4) (e := 48) (s := 10) (R := RCls) (W := Cls.Wide) (by kernel_rfl) (by kernel_rfl) (fun l _ h => im_cls h) (h2 (22, 0, 1) (by simp))
    obtain ⟨v1, x1, q1, r1, w1⟩ := tyc_list (k := 4) (e := 53) (s := 6) (R := RMth) (W := Mth.WF) (by kernel_rfl) (by kernel_rfl) (fun l _ h => im_mth h) (h2 (23, 1, 1) (by simp))
    obtain ⟨x2, q2, w2⟩ := im_int (h2 (3, 2, 1) (by simp))
    obtain ⟨x3, q3, w3⟩ := im_int (h2 (3, 3, 1) (by simp))
    obtain ⟨v4, x4, q4, r4, w4⟩ := im_ints (h2 (24, 4, 1) (by simp))
    obtain ⟨v5, x5, q5, r5, w5⟩ := im_i32s (h2 (25, 5, 1) (by simp))
    obtain ⟨v6, x6, q6, r6, w6⟩ := im_ints (h2 (24, 6, 1) (by simp))
    obtain ⟨v7, x7, q7, r7, w7⟩ := im_i32s (h2 (25, 7, 1) (by simp))
    obtain ⟨v8, x8, q8, r8, w8⟩ := im_bools (h2 (26, 8, 1) (by simp))
    have e0 : a0 = v0 := List.cons.inj q0 |>.1
    have e1 : a1 = v1 := List.cons.inj q1 |>.1
    have e2 : a2 = I x2 := List.cons.inj (q2 fun _ => none) |>.1
    have e3 : a3 = I x3 := List.cons.inj (q3 fun _ => none) |>.1
    have e4 : a4 = v4 := List.cons.inj q4 |>.1
    have e5 : a5 = v5 := List.cons.inj q5 |>.1
    have e6 : a6 = v6 := List.cons.inj q6 |>.1
    have e7 : a7 = v7 := List.cons.inj q7 |>.1
    have e8 : a8 = v8 := List.cons.inj q8 |>.1
    subst e0 e1 e2 e3 e4 e5 e6 e7 e8
    exact ⟨_, ⟨x0, x1, x2, x3, x4, x5, x6, x7, x8⟩, rfl, fun h => ⟨_, _, _, _, _, _, _, rfl, r0 h, r1 h, r4 h, r5 h, r6 h, r7 h, r8 h⟩, ⟨w0, w1, w2, w3, w4, w5, w6, w7, w8⟩⟩
theorem extok : ExtOK Tryz.prog SlimCode.ann := by
  intro f e h
  cases h
end Go.Proofs
end
section
open Go Go.Abs Go.Proofs.SlimCode Go.Img
namespace Go.Proofs
set_option maxRecDepth 100000
theorem run_of_h {A : Ann} {P : Program} {f : Nat} {vs : List AV} {Q : Heap → Prop} (h : HCallC P A f vs (fun _ => none) fun v h' => v = .bool true ∧ Q h') : ∃ n h' n' lg, callN P A n f vs (fun _ => none) 0 = some (.bool true, h', n', lg) := by
  obtain ⟨k, v, h', n', lg, e, rfl, _⟩ := h 0 (fun _ _ => rfl)
  exact ⟨k, h', n', lg, e⟩
theorem wf_u32 {n : Int} (h : (Lit.int .u32 n).wf = true) : ∃ w : Nat, n = w ∧ w < 4294967296 := by
  simp [Lit.wf, IntKind.min, IntKind.max, IntKind.bits, IntKind.signed] at h
  exact ⟨n.toNat, by omega, by omega⟩
theorem law_run (ps : List AV) (h : TyVs Tryz.prog 6 Tryz.f6.params.toList ps) : ∃ n h' n' lg, callN Tryz.prog ann n 6 ps (fun _ => none) 0 = some (.bool true, h', n', lg) := by
  obtain ⟨a, _, rfl, ha, b, _, rfl, hb, x, _, rfl, hx, rfl⟩ := h
  obtain ⟨c, m, rfl, hc, hw⟩ := ty_image ha
  obtain ⟨at', rfl, ht⟩ := ty_int (i := .i64) (by kernel_rfl) hb
  obtain ⟨bits, rfl, hu⟩ := ty_int (i := .u32) (by kernel_rfl) hx
  obtain ⟨w, rfl, hw2⟩ := wf_u32 hu
  exact run_of_h (p6 hc hw (wf_i64 ht) hw2)
end Go.Proofs
end
