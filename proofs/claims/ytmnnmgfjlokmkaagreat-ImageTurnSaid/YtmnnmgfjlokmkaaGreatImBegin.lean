import Derived.Test.YtmnnmgfjlokmkaaGreatAbsTac
import Derived.Test.YtmnnmgfjlokmkaaGreatImSmall
import Derived.Test.YtmnnmgfjlokmkaaGreatImCutAll
open Go Go.Abs Go.Proofs.SlimCode Go.Img
set_option maxRecDepth 100000
namespace Go.Proofs
theorem p32 : PureC Tryz.prog ann 32 [] (.bool true) := pure_eval 1000 (by kernel_rfl) (by kernel_rfl) (by kernel_rfl)
theorem p33 : PureC Tryz.prog ann 33 [] (.bool true) := pure_eval 1000 (by kernel_rfl) (by kernel_rfl) (by kernel_rfl)
theorem small_Small : Image.Small small := by
 refine ⟨⟨by decide, fun c h => ?_⟩, ⟨by decide, fun c h => ?_⟩, by decide, by decide, by decide, by decide, by decide⟩
 ·obtain ⟨i, _, rfl⟩ := List.mem_map.1 h
  exact ⟨(by decide : 2 ≤ 12), Nat.zero_le _, (by decide : 1 ≤ 21), Nat.zero_le _, Nat.zero_le _⟩
 ·obtain rfl := List.mem_singleton.1 h
  exact ⟨by decide, by decide⟩
theorem flat_ge {α : Type} {e : α → B} (he : ∀ a, 1 ≤ (e a).length) : ∀ l : List α, l.length ≤ (l.flatMap e).length
 | [] => Nat.le_refl _
 | a :: l => by
  have := flat_ge he l
  have := he a
  simp only [List.flatMap_cons, List.length_append, List.length_cons]
  omega
theorem put_ge (n : Int) : 1 ≤ (put n).length := List.length_pos_iff.mpr (put_ne n)
theorem small_ge : 8 < (Img.body small).length := by
 have h1 : 11 ≤ ((small.classes).flatMap eCls).length := Nat.le_trans (by simp [small]) (flat_ge (fun a => by simp only [eCls, eText, List.length_append]; have := put_ge a.name.length; omega) small.classes)
 simp only [Img.body, eList, List.length_append]
 omega
theorem dec_small : Img.decode (encode small) = some small := decode_encode small_WF (by have := small_len small_WF small_Small; unfold size; omega)
theorem dec_none : Img.decode [] = none := by unfold Img.decode; rw [if_pos (.inl (by decide))]
def small1 : Image := { small with entry := 1 }
theorem small1_WF : small1.WF := { small_WF with entry := i64_of (by decide) (by decide) }
theorem mono_I {h h' : Heap} {c : List AV} {m : Image} (H : RImg h c m) (hx : Ext h h') : RImg h' c m := RImg.mono _ _ _ _ hx H
theorem p14 : PureC Tryz.prog ann 14 [] (.bool true) := by
 refine s_pure_of Tryz.func14 (frc (by with_unfolding_all rfl)) rfl rfl rfl ?_
 refine tV ?_
 apply o_hcall rfl rfl rfl rfl (p27 (h := hp0))
 rintro _ k1 ⟨_, c, rfl, hM⟩
 obtain ⟨vc, vm, vg, vw, vr, vs, vf, rfl, r⟩ := id hM
 refine tW ?_
 apply o_alc rfl
 intro b1 hn
 apply o_st (v := .agg [vc, vm, I small.entry, I small.need, vg, vw, vr, vs, vf]) (cs' := [vc, vm, I small.entry, I small.need, vg, vw, vr, vs, vf]) rfl rfl rfl rfl rfl hM.one upd_same rfl
 rw [upd_upd]
 have hx : Ext k1 (upd k1 b1 (some (.cells [vc, vm, I small.entry, I small.need, vg, vw, vr, vs, vf]))) := .upd hn
 have e_b1 : upd k1 b1 (some (.cells [vc, vm, I small.entry, I small.need, vg, vw, vr, vs, vf])) b1 = some (.cells [vc, vm, I small.entry, I small.need, vg, vw, vr, vs, vf]) := upd_same
 generalize upd k1 b1 (some (.cells [vc, vm, I small.entry, I small.need, vg, vw, vr, vs, vf])) = k2 at hx e_b1 ⊢
 replace hM := mono_I hM hx
 clear hx hn
 refine tV ?_
 apply o_ldhn (l := [vc, vm, I small.entry, I small.need, vg, vw, vr, vs, vf]) rfl rfl e_b1 (fun h => by omega) rfl
 apply o_hcall rfl rfl rfl rfl (p16 hM small_WF (by have := small_len small_WF small_Small; omega))
 rintro v2 k3 hb
 have hlb := small_len small_WF small_Small
 rcases hb with ⟨_, O⟩ | ⟨hb, _⟩
 rotate_left
 ·unfold size at hb; omega
 have hx3 := O.ext
 have hv := O.view
 have hpos := small_ge
 have hsz : (encode small).length = 12 + (Img.body small).length := encode_len small
 replace e_b1 := hx3 _ _ e_b1
 replace hM := mono_I hM hx3
 refine tV ?_
 apply o_hcall rfl rfl rfl rfl (p17 hv (by omega))
 rintro _ k4 ⟨hx4, c3, e3, m3, rfl, hX, hXW, hdec⟩
 obtain ⟨rfl, rfl⟩ : e3 = 0 ∧ m3 = small := by
  rcases hdec with ⟨h1, h2⟩ | ⟨_, h2, _⟩
  ·rw [dec_small] at h2
   exact ⟨h1, (Option.some.inj h2).symm⟩
  ·rw [dec_small] at h2
   cases h2
 clear hdec
 obtain ⟨uc, um, ug, uw, ur, us, uf, rfl, _⟩ := id hX
 replace e_b1 := hx4 _ _ e_b1
 replace hM := mono_I hM hx4
 replace hv := hv.mono hx4
 refine tW ?_
 apply o_alc rfl
 intro b3 hn
 apply o_st (v := .agg [uc, um, I small.entry, I small.need, ug, uw, ur, us, uf]) (cs' := [uc, um, I small.entry, I small.need, ug, uw, ur, us, uf]) rfl rfl rfl rfl rfl hX.one upd_same rfl
 rw [upd_upd]
 have hx : Ext k4 (upd k4 b3 (some (.cells [uc, um, I small.entry, I small.need, ug, uw, ur, us, uf]))) := .upd hn
 have e_b3 : upd k4 b3 (some (.cells [uc, um, I small.entry, I small.need, ug, uw, ur, us, uf])) b3 = some (.cells [uc, um, I small.entry, I small.need, ug, uw, ur, us, uf]) := upd_same
 generalize upd k4 b3 (some (.cells [uc, um, I small.entry, I small.need, ug, uw, ur, us, uf])) = k5 at hx e_b3 ⊢
 replace e_b1 := hx _ _ e_b1
 replace hM := mono_I hM hx
 replace hX := mono_I hX hx
 replace hv := hv.mono hx
 clear hx hn
 refine tV ?_
 apply o_hcall rfl rfl rfl rfl (p17 (bs := []) .nil (by decide))
 rintro _ k6 ⟨hx6, c5, e5, m5, rfl, hY, _, hdec⟩
 obtain rfl : e5 = 6 := by
  rcases hdec with ⟨_, h2⟩ | ⟨h1, _, _⟩
  ·rw [dec_none] at h2
   cases h2
  ·exact h1
 clear hdec
 obtain ⟨y0, y1, y2, y3, y4, y5, y6, rfl, _⟩ := id hY
 replace e_b1 := hx6 _ _ e_b1
 replace e_b3 := hx6 _ _ e_b3
 replace hM := mono_I hM hx6
 replace hX := mono_I hX hx6
 replace hv := hv.mono hx6
 refine tW ?_
 apply o_alc rfl
 intro b5 hn
 apply o_st (v := .agg [y0, y1, I m5.entry, I m5.need, y2, y3, y4, y5, y6]) (cs' := [y0, y1, I m5.entry, I m5.need, y2, y3, y4, y5, y6]) rfl rfl rfl rfl rfl hY.one upd_same rfl
 rw [upd_upd]
 have hx : Ext k6 (upd k6 b5 (some (.cells [y0, y1, I m5.entry, I m5.need, y2, y3, y4, y5, y6]))) := .upd hn
 have e_b5 : upd k6 b5 (some (.cells [y0, y1, I m5.entry, I m5.need, y2, y3, y4, y5, y6])) b5 = some (.cells [y0, y1, I m5.entry, I m5.need, y2, y3, y4, y5, y6]) := upd_same
 generalize upd k6 b5 (some (.cells [y0, y1, I m5.entry, I m5.need, y2, y3, y4, y5, y6])) = k7 at hx e_b5 ⊢
 replace e_b1 := hx _ _ e_b1
 replace e_b3 := hx _ _ e_b3
 replace hM := mono_I hM hx
 replace hX := mono_I hX hx
 replace hv := hv.mono hx
 clear hx hn
 clear hY e_b5
 refine tV ?_
 apply o_hcall rfl rfl rfl rfl (p27 (h := k7))
 rintro _ k8 ⟨hx8, c7, rfl, hN⟩
 obtain ⟨vc', vm', vg', vw', vr', vs', vf', rfl, n1, n2, n3, n4, n5, n6, n7⟩ := id hN
 replace e_b1 := hx8 _ _ e_b1
 replace e_b3 := hx8 _ _ e_b3
 replace hM := mono_I hM hx8
 replace hX := mono_I hX hx8
 replace hv := hv.mono hx8
 refine tW ?_
 apply o_alc rfl
 intro b7 hn
 have hne1 : b1 ≠ b7 := fun hc => by rw [← hc, e_b1] at hn; cases hn
 have hne3 : b3 ≠ b7 := fun hc => by rw [← hc, e_b3] at hn; cases hn
 have hnv := hn
 apply o_st (v := .agg [vc', vm', I small.entry, I small.need, vg', vw', vr', vs', vf']) (cs' := [vc', vm', I small.entry, I small.need, vg', vw', vr', vs', vf']) rfl rfl rfl rfl rfl hN.one upd_same rfl
 rw [upd_upd]
 have hx : Ext k8 (upd k8 b7 (some (.cells [vc', vm', I small.entry, I small.need, vg', vw', vr', vs', vf']))) := .upd hn
 have e_b7 : upd k8 b7 (some (.cells [vc', vm', I small.entry, I small.need, vg', vw', vr', vs', vf'])) b7 = some (.cells [vc', vm', I small.entry, I small.need, vg', vw', vr', vs', vf']) := upd_same
 clear hx e_b7
 refine tV ?_
 apply o_st (v := I 1) (cs' := [vc', vm', I 1, I small.need, vg', vw', vr', vs', vf']) rfl rfl rfl rfl rfl rfl upd_same rfl
 rw [upd_upd]
 have hx : Ext k8 (upd k8 b7 (some (.cells [vc', vm', I 1, I small.need, vg', vw', vr', vs', vf']))) := .upd hn
 have e_b7 : upd k8 b7 (some (.cells [vc', vm', I 1, I small.need, vg', vw', vr', vs', vf'])) b7 = some (.cells [vc', vm', I 1, I small.need, vg', vw', vr', vs', vf']) := upd_same
 generalize upd k8 b7 (some (.cells [vc', vm', I 1, I small.need, vg', vw', vr', vs', vf'])) = k9 at hx e_b7 ⊢
 replace e_b1 := hx _ _ e_b1
 replace e_b3 := hx _ _ e_b3
 replace hM := mono_I hM hx
 replace hX := mono_I hX hx
 replace hv := hv.mono hx
 replace hN := mono_I hN hx
 clear hx hn
 have hN1 : RImg k9 [vc', vm', I 1, I small.need, vg', vw', vr', vs', vf'] small1 := by
  obtain ⟨_, _, _, _, _, _, _, he, q1, q2, q3, q4, q5, q6, q7⟩ := hN
  simp only [List.cons.injEq, and_true] at he
  obtain ⟨rfl, rfl, _, _, rfl, rfl, rfl, rfl, rfl⟩ := he
  exact ⟨_, _, _, _, _, _, _, rfl, q1, q2, q3, q4, q5, q6, q7⟩
 clear hN
 refine tV ?_
 (refine tG ?_; (with_reducible apply o_call); exact rfl; exact rfl; exact rfl; exact p32)
 refine tV ?_
 (refine tG ?_; (with_reducible apply o_call); exact rfl; exact rfl; exact rfl; exact p33)
 refine tV ?_
 apply o_lenV rfl rfl hv
 refine tV ?_
 refine tV ?_
 refine oB fun b hb => ?_
 obtain rfl : b = true := by rw [hb]; exact decide_eq_true (by omega)
 refine tV ?_
 apply o_iaV rfl rfl rfl hv (by decide) (by omega)
 intro p hp
 replace hp := byte_ptr (i := 0) rfl (by omega) hp
 refine tV ?_
 apply o_ldV rfl rfl hp (fun h => by omega)
 refine tV ?_
 refine oB fun b hb => ?_
 obtain rfl : b = true := by rw [hb]; rfl
 refine tV ?_
 refine tV ?_
 refine oB fun b hb => ?_
 obtain rfl : b = true := by rw [hb]; rfl
 refine tV ?_
 apply o_ldhn (l := [uc, um, I small.entry, I small.need, ug, uw, ur, us, uf]) rfl rfl e_b3 (fun h => by omega) rfl
 refine tV ?_
 apply o_ldhn (l := [vc, vm, I small.entry, I small.need, vg, vw, vr, vs, vf]) rfl rfl e_b1 (fun h => by omega) rfl
 refine tV ?_
 apply o_hcall rfl rfl rfl rfl (p18 hX hM small_WF small_WF).go
 rintro _ kk ⟨rfl, hx⟩
 rw [decide_eq_true rfl]
 replace e_b1 := hx _ _ e_b1
 replace e_b3 := hx _ _ e_b3
 replace e_b7 := hx _ _ e_b7
 replace hM := mono_I hM hx
 replace hX := mono_I hX hx
 replace hN1 := mono_I hN1 hx
 clear hx
 refine tV ?_
 refine tV ?_
 refine oB fun b hb => ?_
 obtain rfl : b = true := by rw [hb]; rfl
 refine tV ?_
 apply o_ldhn (l := [vc, vm, I small.entry, I small.need, vg, vw, vr, vs, vf]) rfl rfl e_b1 (fun h => by omega) rfl
 refine tV ?_
 apply o_ldhn (l := [vc, vm, I small.entry, I small.need, vg, vw, vr, vs, vf]) rfl rfl e_b1 (fun h => by omega) rfl
 refine tV ?_
 apply o_hcall rfl rfl rfl rfl (p19 hM hM small_WF small_WF).go
 rintro _ kk ⟨rfl, hx⟩
 rw [decide_eq_true rfl]
 replace e_b1 := hx _ _ e_b1
 replace e_b3 := hx _ _ e_b3
 replace e_b7 := hx _ _ e_b7
 replace hM := mono_I hM hx
 replace hX := mono_I hX hx
 replace hN1 := mono_I hN1 hx
 clear hx
 refine tV ?_
 apply o_ldhn (l := [vc, vm, I small.entry, I small.need, vg, vw, vr, vs, vf]) rfl rfl e_b1 (fun h => by omega) rfl
 refine tV ?_
 apply o_ldhn (l := [vc', vm', I 1, I small.need, vg', vw', vr', vs', vf']) rfl rfl e_b7 (fun h => by omega) rfl
 refine tV ?_
 apply o_hcall rfl rfl rfl rfl (p19 hM hN1 small_WF small1_WF).go
 rintro _ kk ⟨rfl, hx⟩
 rw [decide_eq_false (fun e => absurd (congrArg Image.entry e) (by decide))]
 refine tw ?_
 apply o_val rfl rfl trivial
 refine tW ?_
 apply sret_ret
 exact res_tmp (vs := [_]) rfl rfl
end Go.Proofs
