import Derived.Test.YtmnnmgfjlokmkaaGreatAbsTac
import Derived.Test.YtmnnmgfjlokmkaaGreatImEnc
open Go Go.Abs Go.Proofs.SlimCode Go.Img
set_option maxRecDepth 100000
namespace Go.Proofs
theorem own_pos {g h : Heap} {s n : Nat} {v : AV} {cs : List AV} (H : OSl g s v cs n h) (h0 : 0 < n) : ∃ i, v = .sl i 0 n s ∧ g i = none ∧ h i = some (.cells cs) ∧ cs.length = n * s := by
 rcases H.own with ⟨_, _, rfl⟩ | h1
 ·omega
 ·exact h1
theorem p16 {h : Heap} {c : List AV} {m : Image} (hc : RImg h c m) (hw : m.WF) (hs : (Img.body m).length ≤ 1099511627776) :
  HCallC Tryz.prog ann 16 [.agg c] h fun v h' => (size m ≤ 1048576 ∧ OSl h 1 v (ubs (encode m)) (encode m).length h') ∨ (1048576 < size m ∧ v = .nil .sl ∧ Ext h h') := by
 have hone := hc.one
 obtain ⟨vc, vm, vg, vw, vr, vs, vf, rfl, v1, v2', v3, v4, v5, v6, v7⟩ := hc
 unfold Img.body at hs
 simp only [List.length_append] at hs
 refine s_call_x rfl Tryz.func16 (frc (by with_unfolding_all rfl)) rfl ?_
 refine tS ?_
 apply o_val rfl rfl hone
 refine tV ?_
 apply o_hcall rfl rfl rfl rfl (p36 v1 hw.classes.1 (fun x hx => (hw.classes.2 x hx).name)).go
 rintro _ g ⟨rfl, hx⟩
 refine tV ?_
 refine tw ?_
 apply o_hbox rfl rfl rfl
 intro w hwn
 have H0 : Wr g w [] (upd g w (some (.cells [.nil .sl]))) := Wr.start hwn
 show SOps _ _ _ _ _ _ _ _ [] (upd g w (some (.cells [.nil .sl]))) _
 generalize upd g w (some (.cells [.nil .sl])) = h0 at H0 ⊢
 refine tV ?_
 apply o_hcall rfl rfl rfl rfl (p38 (e := eCls) (v1.mono RCls.mono hx) hw.classes.1 (fun a ha g' c _ hc => p39 hc (hw.classes.2 a ha)) _ h0 H0 (by simp only [List.length_append, List.length_nil]; omega))
 rintro _ h1 ⟨rfl, H1⟩
 refine tV ?_
 apply o_hcall rfl rfl rfl rfl (p40 (e := eMth) (v2'.mono RMth.mono hx) hw.methods.1 (fun a ha g' c _ hc => p41 hc (hw.methods.2 a ha)) _ h1 H1 (by simp only [List.length_append, List.length_nil]; omega))
 rintro _ h2 ⟨rfl, H2⟩
 refine tV ?_
 apply o_hcall rfl rfl rfl rfl (p42 hw.entry _ h2 H2 (by simp only [List.length_append, List.length_nil]; omega))
 rintro _ h3 ⟨rfl, H3⟩
 refine tV ?_
 apply o_hcall rfl rfl rfl rfl (p42 hw.need _ h3 H3 (by simp only [List.length_append, List.length_nil]; omega))
 rintro _ h4 ⟨rfl, H4⟩
 refine tV ?_
 apply o_hcall rfl rfl rfl rfl (p43 (e := put) (v3.mono RN.mono hx) hw.given.1 (fun a ha g' _ => p42 (hw.given.2 a ha)) _ h4 H4 (by simp only [List.length_append, List.length_nil]; omega))
 rintro _ h5 ⟨rfl, H5⟩
 refine tV ?_
 apply o_hcall rfl rfl rfl rfl (p44 (e := put) (v4.mono RN.mono hx) hw.words.1 (fun a ha g' _ => p45 (hw.words.2 a ha)) _ h5 H5 (by simp only [List.length_append, List.length_nil]; omega))
 rintro _ h6 ⟨rfl, H6⟩
 refine tV ?_
 apply o_hcall rfl rfl rfl rfl (p43 (e := put) (v5.mono RN.mono hx) hw.rel.1 (fun a ha g' _ => p42 (hw.rel.2 a ha)) _ h6 H6 (by simp only [List.length_append, List.length_nil]; omega))
 rintro _ h7 ⟨rfl, H7⟩
 refine tV ?_
 apply o_hcall rfl rfl rfl rfl (p44 (e := put) (v6.mono RN.mono hx) hw.stat.1 (fun a ha g' _ => p45 (hw.stat.2 a ha)) _ h7 H7 (by simp only [List.length_append, List.length_nil]; omega))
 rintro _ h8 ⟨rfl, H8⟩
 refine tV ?_
 apply o_hcall rfl rfl rfl rfl (p46 (e := eTruth) (v7.mono RB.mono hx) hw.statref (fun a _ g' _ => p47) _ h8 H8 (by simp only [List.length_append, List.length_nil]; omega))
 rintro _ h9 ⟨rfl, H9⟩
 have eb : [] ++ eList eCls m.classes ++ eList eMth m.methods ++ put m.entry ++ put m.need ++ eList put m.given ++ eList put m.words ++ eList put m.rel ++ eList put m.stat ++ eList eTruth m.statref = Img.body m := by
  unfold Img.body
  simp only [List.append_assoc, List.nil_append]
 rw [eb] at H9
 clear H0 H1 H2 H3 H4 H5 H6 H7 H8 eb
 have hs' : (Img.body m).length ≤ 1099511627776 := by
  unfold Img.body
  simp only [List.length_append]
  exact hs
 obtain ⟨v, hv, O⟩ := H9.own
 refine tV ?_
 apply o_ldh rfl rfl hv (fun h => by omega) rfl
 apply o_lenV rfl rfl O.view
 (refine tG ?_; (with_reducible apply o_addN (a := 8) (b := (Img.body m).length)); exact rfl; exact rfl; exact rfl; exact w64 (by omega) (by omega))
 (refine tG ?_; (with_reducible apply o_addN (a := 8 + (Img.body m).length) (b := 4)); exact rfl; exact rfl; exact rfl; exact w64 (by omega) (by omega))
 refine tV ?_
 (refine tG ?_; refine oB fun b hb => ?_; cases b)
 case true =>
  have hsz : 1048576 < size m := by unfold size; simp at hb; omega
  refine tW ?_
  (first | apply hx_ret | apply hx_norm)
  ·exact rfl
  ·exact rfl
  ·rw [killL_nil]
   exact .inr ⟨hsz, rfl, hx.trans H9.ext⟩
  ·exact fun _ => .inl (.inr ⟨hsz, rfl, .refl⟩)
 have hsz : size m ≤ 1048576 := by unfold size; simp at hb; omega
 have hlb : (Img.body m).length ≤ 1048576 := by unfold size at hsz; omega
 with_reducible apply o_nil
 with_reducible apply ssq_norm
 (with_reducible apply s_condF)
 exact rfl
 with_reducible apply s_skip
 with_reducible apply ssq_norm
 with_reducible apply s_seq
 have hS0 : ∀ id ∈ [w], h9 id ≠ none := by
  intro id hid
  simp only [List.mem_cons, List.not_mem_nil, or_false] at hid
  subst hid
  rw [hv]; simp
 apply s_regX [w] [.A, .A, .A, .C, .C, .A, .A, .A, .A, .B, .D, .A] hS0 rfl
 refine x_A (R := fun E' bx' k1 => ∃ i, E' = (71, .sl i 0 4 1) :: _ ∧ bx' = [] ∧ killL [w] h9 i = none ∧ k1 = upd (killL [w] h9) i (some (.cells (ubs Img.head)))) (o_hbs rfl rfl rfl (fun i hi => o_nil ⟨rfl, i, rfl, rfl, hi, rfl⟩)) ?_
 rintro _ _ _ ⟨i, rfl, rfl, hi, rfl⟩ hS1
 have hiw : i ∉ [w] := by
  intro hc
  have := hS1 i hc
  rw [upd_same] at this
  cases this
 rw [join_upd hiw]
 have hi9 : h9 i = none := (kill_out hiw).symm.trans hi
 have hi1 : upd h9 i (some (.cells (ubs Img.head))) i = some (.cells (ubs Img.head)) := upd_same
 have hx1 : Ext h9 (upd h9 i (some (.cells (ubs Img.head)))) := .upd hi9
 generalize upd h9 i (some (.cells (ubs Img.head))) = k1 at hi1 hx1 ⊢
 refine x_A (R := fun E' bx' k2 => E' = (72, .sl i 0 4 1) :: _ ∧ bx' = [] ∧ k2 = killL [w] k1) (o_cvs rfl rfl (by decide) (by rw [kill_out hiw]; exact hi1) (fun h => by omega) rfl (o_nil ⟨rfl, rfl, rfl, rfl⟩)) ?_
 rintro _ _ _ ⟨rfl, rfl, rfl⟩ _
 rw [joinS_kill]
 apply x_v rfl rfl trivial
 apply x_vC (v := .int .u32 ((8 + (Img.body m).length + 4 : Nat) : Int)) rfl rfl (by
  show some (True, AV.int .u32 (IntKind.wrap .u32 ((8 + (Img.body m).length + 4 : Nat) : Int))) = _
  rw [wrap32 (by omega)]) trivial
 apply x_callC rfl rfl rfl (p48 (n := 8 + (Img.body m).length + 4) (by omega))
 intro v4 k4 O4 hn4
 obtain ⟨j, rfl, _, hj, _⟩ := own_pos O4 (Nat.zero_lt_succ 3)
 have hxp : Ext k1 (plus k1 k4) := plus_ext
 have hjp : plus k1 k4 j = some (.cells (ubs (four (8 + (Img.body m).length + 4)))) := by
  unfold plus
  rw [hn4 j (by rw [hj]; simp)]
  exact hj
 have hjw : j ∉ [w] := by
  intro hc
  simp only [List.mem_cons, List.not_mem_nil, or_false] at hc
  subst hc
  have := hn4 j (by rw [hj]; simp)
  rw [hx1 j _ hv] at this
  cases this
 generalize plus k1 k4 = hp at hxp hjp ⊢
 have O5 : OSl (killL [w] h9) 1 (.sl i 0 4 1) (ubs Img.head) 4 (killL [w] hp) := by
  refine ⟨(hx1.trans hxp).killed, .inr ⟨i, rfl, hi, ?_, rfl⟩⟩
  rw [kill_out hiw]
  exact hxp i _ hi1
 refine x_A (R := fun E' bx' k5 => ∃ v5, E' = (76, v5) :: _ ∧ bx' = [] ∧ OSl (killL [w] h9) 1 v5 (ubs Img.head ++ ubs (four (8 + (Img.body m).length + 4))) 8 k5)
  (o_appO (new := ubs (four (8 + (Img.body m).length + 4))) (n := 4) rfl rfl rfl rfl O5 (by simp only [srcOf, if_true, kill_out hjw, hjp]; rfl) rfl rfl (by decide) fun v5 k5 O _ => o_nil ⟨rfl, v5, rfl, rfl, O⟩) ?_
 rintro _ _ k5 ⟨v5, rfl, rfl, O6⟩ hS5
 have O7 : OSl h9 1 v5 (ubs Img.head ++ ubs (four (8 + (Img.body m).length + 4))) 8 (joinS [w] hp k5) := O6.join (hx1.trans hxp) hS5 fun id hid => (kill_out hid).symm
 generalize joinS [w] hp k5 = hq at O7 ⊢
 apply x_v rfl rfl trivial
 apply x_v rfl rfl trivial
 apply x_v rfl rfl trivial
 apply x_ld rfl rfl (O7.ext w _ hv) (by simp) rfl
 refine x_D (R := fun E' bx' k6 => ∃ v6, E' = (81, v6) :: _ ∧ bx' = [] ∧ OSl h9 1 v6 (ubs Img.head ++ ubs (four (8 + (Img.body m).length + 4)) ++ ubs (Img.body m)) (8 + (Img.body m).length) k6)
  (o_appO (new := ubs (Img.body m)) (n := (Img.body m).length) rfl rfl rfl rfl O7 (srcOf_V (O.view.mono O7.ext)) (by simp [ubs]) (by simp [ubs, AV.one]) (by omega) fun v6 k6 O _ => o_nil ⟨rfl, v6, rfl, rfl, O⟩) ?_
 rintro _ _ k6 ⟨v6, rfl, rfl, O8⟩
 refine ⟨fun id hid => ?_, ?_⟩
 ·simp only [List.mem_cons, List.not_mem_nil, or_false] at hid
  subst hid
  rw [O8.ext id _ hv]; simp
 apply x_v rfl rfl trivial
 apply x_nil
 have O9 : OSl h9 1 v6 (ubs (front m)) (front m).length k6 := by
  have e1 : ubs (front m) = ubs Img.head ++ ubs (four (8 + (Img.body m).length + 4)) ++ ubs (Img.body m) := by
   unfold front
   rw [ubs_append, ubs_append, List.append_assoc]
  rw [e1, front_len]
  exact O8
 have hfl : (front m).length ≤ 1048584 := by rw [front_len]; omega
 clear O8 O7 O6 O5
 refine tV ?_
 apply o_hcall rfl rfl rfl rfl (p49 O9.view (by omega)).go
 rintro _ ks ⟨rfl, hxs⟩
 apply o_hcall rfl rfl rfl rfl (p48 (crc_lt (front m)))
 intro v7 kt O10
 obtain ⟨j2, rfl, hj2s, hj2, _⟩ := own_pos O10 (Nat.zero_lt_succ 3)
 refine tV ?_
 apply o_hcall rfl rfl rfl rfl (p50 hj2)
 rintro _ _ ⟨rfl, rfl⟩
 have O11 : OSl h 1 v6 (ubs (front m)) (front m).length (upd kt j2 (some (.cells (ubs (four (crc (front m))).reverse)))) := by
  have hg9 : Ext h h9 := hx.trans H9.ext
  have hns : ∀ id, ks id ≠ none → id ≠ j2 := fun id hid e => hid (by rw [e]; exact hj2s)
  have O12 := (O9.up hxs).weaken hg9
  refine ⟨fun id o e => ?_, ?_⟩
  ·have e2 := O12.ext id o e
   rw [upd_ne (hns id (by rw [e2]; simp))]
   exact O10.ext id o e2
  ·rcases O12.own with h0 | ⟨i, e, g1, g2, g3⟩
   ·exact .inl h0
   ·refine .inr ⟨i, e, g1, ?_, g3⟩
    rw [upd_ne (hns i (by rw [g2]; simp))]
    exact O10.ext i _ g2
 refine tV ?_
 apply o_appO (new := ubs (four (crc (front m))).reverse) (n := 4) rfl rfl rfl rfl O11 (by simp only [srcOf, if_true, upd_same]; rfl) rfl rfl (by omega)
 intro v8 k8 O13 _
 have O14 : OSl h 1 v8 (ubs (encode m)) (encode m).length k8 := by
  have e1 : encode m = front m ++ (four (crc (front m))).reverse := rfl
  rw [e1, ubs_append, List.length_append]
  exact O13
 refine tW ?_
 (first | apply hx_ret | apply hx_norm)
 ·exact rfl
 ·exact rfl
 ·rw [killL_nil]
  exact .inl ⟨hsz, O14⟩
 ·intro ht
  have := notree O14 (by rw [encode_len]; unfold size; omega)
  rw [show tupled [v8] = v8 from rfl, this] at ht
  cases ht
end Go.Proofs
