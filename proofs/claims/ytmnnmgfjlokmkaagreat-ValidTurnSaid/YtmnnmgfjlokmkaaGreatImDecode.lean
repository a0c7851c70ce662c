import Derived.Test.YtmnnmgfjlokmkaaGreatAbsTac
import Derived.Test.YtmnnmgfjlokmkaaGreatImReadC
import Derived.Test.YtmnnmgfjlokmkaaGreatImEncode
open Go Go.Abs Go.Proofs.SlimCode Go.Img
set_option maxRecDepth 100000
namespace Go.Proofs
theorem p61 {h : Heap} {v1 v2 : AV} {a b : B} {n m : Nat} (h1 : VSl h 1 v1 (ubs a) n) (h2 : VSl h 1 v2 (ubs b) m) : Looks Tryz.prog ann 61 [v1, v2] h (.bool (decide (a = b))) := by
 refine s_look_of rfl Tryz.func61 (frc (by with_unfolding_all rfl)) rfl ?_
 refine tV ?_
 apply o_b2sV rfl rfl h1 (fun h => by omega)
 refine tV ?_
 apply o_b2sV rfl rfl h2 (fun h => by omega)
 apply o_as (w := .bool (decide (a = b))) rfl rfl trivial (by
  by_cases e : a = b
  ·subst e
   simp
  ·simp [e])
 refine tW ?_
 (first | apply lret_ret | apply lret_norm)
 ·exact rfl
 ·exact rfl
 ·exact rfl
 ·exact .refl
 ·simp
theorem fill_v {E : Lk} {x : SX} {cs : List AV} {o : Nat} {r : List (Nat × Nat × SX)} {v : AV} (hx : ev E x = some v) (h1 : v.one = true) : fillS E cs ((o, 1, x) :: r) = match setL cs o v with
  | some cs => fillS E cs r
  | none => none := by
 simp only [fillS, hx]
 cases v <;> first | rfl | cases h1
def noImage : Image := ⟨[], [], 0, 0, [], [], [], [], []⟩
theorem noImage_R {h : Heap} : RImg h [.nil .sl, .nil .sl, I 0, I 0, .nil .sl, .nil .sl, .nil .sl, .nil .sl, .nil .sl] noImage := ⟨_, _, _, _, _, _, _, rfl, .nil, .nil, .nil, .nil, .nil, .nil, .nil⟩
theorem noImage_WF : noImage.WF := by
 have l : ∀ {α : Type}, Len ([] : List α) := Nat.zero_le _
 exact ⟨⟨l, fun _ h => nomatch h⟩, ⟨l, fun _ h => nomatch h⟩, (by decide : -9223372036854775808 ≤ (0 : Int) ∧ (0 : Int) ≤ 9223372036854775807), (by decide : -9223372036854775808 ≤ (0 : Int) ∧ (0 : Int) ≤ 9223372036854775807), ⟨l, fun _ h => nomatch h⟩, ⟨l, fun _ h => nomatch h⟩, ⟨l, fun _ h => nomatch h⟩, ⟨l, fun _ h => nomatch h⟩, l⟩
theorem pImage_out {bs bs' : B} {m : Image} {K c : Nat} {t : Bool} (H : Out pImage K bs m c bs' false t) : (t = true ∧ pImage bs = none) ∨ (t = false ∧ ∃ r, pImage bs = some (m, r)) := by
 cases H with
 | ok h _ _ => exact .inr ⟨rfl, _, h⟩
 | bad _ h _ _ => exact .inl ⟨rfl, h rfl⟩
theorem ext_set {h k : Heap} {b : Nat} {X : Option AObj} (hx : Ext h k) (hb : h b = none) : Ext h (upd k b X) := fun id o e => by
 rw [upd_ne (fun hc => by rw [hc, hb] at e; cases e)]
 exact hx id o e
def DecQ (bs : B) (h : Heap) : AV → Heap → Prop := fun r h' => Ext h h' ∧ ∃ c e m, r = .tup [.agg c, I e] ∧ RImg h' c m ∧ m.WF ∧ ((e = 0 ∧ Img.decode bs = some m) ∨ (e = 6 ∧ Img.decode bs = none ∧ m = noImage))
theorem p17 {h : Heap} {v : AV} {bs : B} (hv : VSl h 1 v (ubs bs) bs.length) (hl : bs.length ≤ 9223372036854775807) : HCallC Tryz.prog ann 17 [v] h (DecQ bs h) := by
 refine s_call_Y rfl rfl Tryz.func17 (frc (by with_unfolding_all rfl)) rfl ?_
 refine tS ?_
 apply o_alc rfl
 intro b2 hb2
 have hxb : Ext h (upd h b2 (some (.cells [.nil .sl, .nil .sl, I 0, I 0, .nil .sl, .nil .sl, .nil .sl, .nil .sl, .nil .sl]))) := .upd hb2
 have e2 : upd h b2 (some (.cells [.nil .sl, .nil .sl, I 0, I 0, .nil .sl, .nil .sl, .nil .sl, .nil .sl, .nil .sl])) b2 = some (.cells [.nil .sl, .nil .sl, I 0, I 0, .nil .sl, .nil .sl, .nil .sl, .nil .sl, .nil .sl]) := upd_same
 show SOps _ _ _ _ _ _ _ _ [b2] (upd h b2 (some (.cells [.nil .sl, .nil .sl, I 0, I 0, .nil .sl, .nil .sl, .nil .sl, .nil .sl, .nil .sl]))) _
 generalize upd h b2 (some (.cells [.nil .sl, .nil .sl, I 0, I 0, .nil .sl, .nil .sl, .nil .sl, .nil .sl, .nil .sl])) = k0 at hxb e2 ⊢
 have bad : ∀ (k : Heap) (bx : List Nat) (X : Option AObj), Ext h k → (∀ b ∈ bx, h b = none) → Img.decode bs = none → DecQ bs h (tupled [.agg [.nil .sl, .nil .sl, I 0, I 0, .nil .sl, .nil .sl, .nil .sl, .nil .sl, .nil .sl], I 6]) (killL bx (upd k b2 X)) := fun k bx X hx hbx hd => ⟨(ext_set hx hb2).kill hbx, _, 6, noImage, rfl, noImage_R, noImage_WF, .inr ⟨rfl, hd, rfl⟩⟩
 have hbx1 : ∀ b ∈ [b2], h b = none := fun b hb => by rw [List.mem_singleton.1 hb]; exact hb2
 have hv0 := hv.mono hxb
 refine tV ?_
 apply o_lenV rfl rfl hv0
 (refine tG ?_; refine oB fun b1 h1 => ?_)
 by_cases h12 : bs.length < 12
 ·have hd : Img.decode bs = none := by unfold Img.decode; rw [if_pos (.inl h12)]
  have e1 : b1 = true := by rw [h1]; exact decide_eq_true (by omega)
  subst e1
  refine tW ?_
  apply o_st (v := .agg [.nil .sl, .nil .sl, I 0, I 0, .nil .sl, .nil .sl, .nil .sl, .nil .sl, .nil .sl]) (cs' := [.nil .sl, .nil .sl, I 0, I 0, .nil .sl, .nil .sl, .nil .sl, .nil .sl, .nil .sl]) rfl rfl rfl rfl rfl rfl e2 rfl
  refine tW ?_
  exact hY_ret (vs := [.agg [.nil .sl, .nil .sl, I 0, I 0, .nil .sl, .nil .sl, .nil .sl, .nil .sl, .nil .sl], I 6]) (.cells (m := 9) rfl (by kernel_rfl) upd_same rfl (.tmp rfl .nil)) rfl (bad _ _ _ hxb hbx1 hd)
 have e1 : b1 = false := by rw [h1]; exact decide_eq_false (by omega)
 subst e1
 refine tW ?_
 apply o_lenV rfl rfl hv0
 (with_reducible apply o_guardT)
 exact rfl
 exact rfl
 (with_reducible apply o_bool)
 exact rfl
 exact rfl
 exact trivial
 intro b2' h2
 by_cases h20 : 1048576 < bs.length
 ·have hd : Img.decode bs = none := by unfold Img.decode; rw [if_pos (.inr h20)]
  have e1 : b2' = true := by rw [h2]; exact decide_eq_true (by omega)
  subst e1
  refine tW ?_
  apply o_st (v := .agg [.nil .sl, .nil .sl, I 0, I 0, .nil .sl, .nil .sl, .nil .sl, .nil .sl, .nil .sl]) (cs' := [.nil .sl, .nil .sl, I 0, I 0, .nil .sl, .nil .sl, .nil .sl, .nil .sl, .nil .sl]) rfl rfl rfl rfl rfl rfl e2 rfl
  refine tW ?_
  exact hY_ret (vs := [.agg [.nil .sl, .nil .sl, I 0, I 0, .nil .sl, .nil .sl, .nil .sl, .nil .sl, .nil .sl], I 6]) (.cells (m := 9) rfl (by kernel_rfl) upd_same rfl (.tmp rfl .nil)) rfl (bad _ _ _ hxb hbx1 hd)
 have e1 : b2' = false := by rw [h2]; exact decide_eq_false (by omega)
 subst e1
 refine tW ?_
 apply o_lenV rfl rfl hv0
 (refine tG ?_; (with_reducible apply o_subN (a := bs.length) (b := 4)); exact rfl; exact rfl; exact rfl; (omega); exact w64 (by omega) (by omega))
 apply o_sltW (l := 8) (m := ((bs.length - 4 : Nat) : Int)) rfl rfl hv rfl rfl (by omega) (by omega) (by omega)
 intro u hu
 have hin : (inner bs).length = bs.length - 4 - 8 := by unfold inner; rw [List.length_drop, List.length_take]; omega
 have ein : ((ubs bs).take (((bs.length - 4 : Nat) : Int).toNat * 1)).drop ((8 : Int).toNat * 1) = ubs (inner bs) := by
  simp only [Int.toNat_natCast, Nat.mul_one]
  unfold ubs inner
  rw [← List.map_take, ← List.map_drop]
  rfl
 rw [ein, Int.toNat_natCast, show (8 : Int).toNat = 8 from rfl, ← hin] at hu
 apply o_val (v := .agg [u, .bool false]) rfl (by simp only [sv]; rw [fill_v rfl hu.one]; rfl) trivial
 apply o_hbox (v := .agg [u, .bool false]) rfl rfl (by show (u.one && (true && true)) = true; rw [hu.one]; rfl)
 intro w hw
 have hhw : h w = none := by
  cases e : h w with
  | none => rfl
  | some o => rw [hxb w o e] at hw; cases hw
 have hne : b2 ≠ w := fun hc => by rw [← hc, e2] at hw; cases hw
 have H0 : Rd h w (inner bs) false (upd k0 w (some (.cells [u, .bool false]))) := ⟨hxb.trans (.upd hw), hhw, u, upd_same, hu⟩
 replace e2 : upd k0 w (some (.cells [u, .bool false])) b2 = _ := (upd_ne hne).trans e2
 show SOps _ _ _ _ _ _ _ _ [w, b2] (upd k0 w (some (.cells [u, .bool false]))) _
 generalize upd k0 w (some (.cells [u, .bool false])) = k1 at H0 e2 ⊢
 have C := Ch.start H0
 refine tV ?_
 apply o_hcall rfl rfl rfl rfl (p51 _ _ _ _ (by omega) C.rd)
 rintro v0 k2 ⟨G0, a0, bs0, t0, R0⟩
 obtain ⟨hs0, hn0, ha0⟩ := R0.val
 replace C := C.call R0 (by simp)
 have hl0 := R0.out.len
 refine tV ?_
 apply o_hcall rfl rfl rfl rfl (p53 _ _ _ _ (by omega) C.rd)
 rintro v1 k3 ⟨G1, a1, bs1, t1, R1⟩
 obtain ⟨hs1, hn1, ha1⟩ := R1.val
 replace C := C.call R1 (by simp)
 have hl1 := R1.out.len
 refine tV ?_
 apply o_hcall rfl rfl rfl rfl (p55 _ _ _ _ (by omega) C.rd)
 rintro _ k4 ⟨G2, a2, bs2, t2, R2⟩
 obtain ⟨rfl, ha2⟩ := R2.val
 replace C := C.call R2 (by simp)
 have hl2 := R2.out.len
 refine tV ?_
 apply o_hcall rfl rfl rfl rfl (p55 _ _ _ _ (by omega) C.rd)
 rintro _ k5 ⟨G3, a3, bs3, t3, R3⟩
 obtain ⟨rfl, ha3⟩ := R3.val
 replace C := C.call R3 (by simp)
 have hl3 := R3.out.len
 apply o_val (v := .agg [v0, v1, I a2, I a3, .nil .sl, .nil .sl, .nil .sl, .nil .sl, .nil .sl]) rfl (by simp only [sv]; rw [fill_v rfl hs0.one]; simp only [setL]; rw [fill_v rfl hs1.one]; rfl) trivial
 apply o_alc rfl
 intro b5 hb5
 apply o_st (v := .agg [v0, v1, I a2, I a3, .nil .sl, .nil .sl, .nil .sl, .nil .sl, .nil .sl]) (cs' := [v0, v1, I a2, I a3, .nil .sl, .nil .sl, .nil .sl, .nil .sl, .nil .sl]) rfl rfl rfl rfl rfl (by simp only [AV.cells, List.all_cons, hs0.one, hs1.one]; rfl) upd_same rfl
 rw [upd_upd]
 replace C := C.box (o := .cells [v0, v1, I a2, I a3, .nil .sl, .nil .sl, .nil .sl, .nil .sl, .nil .sl]) hb5
 have e5 : upd k5 b5 (some (.cells [v0, v1, I a2, I a3, .nil .sl, .nil .sl, .nil .sl, .nil .sl, .nil .sl])) b5 = some (.cells [v0, v1, I a2, I a3, .nil .sl, .nil .sl, .nil .sl, .nil .sl, .nil .sl]) := upd_same
 show SOps _ _ _ _ _ _ _ _ [b5, w, b2] (upd k5 b5 (some (.cells [v0, v1, I a2, I a3, .nil .sl, .nil .sl, .nil .sl, .nil .sl, .nil .sl]))) _
 generalize upd k5 b5 (some (.cells [v0, v1, I a2, I a3, .nil .sl, .nil .sl, .nil .sl, .nil .sl, .nil .sl])) = kk at C e5 ⊢
 refine tV ?_
 apply o_hcall rfl rfl rfl rfl (p56 _ _ _ _ (by omega) C.rd)
 rintro v4 k6 ⟨G4, a4, bs4, t4, R4⟩
 obtain ⟨hs4, hn4, ha4⟩ := R4.val
 have C' := C.call R4 (one_box e5)
 replace e5 := C.keep R4 (.head _) e5
 replace C := C'
 have hl4 := R4.out.len
 refine tV ?_
 apply o_hcall rfl rfl rfl rfl (p57 _ _ _ _ (by omega) C.rd)
 rintro v5 k7 ⟨G5, a5, bs5, t5, R5⟩
 obtain ⟨hs5, hn5, ha5⟩ := R5.val
 have C' := C.call R5 (one_box e5)
 replace e5 := C.keep R5 (.head _) e5
 replace C := C'
 have hl5 := R5.out.len
 refine tV ?_
 apply o_hcall rfl rfl rfl rfl (p56 _ _ _ _ (by omega) C.rd)
 rintro v6 k8 ⟨G6, a6, bs6, t6, R6⟩
 obtain ⟨hs6, hn6, ha6⟩ := R6.val
 have C' := C.call R6 (one_box e5)
 replace e5 := C.keep R6 (.head _) e5
 replace C := C'
 have hl6 := R6.out.len
 refine tV ?_
 apply o_st1 rfl rfl rfl rfl hs4.one e5 (show 4 < 9 by decide)
 replace C := C.set (o := .cells [v0, v1, I a2, I a3, v4, .nil .sl, .nil .sl, .nil .sl, .nil .sl]) (.head _)
 replace e5 : upd k8 b5 (some (.cells [v0, v1, I a2, I a3, v4, .nil .sl, .nil .sl, .nil .sl, .nil .sl])) b5 = some (.cells [v0, v1, I a2, I a3, v4, .nil .sl, .nil .sl, .nil .sl, .nil .sl]) := upd_same
 show SOps _ _ _ _ _ _ _ _ [b5, w, b2] (upd k8 b5 (some (.cells [v0, v1, I a2, I a3, v4, .nil .sl, .nil .sl, .nil .sl, .nil .sl]))) _
 generalize upd k8 b5 (some (.cells [v0, v1, I a2, I a3, v4, .nil .sl, .nil .sl, .nil .sl, .nil .sl])) = m1 at C e5 ⊢
 refine tV ?_
 apply o_st1 rfl rfl rfl rfl hs5.one e5 (show 5 < 9 by decide)
 replace C := C.set (o := .cells [v0, v1, I a2, I a3, v4, v5, .nil .sl, .nil .sl, .nil .sl]) (.head _)
 replace e5 : upd m1 b5 (some (.cells [v0, v1, I a2, I a3, v4, v5, .nil .sl, .nil .sl, .nil .sl])) b5 = some (.cells [v0, v1, I a2, I a3, v4, v5, .nil .sl, .nil .sl, .nil .sl]) := upd_same
 show SOps _ _ _ _ _ _ _ _ [b5, w, b2] (upd m1 b5 (some (.cells [v0, v1, I a2, I a3, v4, v5, .nil .sl, .nil .sl, .nil .sl]))) _
 generalize upd m1 b5 (some (.cells [v0, v1, I a2, I a3, v4, v5, .nil .sl, .nil .sl, .nil .sl])) = m2 at C e5 ⊢
 refine tV ?_
 apply o_st1 rfl rfl rfl rfl hs6.one e5 (show 6 < 9 by decide)
 replace C := C.set (o := .cells [v0, v1, I a2, I a3, v4, v5, v6, .nil .sl, .nil .sl]) (.head _)
 replace e5 : upd m2 b5 (some (.cells [v0, v1, I a2, I a3, v4, v5, v6, .nil .sl, .nil .sl])) b5 = some (.cells [v0, v1, I a2, I a3, v4, v5, v6, .nil .sl, .nil .sl]) := upd_same
 show SOps _ _ _ _ _ _ _ _ [b5, w, b2] (upd m2 b5 (some (.cells [v0, v1, I a2, I a3, v4, v5, v6, .nil .sl, .nil .sl]))) _
 generalize upd m2 b5 (some (.cells [v0, v1, I a2, I a3, v4, v5, v6, .nil .sl, .nil .sl])) = m3 at C e5 ⊢
 refine tV ?_
 apply o_hcall rfl rfl rfl rfl (p57 _ _ _ _ (by omega) C.rd)
 rintro v7 k9 ⟨G7, a7, bs7, t7, R7⟩
 obtain ⟨hs7, hn7, ha7⟩ := R7.val
 have C' := C.call R7 (one_box e5)
 replace e5 := C.keep R7 (.head _) e5
 replace C := C'
 have hl7 := R7.out.len
 refine tV ?_
 apply o_hcall rfl rfl rfl rfl (p59 _ _ _ _ (by omega) C.rd)
 rintro v8 k10 ⟨G8, a8, bs8, t8, R8⟩
 obtain ⟨hs8, hn8, ha8⟩ := R8.val
 have C' := C.call R8 (one_box e5)
 replace e5 := C.keep R8 (.head _) e5
 replace C := C'
 have hl8 := R8.out.len
 refine tV ?_
 apply o_st1 rfl rfl rfl rfl hs7.one e5 (show 7 < 9 by decide)
 replace C := C.set (o := .cells [v0, v1, I a2, I a3, v4, v5, v6, v7, .nil .sl]) (.head _)
 replace e5 : upd k10 b5 (some (.cells [v0, v1, I a2, I a3, v4, v5, v6, v7, .nil .sl])) b5 = some (.cells [v0, v1, I a2, I a3, v4, v5, v6, v7, .nil .sl]) := upd_same
 show SOps _ _ _ _ _ _ _ _ [b5, w, b2] (upd k10 b5 (some (.cells [v0, v1, I a2, I a3, v4, v5, v6, v7, .nil .sl]))) _
 generalize upd k10 b5 (some (.cells [v0, v1, I a2, I a3, v4, v5, v6, v7, .nil .sl])) = m4 at C e5 ⊢
 refine tV ?_
 apply o_st1 rfl rfl rfl rfl hs8.one e5 (show 8 < 9 by decide)
 replace C := C.set (o := .cells [v0, v1, I a2, I a3, v4, v5, v6, v7, v8]) (.head _)
 replace e5 : upd m4 b5 (some (.cells [v0, v1, I a2, I a3, v4, v5, v6, v7, v8])) b5 = some (.cells [v0, v1, I a2, I a3, v4, v5, v6, v7, v8]) := upd_same
 show SOps _ _ _ _ _ _ _ _ [b5, w, b2] (upd m4 b5 (some (.cells [v0, v1, I a2, I a3, v4, v5, v6, v7, v8]))) _
 generalize upd m4 b5 (some (.cells [v0, v1, I a2, I a3, v4, v5, v6, v7, v8])) = m5 at C e5 ⊢
 have hR : RImg G8 [v0, v1, I a2, I a3, v4, v5, v6, v7, v8] (⟨a0, a1, a2, a3, a4, a5, a6, a7, a8⟩ : Image) := ⟨v0, v1, v4, v5, v6, v7, v8, rfl, hs0.mono RCls.mono (R1.ext.trans (R2.ext.trans (R3.ext.trans (R4.ext.trans (R5.ext.trans (R6.ext.trans (R7.ext.trans (R8.ext)))))))), hs1.mono RMth.mono (R2.ext.trans (R3.ext.trans (R4.ext.trans (R5.ext.trans (R6.ext.trans (R7.ext.trans (R8.ext))))))), hs4.mono RN.mono (R5.ext.trans (R6.ext.trans (R7.ext.trans (R8.ext)))), hs5.mono RN.mono (R6.ext.trans (R7.ext.trans (R8.ext))), hs6.mono RN.mono (R7.ext.trans (R8.ext)), hs7.mono RN.mono (R8.ext), hs8⟩
 have hW : Image.WF (⟨a0, a1, a2, a3, a4, a5, a6, a7, a8⟩ : Image) := ⟨⟨Nat.le_trans hn0 (by decide), ha0⟩, ⟨Nat.le_trans hn1 (by decide), ha1⟩, ha2, ha3, ⟨Nat.le_trans hn4 (by decide), ha4⟩, ⟨Nat.le_trans hn5 (by decide), ha5⟩, ⟨Nat.le_trans hn6 (by decide), ha6⟩, ⟨Nat.le_trans hn7 (by decide), ha7⟩, Nat.le_trans hn8 (by decide)⟩
 have O : Out pImage 430 (inner bs) (⟨a0, a1, a2, a3, a4, a5, a6, a7, a8⟩ : Image) (Img.body (⟨a0, a1, a2, a3, a4, a5, a6, a7, a8⟩ : Image)).length bs8 false t8 := (R0.out.bind (R1.out.bind (R2.out.bind (R3.out.bind (R4.out.bind (R5.out.bind (R6.out.bind (R7.out.bind (R8.out.map (f := fun x => (⟨a0, a1, a2, a3, a4, a5, a6, a7, x⟩ : Image))))))))))).as (by simp only [Img.body, List.length_append]) (by omega)
 have hcost := O.cost
 have hpo := pImage_out O
 generalize (⟨a0, a1, a2, a3, a4, a5, a6, a7, a8⟩ : Image) = m at hR hW hcost hpo
 clear hs0 hs1 hs4 hs5 hs6 hs7 hs8 O
 have hsz : (Img.body m).length ≤ 1099511627776 := by omega
 refine tV ?_
 apply o_ldhn (l := [v0, v1, I a2, I a3, v4, v5, v6, v7, v8]) rfl rfl e5 (fun h => by omega) rfl
 apply o_hcall rfl rfl rfl rfl (p16 (RImg.mono _ _ _ _ C.rd.ext hR) hW hsz)
 intro cv k9 hc
 have hx9 : Ext m5 k9 := by
  rcases hc with ⟨_, O⟩ | ⟨_, _, hx⟩
  ·exact O.ext
  ·exact hx
 have e2' := hx9 _ _ (C.frame b2 _ hne e2)
 have e5' := hx9 _ _ e5
 obtain ⟨u', hu1, hu2⟩ := C.rd.st
 have hw9 := hx9 _ _ hu1
 have hb5w := (C.bxs b5 (.head _)).2.2
 have hb5h : h b5 = none := by
  have hg := (C.bxs b5 (.head _)).2.1
  cases e : h b5 with
  | none => rfl
  | some o => rw [C.ext b5 o e] at hg; cases hg
 have hbx3 : ∀ b ∈ [b5, w, b2], h b = none := fun b hb => by
  simp only [List.mem_cons, List.not_mem_nil, or_false] at hb
  rcases hb with rfl | rfl | rfl
  ·exact hb5h
  ·exact hhw
  ·exact hb2
 have hGx : Ext G8 k9 := C.rd.ext.trans hx9
 have hh9 : Ext h k9 := C.ext.trans hGx
 have hdec : Img.decode bs = match pImage (inner bs) with
  | some (m, _) => if size m ≤ 1048576 ∧ encode m = bs then some m else none
  | none => none := by
  unfold Img.decode
  rw [if_neg (by omega)]
  rfl
 refine tV ?_
 apply o_ldh rfl rfl hw9 (fun h => by omega) rfl
 rcases hpo with ⟨rfl, hp⟩ | ⟨rfl, r, hp⟩
 ·have hd : Img.decode bs = none := by rw [hdec, hp]
  refine tW ?_
  apply o_st (v := .agg [.nil .sl, .nil .sl, I 0, I 0, .nil .sl, .nil .sl, .nil .sl, .nil .sl, .nil .sl]) (cs' := [.nil .sl, .nil .sl, I 0, I 0, .nil .sl, .nil .sl, .nil .sl, .nil .sl, .nil .sl]) rfl rfl rfl rfl rfl rfl e2' rfl
  refine tW ?_
  exact hY_ret (vs := [.agg [.nil .sl, .nil .sl, I 0, I 0, .nil .sl, .nil .sl, .nil .sl, .nil .sl, .nil .sl], I 6]) (.cells (m := 9) rfl (by kernel_rfl) upd_same rfl (.tmp rfl .nil)) rfl (bad _ _ _ hh9 hbx3 hd)
 rcases hc with ⟨hsm, O⟩ | ⟨hsm, rfl, _⟩
 rotate_left
 ·have hd : Img.decode bs = none := by rw [hdec, hp]; simp only; rw [if_neg (by omega)]
  refine tW ?_
  apply o_st (v := .agg [.nil .sl, .nil .sl, I 0, I 0, .nil .sl, .nil .sl, .nil .sl, .nil .sl, .nil .sl]) (cs' := [.nil .sl, .nil .sl, I 0, I 0, .nil .sl, .nil .sl, .nil .sl, .nil .sl, .nil .sl]) rfl rfl rfl rfl rfl rfl e2' rfl
  refine tW ?_
  exact hY_ret (vs := [.agg [.nil .sl, .nil .sl, I 0, I 0, .nil .sl, .nil .sl, .nil .sl, .nil .sl, .nil .sl], I 6]) (.cells (m := 9) rfl (by kernel_rfl) upd_same rfl (.tmp rfl .nil)) rfl (bad _ _ _ hh9 hbx3 hd)
 obtain ⟨i, rfl, _, hi, hil⟩ := own_pos O (by rw [encode_len]; unfold size; omega)
 refine tW ?_
 apply o_hcall rfl rfl rfl rfl (p61 O.view (hv.mono hh9)).go
 rintro _ k10 ⟨rfl, hx10⟩
 have e2q := hx10 _ _ e2'
 have e5q := hx10 _ _ e5'
 by_cases heq : encode m = bs
 ·have hd : Img.decode bs = some m := by rw [hdec, hp]; simp only; rw [if_pos ⟨hsm, heq⟩]
  have ed : decide (encode m = bs) = true := decide_eq_true heq
  rw [ed]
  refine tw ?_
  apply o_val rfl rfl trivial
  refine tW ?_
  apply o_ldhn (l := [v0, v1, I a2, I a3, v4, v5, v6, v7, v8]) rfl rfl e5q (fun h => by omega) rfl
  apply o_st (v := .agg [v0, v1, I a2, I a3, v4, v5, v6, v7, v8]) (cs' := [v0, v1, I a2, I a3, v4, v5, v6, v7, v8]) rfl rfl rfl rfl rfl hR.one e2q rfl
  refine tW ?_
  refine hY_ret (vs := [.agg [v0, v1, I a2, I a3, v4, v5, v6, v7, v8], I 0]) (.cells (m := 9) rfl (by kernel_rfl) upd_same rfl (.tmp rfl .nil)) rfl ⟨(ext_set (hh9.trans hx10) hb2).kill hbx3, _, 0, m, rfl, RImg.mono _ _ _ _ ?_ hR, hW, .inl ⟨rfl, hd⟩⟩
  refine (ext_set (hGx.trans hx10) (C.new b2 (by rw [e2]; simp) hb2)).kill fun b hb => ?_
  simp only [List.mem_cons, List.not_mem_nil, or_false] at hb
  rcases hb with rfl | rfl | rfl
  ·exact (C.bxs _ (.head _)).2.1
  ·exact C.rd.fresh
  ·exact C.new _ (by rw [e2]; simp) hb2
 ·have hd : Img.decode bs = none := by rw [hdec, hp]; simp only; rw [if_neg (fun h => heq h.2)]
  have ed : decide (encode m = bs) = false := decide_eq_false heq
  rw [ed]
  refine tw ?_
  apply o_val rfl rfl trivial
  refine tW ?_
  apply o_st (v := .agg [.nil .sl, .nil .sl, I 0, I 0, .nil .sl, .nil .sl, .nil .sl, .nil .sl, .nil .sl]) (cs' := [.nil .sl, .nil .sl, I 0, I 0, .nil .sl, .nil .sl, .nil .sl, .nil .sl, .nil .sl]) rfl rfl rfl rfl rfl rfl e2q rfl
  refine tW ?_
  exact hY_ret (vs := [.agg [.nil .sl, .nil .sl, I 0, I 0, .nil .sl, .nil .sl, .nil .sl, .nil .sl, .nil .sl], I 6]) (.cells (m := 9) rfl (by kernel_rfl) upd_same rfl (.tmp rfl .nil)) rfl (bad _ _ _ (hh9.trans hx10) hbx3 hd)
end Go.Proofs
