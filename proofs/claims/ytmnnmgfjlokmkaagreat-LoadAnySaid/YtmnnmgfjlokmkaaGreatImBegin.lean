import Derived.Test.YtmnnmgfjlokmkaaGreatAbsTac
import Derived.Test.YtmnnmgfjlokmkaaGreatImAcc
import Derived.Test.YtmnnmgfjlokmkaaGreatImSmall
section
open Go Go.Abs Go.Proofs.SlimCode Go.Img
set_option maxRecDepth 100000
namespace Go.Proofs
def Z9 : List AV := [.nil .sl, .nil .sl, .int .i64 0, .int .i64 0, .nil .sl, .nil .sl, .nil .sl, .nil .sl, .nil .sl]
def O9 (xc xm : AV) (e n : Int) (xg xw xr xs xf : AV) : List AV := [xc, xm, I e, I n, xg, xw, xr, xs, xf]
theorem p15 {h : Heap} {c : List AV} {m : Image} (hc : RImg h c m) (hw : m.Wide) :
  HCallC Tryz.prog ann 15 [.agg c] h fun v h' => Ext h h' ∧ ∃ c' m', v = .agg c' ∧ RImg h' c' m' ∧ m'.WF ∧ Image.Small m' := by
 have hone := hc.one
 obtain ⟨vc, vm, vg, vw, vr, vs, vf, rfl, v1, v2, v3, v4, v5, v6, v7⟩ := hc
 refine s_call_R rfl Tryz.func15 (frc (by with_unfolding_all rfl)) rfl ?_
 refine tS ?_
 apply o_val rfl rfl hone
 apply o_alc rfl
 intro b2 hb2
 refine tV ?_
 refine tw ?_
 apply o_alc rfl
 intro b3 hb3'
 obtain ⟨h32, hb3⟩ := upd_none hb3'
 apply o_st (v := .agg (O9 (.nil .sl) (.nil .sl) m.entry m.need (.nil .sl) (.nil .sl) (.nil .sl) (.nil .sl) (.nil .sl))) rfl rfl rfl rfl rfl rfl upd_same rfl
 rw [upd_upd]
 have A0 : Acc RCls 10 h h (upd (upd h b2 (some (.cells Z9))) b3 (some (.cells (O9 (.nil .sl) (.nil .sl) m.entry m.need (.nil .sl) (.nil .sl) (.nil .sl) (.nil .sl) (.nil .sl))))) [b3, b2] (.nil .sl) [] := by
  refine Acc.start .refl ((Ext.upd hb2).trans (.upd hb3')) fun b hb => ?_
  simp only [List.mem_cons, List.not_mem_nil, or_false] at hb
  rcases hb with rfl | rfl
  ·exact ⟨hb3, by rw [upd_same]; simp⟩
  ·exact ⟨hb2, by rw [upd_ne h32.symm, upd_same]; simp⟩
 with_reducible apply o_nil
 with_reducible apply ssq_norm
 refine s_joinB (σ := List Nat × Heap × AV × List Cls) (fun _ => [(1, .tptr [vc, vm, I m.entry, I m.need, vg, vw, vr, vs, vf] 0), (2, .ptr b2 0), (3, .ptr b3 0)]) (fun s => s.1)
  (fun s h' => Acc RCls 10 h s.2.1 h' s.1 s.2.2.1 s.2.2.2 ∧ b2 ∈ s.1 ∧ b3 ∈ s.1 ∧ h' b2 = some (.cells Z9) ∧ h' b3 = some (.cells (O9 s.2.2.1 (.nil .sl) m.entry m.need (.nil .sl) (.nil .sl) (.nil .sl) (.nil .sl) (.nil .sl))) ∧ s.2.2.2.length ≤ 20 ∧ ∀ x ∈ s.2.2.2, x.WF ∧ Cls.Small x) ?_ ?_
 ·refine tV ?_
  refine s_loopB (fun s : Nat × List Nat × Heap × AV × List Cls => [(1, .tptr [vc, vm, I m.entry, I m.need, vg, vw, vr, vs, vf] 0), (2, .ptr b2 0), (3, .ptr b3 0), (4, .int .i64 (s.1 : Int))]) (fun s => s.2.1)
   (fun s h' => s.1 ≤ m.classes.length ∧ s.1 ≤ 20 ∧ s.2.2.2.2.length = s.1 ∧ Acc RCls 10 h s.2.2.1 h' s.2.1 s.2.2.2.1 s.2.2.2.2 ∧ b2 ∈ s.2.1 ∧ b3 ∈ s.2.1 ∧ h' b2 = some (.cells Z9) ∧ h' b3 = some (.cells (O9 s.2.2.2.1 (.nil .sl) m.entry m.need (.nil .sl) (.nil .sl) (.nil .sl) (.nil .sl) (.nil .sl))) ∧ ∀ x ∈ s.2.2.2.2, x.WF ∧ Cls.Small x)
   (fun s => 20 - s.1) (0, [b3, b2], h, .nil .sl, []) tU rfl
   ⟨Nat.zero_le _, Nat.zero_le _, rfl, A0, by simp, by simp, by rw [upd_ne h32.symm, upd_same]; rfl, upd_same, by simp⟩ ?_
  rintro ⟨k, bx, G, xc, out⟩ h1' ⟨hk, hk2, hol, A1, mb2, mb3, hb2v, hb3v, hsm⟩
  simp only at hk hk2 hol A1 mb2 mb3 hb2v hb3v hsm ⊢
  refine tV ?_
  apply o_lenG rfl rfl (A1.hG.trans A1.Gh) v1
  (refine tG ?_; refine oB fun b1 h1 => ?_; cases b1)
  case false =>
   refine tW ?_
   refine ⟨(bx, G, xc, out), tU, rfl, A1, mb2, mb3, hb2v, hb3v, (by rw [hol]; exact hk2), hsm⟩
  refine tV ?_
  (refine tG ?_; refine oB fun b2 h2 => ?_; cases b2)
  case false =>
   refine tW ?_
   refine ⟨(bx, G, xc, out), tU, rfl, A1, mb2, mb3, hb2v, hb3v, (by rw [hol]; exact hk2), hsm⟩
  have hkl : k < m.classes.length := by simpa using h1
  have hk20 : k < 20 := by simp at h2; omega
  have hcw := hw.classes.2 _ (List.getElem_mem hkl)
  refine tV ?_
  apply o_iaG rfl rfl rfl (A1.hG.trans A1.Gh) v1 hkl
  intro p c hpc hc hcl
  apply o_ldVn rfl rfl hpc hcl (fun h => by omega)
  apply o_alc rfl
  intro b5 hb5
  apply o_st (v := .agg c) rfl rfl rfl rfl hcl (RCls.one hc) upd_same (splice_full (show c.length = _ by rw [hcl]; rfl))
  rw [upd_upd, show (AV.agg c).cells = c from rfl]
  generalize hx : m.classes[k] = x at hc hcw
  obtain ⟨ur, us, ut, uf, rfl, u1, u2, u3, u4⟩ := hc
  have mb2' : b2 ∈ b5 :: bx := List.mem_cons_of_mem _ mb2
  have mb3' : b3 ∈ b5 :: bx := List.mem_cons_of_mem _ mb3
  have n25 : b2 ≠ b5 := fun e => by rw [e, hb5] at hb2v; cases hb2v
  have n35 : b3 ≠ b5 := fun e => by rw [e, hb5] at hb3v; cases hb3v
  have A2 := A1.box (o := .cells [.str x.name, I x.super, I x.init, ur, us, ut, uf, I x.array, I x.elem, .bool x.thrown]) hb5
  have e5 : upd h1' b5 (some (.cells [.str x.name, I x.super, I x.init, ur, us, ut, uf, I x.array, I x.elem, .bool x.thrown])) b5 = _ := upd_same
  replace hb2v := (upd_ne (v := some (.cells [.str x.name, I x.super, I x.init, ur, us, ut, uf, I x.array, I x.elem, .bool x.thrown])) n25).trans hb2v
  replace hb3v := (upd_ne (v := some (.cells [.str x.name, I x.super, I x.init, ur, us, ut, uf, I x.array, I x.elem, .bool x.thrown])) n35).trans hb3v
  show SOps _ _ _ _ _ _ _ _ (b5 :: bx) (upd h1' b5 (some (.cells [.str x.name, I x.super, I x.init, ur, us, ut, uf, I x.array, I x.elem, .bool x.thrown]))) _
  generalize upd h1' b5 (some (.cells [.str x.name, I x.super, I x.init, ur, us, ut, uf, I x.array, I x.elem, .bool x.thrown])) = k1 at A2 e5 hb2v hb3v ⊢
  refine tV ?_
  apply o_ldh rfl rfl e5 (fun h => by omega) rfl
  apply o_hcall rfl rfl rfl rfl (p34 (s := x.name) (by have := hcw.name; omega)).go
  rintro _ k2 ⟨rfl, hx2⟩
  refine tV ?_
  apply o_st1 rfl rfl rfl rfl rfl (hx2 _ _ e5) (show (0 : Nat) < 10 by decide)
  have A3 := (A2.up hx2).set (b := b5) (o := .cells [.str (x.name.take 12), I x.super, I x.init, ur, us, ut, uf, I x.array, I x.elem, .bool x.thrown]) (by simp)
  have f5 : upd k2 b5 (some (.cells [.str (x.name.take 12), I x.super, I x.init, ur, us, ut, uf, I x.array, I x.elem, .bool x.thrown])) b5 = _ := upd_same
  replace hb2v := (upd_ne (v := some (.cells [.str (x.name.take 12), I x.super, I x.init, ur, us, ut, uf, I x.array, I x.elem, .bool x.thrown])) n25).trans (hx2 _ _ hb2v)
  replace hb3v := (upd_ne (v := some (.cells [.str (x.name.take 12), I x.super, I x.init, ur, us, ut, uf, I x.array, I x.elem, .bool x.thrown])) n35).trans (hx2 _ _ hb3v)
  show SOps _ _ _ _ _ _ _ _ _ (upd k2 b5 (some (.cells [.str (x.name.take 12), I x.super, I x.init, ur, us, ut, uf, I x.array, I x.elem, .bool x.thrown]))) _
  generalize upd k2 b5 (some (.cells [.str (x.name.take 12), I x.super, I x.init, ur, us, ut, uf, I x.array, I x.elem, .bool x.thrown])) = k3 at A3 f5 hb2v hb3v ⊢
  clear A1 A2 e5 hx2
  with_reducible apply o_nil
  with_reducible apply ssq_norm
  with_reducible apply s_seq
  have hS5 : ∀ id ∈ [b5], k3 id ≠ none := by
   intro id hid
   simp only [List.mem_cons, List.not_mem_nil, or_false] at hid
   subst hid
   rw [f5]; simp
  have hk5 : Ext h (killL [b5] k3) := (A3.hG.trans A3.Gh).kill fun i hi => by
   simp only [List.mem_cons, List.not_mem_nil, or_false] at hi
   subst hi
   exact A3.base0 (by simp)
  apply s_regX [b5] [.A, .B, .A, .B, .A, .A, .A, .A, .A, .B, .A, .A, .B, .D, .A, .D, .A, .D, .A, .D] hS5 rfl
  apply x_v rfl rfl trivial
  apply x_ld rfl rfl f5 (by simp) rfl
  apply x_v rfl rfl trivial
  apply x_ld rfl rfl f5 (by simp) rfl
  refine x_A (R := fun E' bx' q => E' = (37, .int .i64 (x.refs.length : Int)) :: _ ∧ bx' = _ ∧ q = killL [b5] k3) (o_lenG rfl rfl hk5 u1 (o_nil ⟨rfl, rfl, rfl, rfl⟩)) ?_
  rintro _ _ _ ⟨rfl, rfl, rfl⟩ _
  rw [joinS_kill]
  refine x_v (v := .int .i64 ((min x.refs.length 10 : Nat) : Int)) rfl (congrArg (fun z => some (True, z)) (min_nat 10 x.refs.length)) trivial ?_
  refine x_A (R := fun E' bx' q => ∃ w, E' = (39, w) :: _ ∧ bx' = _ ∧ q = killL [b5] k3 ∧ Sl RB 1 h w (x.refs.take (min x.refs.length 10))) (o_sltG rfl rfl u1 rfl rfl (Nat.min_le_left _ _) fun w hw => o_nil ⟨rfl, w, rfl, rfl, rfl, hw⟩) ?_
  rintro _ _ _ ⟨w1, rfl, rfl, rfl, hw1⟩ _
  rw [joinS_kill]
  refine x_A (R := fun E' bx' q => ∃ w, E' = (40, w) :: _ ∧ bx' = _ ∧ q = killL [b5] k3 ∧ Sl RB 1 h w (x.refs.take (min x.refs.length 10))) (o_appTS rfl rfl rfl hk5 hw1 (fun c a hc => by rw [hc]; rfl) (by rw [List.length_take]; omega) (fun h => by omega) fun w hw => o_nil ⟨rfl, w, rfl, rfl, rfl, hw⟩) ?_
  rintro _ _ _ ⟨w2, rfl, rfl, rfl, hw2⟩ _
  rw [joinS_kill]
  apply x_v rfl rfl trivial
  apply x_ld rfl rfl f5 (by simp) rfl
  refine x_A (R := fun E' bx' q => ∃ w cs, E' = (43, w) :: _ ∧ bx' = _ ∧ OSl (killL [b5] k3) 1 w cs (x.subs.take 20).length q ∧ Chunks (RN .i64 (killL [b5] k3)) 1 cs (x.subs.take 20)) (o_hcall rfl rfl rfl rfl (p35 (n := 20) hk5 u2 (by decide) hcw.subs.1) fun w q ⟨cs, O, C⟩ => o_nil ⟨rfl, w, cs, rfl, rfl, O, C⟩) ?_
  rintro _ _ q1 ⟨w3, cs3, rfl, rfl, O3, C3⟩ hS6
  obtain ⟨G1, gx1, gv3, A4⟩ := A3.growO RCls.mono (by simp) O3 hS6
  have hx3 : Ext k3 (joinS [b5] k3 q1) := ext_join O3.ext
  have f6 := hx3 _ _ f5
  replace hb2v := hx3 _ _ hb2v
  replace hb3v := hx3 _ _ hb3v
  generalize joinS [b5] k3 q1 = k4 at A4 f6 hb2v hb3v ⊢
  apply x_v rfl rfl trivial
  apply x_ld rfl rfl f6 (by simp) rfl
  refine x_D (R := fun E' bx' q => ∃ w cs, E' = (46, w) :: _ ∧ bx' = _ ∧ OSl k4 1 w cs (x.slots.take 10).length q ∧ Chunks (RN .i64 k4) 1 cs (x.slots.take 10)) (o_hcall rfl rfl rfl rfl (p35 (n := 10) (A4.hG.trans A4.Gh) u3 (by decide) hcw.slots.1) fun w q ⟨cs, O, C⟩ => o_nil ⟨rfl, w, cs, rfl, rfl, O, C⟩) ?_
  rintro _ _ k5 ⟨w4, cs4, rfl, rfl, O4, C4⟩
  obtain ⟨G2, gx2, gv4, A5⟩ := A4.growD RCls.mono O4
  have f7 := O4.ext _ _ f6
  replace hb2v := O4.ext _ _ hb2v
  replace hb3v := O4.ext _ _ hb3v
  have live5 : ∀ {o : AObj} {k : Heap}, k b5 = some o → ∀ id ∈ [b5], k id ≠ none := by
   intro o k e id hid
   simp only [List.mem_cons, List.not_mem_nil, or_false] at hid
   subst hid
   rw [e]; simp
  refine ⟨live5 f7, ?_⟩
  apply x_v rfl rfl trivial
  refine x_D (R := fun E' bx' q => E' = _ ∧ bx' = _ ∧ q = upd k5 b5 (some (.cells [.str (x.name.take 12), I x.super, I x.init, w2, us, ut, uf, I x.array, I x.elem, .bool x.thrown]))) (o_st1 rfl rfl rfl rfl (hw2.one) f7 (show (3 : Nat) < 10 by decide) (o_nil ⟨rfl, rfl, rfl, rfl⟩)) ?_
  rintro _ _ _ ⟨rfl, rfl, rfl⟩
  have A6 := A5.set (b := b5) (o := .cells [.str (x.name.take 12), I x.super, I x.init, w2, us, ut, uf, I x.array, I x.elem, .bool x.thrown]) (by simp)
  have f8 : upd k5 b5 (some (.cells [.str (x.name.take 12), I x.super, I x.init, w2, us, ut, uf, I x.array, I x.elem, .bool x.thrown])) b5 = _ := upd_same
  replace hb2v := (upd_ne (v := some (.cells [.str (x.name.take 12), I x.super, I x.init, w2, us, ut, uf, I x.array, I x.elem, .bool x.thrown])) n25).trans hb2v
  replace hb3v := (upd_ne (v := some (.cells [.str (x.name.take 12), I x.super, I x.init, w2, us, ut, uf, I x.array, I x.elem, .bool x.thrown])) n35).trans hb3v
  refine ⟨live5 f8, ?_⟩
  generalize upd k5 b5 (some (.cells [.str (x.name.take 12), I x.super, I x.init, w2, us, ut, uf, I x.array, I x.elem, .bool x.thrown])) = k6 at A6 f8 hb2v hb3v ⊢
  apply x_v rfl rfl trivial
  refine x_D (R := fun E' bx' q => E' = _ ∧ bx' = _ ∧ q = upd k6 b5 (some (.cells [.str (x.name.take 12), I x.super, I x.init, w2, w3, ut, uf, I x.array, I x.elem, .bool x.thrown]))) (o_st1 rfl rfl rfl rfl ((gv3.one)) f8 (show (4 : Nat) < 10 by decide) (o_nil ⟨rfl, rfl, rfl, rfl⟩)) ?_
  rintro _ _ _ ⟨rfl, rfl, rfl⟩
  have A7 := A6.set (b := b5) (o := .cells [.str (x.name.take 12), I x.super, I x.init, w2, w3, ut, uf, I x.array, I x.elem, .bool x.thrown]) (by simp)
  have f9 : upd k6 b5 (some (.cells [.str (x.name.take 12), I x.super, I x.init, w2, w3, ut, uf, I x.array, I x.elem, .bool x.thrown])) b5 = _ := upd_same
  replace hb2v := (upd_ne (v := some (.cells [.str (x.name.take 12), I x.super, I x.init, w2, w3, ut, uf, I x.array, I x.elem, .bool x.thrown])) n25).trans hb2v
  replace hb3v := (upd_ne (v := some (.cells [.str (x.name.take 12), I x.super, I x.init, w2, w3, ut, uf, I x.array, I x.elem, .bool x.thrown])) n35).trans hb3v
  refine ⟨live5 f9, ?_⟩
  generalize upd k6 b5 (some (.cells [.str (x.name.take 12), I x.super, I x.init, w2, w3, ut, uf, I x.array, I x.elem, .bool x.thrown])) = k7 at A7 f9 hb2v hb3v ⊢
  apply x_v rfl rfl trivial
  refine x_D (R := fun E' bx' q => E' = _ ∧ bx' = _ ∧ q = upd k7 b5 (some (.cells [.str (x.name.take 12), I x.super, I x.init, w2, w3, w4, uf, I x.array, I x.elem, .bool x.thrown]))) (o_st1 rfl rfl rfl rfl ((gv4.one)) f9 (show (5 : Nat) < 10 by decide) (o_nil ⟨rfl, rfl, rfl, rfl⟩)) ?_
  rintro _ _ _ ⟨rfl, rfl, rfl⟩
  have A8 := A7.set (b := b5) (o := .cells [.str (x.name.take 12), I x.super, I x.init, w2, w3, w4, uf, I x.array, I x.elem, .bool x.thrown]) (by simp)
  have f10 : upd k7 b5 (some (.cells [.str (x.name.take 12), I x.super, I x.init, w2, w3, w4, uf, I x.array, I x.elem, .bool x.thrown])) b5 = _ := upd_same
  replace hb2v := (upd_ne (v := some (.cells [.str (x.name.take 12), I x.super, I x.init, w2, w3, w4, uf, I x.array, I x.elem, .bool x.thrown])) n25).trans hb2v
  replace hb3v := (upd_ne (v := some (.cells [.str (x.name.take 12), I x.super, I x.init, w2, w3, w4, uf, I x.array, I x.elem, .bool x.thrown])) n35).trans hb3v
  refine ⟨live5 f10, ?_⟩
  generalize upd k7 b5 (some (.cells [.str (x.name.take 12), I x.super, I x.init, w2, w3, w4, uf, I x.array, I x.elem, .bool x.thrown])) = k8 at A8 f10 hb2v hb3v ⊢
  apply x_nil
  clear A3 A4 A5 A6 A7 f5 f6 f7 f8 f9 O3 O4 hS5 hk5 hS6 hx3
  refine tV ?_
  apply o_ldh rfl rfl f10 (fun h => by omega) rfl
  refine tV ?_
  apply o_ldh rfl rfl f10 (fun h => by omega) rfl
  apply o_lenG rfl rfl (A8.hG.trans A8.Gh) u4
  apply o_as (w := .int .i64 ((min x.faces.length 6 : Nat) : Int)) rfl rfl trivial (min_nat 6 x.faces.length)
  apply o_sltG rfl rfl u4 rfl rfl (Nat.min_le_left _ _)
  intro w5' hw5'
  apply o_appTS rfl rfl rfl (A8.hG.trans A8.Gh) hw5' (fun c a hc => RPair.one hc) (by rw [List.length_take]; omega) (fun h => by omega)
  intro w5 hw5
  refine tV ?_
  apply o_st1 rfl rfl rfl rfl hw5.one f10 (show (6 : Nat) < 10 by decide)
  have A9 := A8.set (b := b5) (o := .cells [.str (x.name.take 12), I x.super, I x.init, w2, w3, w4, w5, I x.array, I x.elem, .bool x.thrown]) (by simp)
  have f11 : upd k8 b5 (some (.cells [.str (x.name.take 12), I x.super, I x.init, w2, w3, w4, w5, I x.array, I x.elem, .bool x.thrown])) b5 = _ := upd_same
  replace hb2v := (upd_ne (v := some (.cells [.str (x.name.take 12), I x.super, I x.init, w2, w3, w4, w5, I x.array, I x.elem, .bool x.thrown])) n25).trans hb2v
  replace hb3v := (upd_ne (v := some (.cells [.str (x.name.take 12), I x.super, I x.init, w2, w3, w4, w5, I x.array, I x.elem, .bool x.thrown])) n35).trans hb3v
  show SOps _ _ _ _ _ _ _ _ _ (upd k8 b5 (some (.cells [.str (x.name.take 12), I x.super, I x.init, w2, w3, w4, w5, I x.array, I x.elem, .bool x.thrown]))) _
  generalize upd k8 b5 (some (.cells [.str (x.name.take 12), I x.super, I x.init, w2, w3, w4, w5, I x.array, I x.elem, .bool x.thrown])) = k9 at A9 f11 hb2v hb3v ⊢
  obtain ⟨y, hy⟩ : ∃ y : Cls, y = ⟨x.name.take 12, x.super, x.init, x.array, x.elem, x.thrown, x.refs.take (min x.refs.length 10), x.subs.take 20, x.slots.take 10, x.faces.take (min x.faces.length 6)⟩ := ⟨_, rfl⟩
  have hcy : RCls G2 [.str (x.name.take 12), I x.super, I x.init, w2, w3, w4, w5, I x.array, I x.elem, .bool x.thrown] y := by
   rw [hy]
   exact ⟨w2, w3, w4, w5, rfl, hw2.mono RB.mono A9.hG, ⟨cs3, gv3.mono gx2, C3⟩, ⟨cs4, gv4, C4⟩, hw5.mono RPair.mono A9.hG⟩
  have hyw : y.WF ∧ Cls.Small y := by
   rw [hy]
   have lt : ∀ {α : Type} (l : List α) (n : Nat), (l.take n).length ≤ n := fun l n => by rw [List.length_take]; omega
   have le : ∀ {α : Type} (l : List α) (n : Nat), (l.take n).length ≤ l.length := fun l n => by rw [List.length_take]; omega
   refine ⟨⟨Nat.le_trans (lt _ _) (by decide), hcw.super, hcw.init, hcw.array, hcw.elem, Nat.le_trans (le _ _) hcw.refs, ⟨Nat.le_trans (le _ _) hcw.subs.1, fun n hn => hcw.subs.2 n (List.mem_of_mem_take hn)⟩, ⟨Nat.le_trans (le _ _) hcw.slots.1, fun n hn => hcw.slots.2 n (List.mem_of_mem_take hn)⟩, ⟨Nat.le_trans (le _ _) hcw.faces.1, fun n hn => hcw.faces.2 n (List.mem_of_mem_take hn)⟩⟩,
    ⟨lt _ _, Nat.le_trans (lt _ _) (Nat.min_le_right _ _), lt _ _, lt _ _, Nat.le_trans (lt _ _) (Nat.min_le_right _ _)⟩⟩
  clear A8 f10
  refine tV ?_
  apply o_ldh rfl rfl hb3v (fun h => by omega) rfl
  apply o_ldhn rfl rfl f11 (fun h => by omega) rfl
  apply o_val rfl rfl ⟨rfl, RCls.one hcy⟩
  obtain ⟨cs, C, O⟩ := A9.osl
  apply o_appO (n := 1) rfl rfl rfl rfl O rfl rfl (RCls.one hcy) (by omega)
  intro v2' k10 O2 hx10
  have A10 := A9.app C hcy rfl O2
  have b3l := A9.live hx10 mb3' hb3v
  have b2l := A9.live hx10 mb2' hb2v
  refine tV ?_
  apply o_st1 rfl rfl rfl rfl O2.view.one b3l (show (0 : Nat) < 9 by decide)
  have A11 := A10.set (b := b3) (o := .cells (O9 v2' (.nil .sl) m.entry m.need (.nil .sl) (.nil .sl) (.nil .sl) (.nil .sl) (.nil .sl))) mb3'
  refine tW ?_
  rw [w64 (n := (k : Int) + 1) (by omega) (by omega)]
  refine ⟨(k + 1, b5 :: bx, G2, v2', out ++ [y]), by simp only; omega, tU, rfl, hkl, hk20, by simp [hol], A11, mb2', mb3', (upd_ne h32.symm).trans b2l, upd_same, fun z hz => ?_⟩
  rcases List.mem_append.1 hz with hz | hz
  ·exact hsm z hz
  ·simp only [List.mem_cons, List.not_mem_nil, or_false] at hz
   subst hz
   exact hyw
 rintro ⟨bx, G, xc, outc⟩ k0 ⟨A0, mb2, mb3, hb2v, hb3v, hcl, hcs⟩
 simp only at A0 mb2 mb3 hb2v hb3v hcl hcs ⊢
 obtain ⟨G0, e1, e2, vxc, e4⟩ := A0.fold RCls.mono
 have B0 : Acc RMth 6 h G0 k0 bx (.nil .sl) [] := Acc.start (A0.hG.trans e1) e2 fun b hb => ⟨e4 b hb, (A0.bxs b hb).2⟩
 clear A0 e1 e2 e4 G
 refine s_joinB (σ := List Nat × AV × List Mth) (fun _ => [(1, .tptr [vc, vm, I m.entry, I m.need, vg, vw, vr, vs, vf] 0), (2, .ptr b2 0), (3, .ptr b3 0)]) (fun s => s.1)
  (fun s h' => Acc RMth 6 h G0 h' s.1 s.2.1 s.2.2 ∧ b2 ∈ s.1 ∧ b3 ∈ s.1 ∧ h' b2 = some (.cells Z9) ∧ h' b3 = some (.cells (O9 xc s.2.1 m.entry m.need (.nil .sl) (.nil .sl) (.nil .sl) (.nil .sl) (.nil .sl))) ∧ s.2.2.length ≤ 12 ∧ ∀ x ∈ s.2.2, x.WF ∧ Mth.Small x) ?_ ?_
 ·refine tV ?_
  refine s_loopB (fun s : Nat × List Nat × AV × List Mth => [(1, .tptr [vc, vm, I m.entry, I m.need, vg, vw, vr, vs, vf] 0), (2, .ptr b2 0), (3, .ptr b3 0), (6, .int .i64 (s.1 : Int))]) (fun s => s.2.1)
   (fun s h' => s.1 ≤ m.methods.length ∧ s.1 ≤ 12 ∧ s.2.2.2.length = s.1 ∧ Acc RMth 6 h G0 h' s.2.1 s.2.2.1 s.2.2.2 ∧ b2 ∈ s.2.1 ∧ b3 ∈ s.2.1 ∧ h' b2 = some (.cells Z9) ∧ h' b3 = some (.cells (O9 xc s.2.2.1 m.entry m.need (.nil .sl) (.nil .sl) (.nil .sl) (.nil .sl) (.nil .sl))) ∧ ∀ x ∈ s.2.2.2, x.WF ∧ Mth.Small x)
   (fun s => 12 - s.1) (0, bx, .nil .sl, []) tU rfl
   ⟨Nat.zero_le _, Nat.zero_le _, rfl, B0, mb2, mb3, hb2v, hb3v, by simp⟩ ?_
  clear B0 mb2 mb3 hb2v hb3v bx
  rintro ⟨k, bx, xm, out⟩ h1' ⟨hk, hk2, hol, A1, mb2, mb3, hb2v, hb3v, hsm⟩
  simp only at hk hk2 hol A1 mb2 mb3 hb2v hb3v hsm ⊢
  refine tV ?_
  apply o_lenG rfl rfl (A1.hG.trans A1.Gh) v2
  (refine tG ?_; refine oB fun b1 h1 => ?_; cases b1)
  case false =>
   refine tW ?_
   refine ⟨(bx, xm, out), tU, rfl, A1, mb2, mb3, hb2v, hb3v, (by rw [hol]; exact hk2), hsm⟩
  refine tV ?_
  (refine tG ?_; refine oB fun b2 h2 => ?_; cases b2)
  case false =>
   refine tW ?_
   refine ⟨(bx, xm, out), tU, rfl, A1, mb2, mb3, hb2v, hb3v, (by rw [hol]; exact hk2), hsm⟩
  have hkl : k < m.methods.length := by simpa using h1
  have hk20 : k < 12 := by simp at h2; omega
  have hcw := hw.methods.2 _ (List.getElem_mem hkl)
  refine tV ?_
  apply o_iaG rfl rfl rfl (A1.hG.trans A1.Gh) v2 hkl
  intro p c hpc hc hcl
  apply o_ldVn rfl rfl hpc hcl (fun h => by omega)
  apply o_alc rfl
  intro b7 hb7
  apply o_st (v := .agg c) rfl rfl rfl rfl hcl (RMth.one hc) upd_same (splice_full (show c.length = _ by rw [hcl]; rfl))
  rw [upd_upd, show (AV.agg c).cells = c from rfl]
  generalize hx : m.methods[k] = x at hc hcw
  obtain ⟨uc, ut, rfl, u1, u2⟩ := hc
  have mb2' : b2 ∈ b7 :: bx := List.mem_cons_of_mem _ mb2
  have mb3' : b3 ∈ b7 :: bx := List.mem_cons_of_mem _ mb3
  have n27 : b2 ≠ b7 := fun e => by rw [e, hb7] at hb2v; cases hb2v
  have n37 : b3 ≠ b7 := fun e => by rw [e, hb7] at hb3v; cases hb3v
  have A2 := A1.box (o := .cells [I x.args, I x.locals, I x.stack, .bool x.gives, uc, ut]) hb7
  have f1 : upd h1' b7 (some (.cells [I x.args, I x.locals, I x.stack, .bool x.gives, uc, ut])) b7 = _ := upd_same
  replace hb2v := (upd_ne (v := some (.cells [I x.args, I x.locals, I x.stack, .bool x.gives, uc, ut])) n27).trans hb2v
  replace hb3v := (upd_ne (v := some (.cells [I x.args, I x.locals, I x.stack, .bool x.gives, uc, ut])) n37).trans hb3v
  show SOps _ _ _ _ _ _ _ _ (b7 :: bx) (upd h1' b7 (some (.cells [I x.args, I x.locals, I x.stack, .bool x.gives, uc, ut]))) _
  generalize upd h1' b7 (some (.cells [I x.args, I x.locals, I x.stack, .bool x.gives, uc, ut])) = k1 at A2 f1 hb2v hb3v ⊢
  refine tV ?_
  apply o_ldh rfl rfl f1 (fun h => by omega) rfl
  refine tV ?_
  apply o_ldh rfl rfl f1 (fun h => by omega) rfl
  apply o_lenG rfl rfl (A2.hG.trans A2.Gh) u1
  apply o_as (w := .int .i64 ((min x.code.length 30 : Nat) : Int)) rfl rfl trivial (min_nat 30 x.code.length)
  apply o_sltG rfl rfl u1 rfl rfl (Nat.min_le_left _ _)
  intro w1' hw1'
  apply o_appTS rfl rfl rfl (A2.hG.trans A2.Gh) hw1' (fun c a hc => RFour.one hc) (by rw [List.length_take]; omega) (fun h => by omega)
  intro w1 hw1
  refine tV ?_
  apply o_st1 rfl rfl rfl rfl hw1.one f1 (show (4 : Nat) < 6 by decide)
  have A3 := A2.set (b := b7) (o := .cells [I x.args, I x.locals, I x.stack, .bool x.gives, w1, ut]) (by simp)
  have f2 : upd k1 b7 (some (.cells [I x.args, I x.locals, I x.stack, .bool x.gives, w1, ut])) b7 = _ := upd_same
  replace hb2v := (upd_ne (v := some (.cells [I x.args, I x.locals, I x.stack, .bool x.gives, w1, ut])) n27).trans hb2v
  replace hb3v := (upd_ne (v := some (.cells [I x.args, I x.locals, I x.stack, .bool x.gives, w1, ut])) n37).trans hb3v
  show SOps _ _ _ _ _ _ _ _ _ (upd k1 b7 (some (.cells [I x.args, I x.locals, I x.stack, .bool x.gives, w1, ut]))) _
  generalize upd k1 b7 (some (.cells [I x.args, I x.locals, I x.stack, .bool x.gives, w1, ut])) = k2 at A3 f2 hb2v hb3v ⊢
  refine tV ?_
  apply o_ldh rfl rfl f2 (fun h => by omega) rfl
  refine tV ?_
  apply o_ldh rfl rfl f2 (fun h => by omega) rfl
  apply o_lenG rfl rfl (A3.hG.trans A3.Gh) u2
  apply o_as (w := .int .i64 ((min x.traps.length 4 : Nat) : Int)) rfl rfl trivial (min_nat 4 x.traps.length)
  apply o_sltG rfl rfl u2 rfl rfl (Nat.min_le_left _ _)
  intro w2' hw2'
  apply o_appTS rfl rfl rfl (A3.hG.trans A3.Gh) hw2' (fun c a hc => RFour.one hc) (by rw [List.length_take]; omega) (fun h => by omega)
  intro w2 hw2
  refine tV ?_
  apply o_st1 rfl rfl rfl rfl hw2.one f2 (show (5 : Nat) < 6 by decide)
  have A4 := A3.set (b := b7) (o := .cells [I x.args, I x.locals, I x.stack, .bool x.gives, w1, w2]) (by simp)
  have f3 : upd k2 b7 (some (.cells [I x.args, I x.locals, I x.stack, .bool x.gives, w1, w2])) b7 = _ := upd_same
  replace hb2v := (upd_ne (v := some (.cells [I x.args, I x.locals, I x.stack, .bool x.gives, w1, w2])) n27).trans hb2v
  replace hb3v := (upd_ne (v := some (.cells [I x.args, I x.locals, I x.stack, .bool x.gives, w1, w2])) n37).trans hb3v
  show SOps _ _ _ _ _ _ _ _ _ (upd k2 b7 (some (.cells [I x.args, I x.locals, I x.stack, .bool x.gives, w1, w2]))) _
  generalize upd k2 b7 (some (.cells [I x.args, I x.locals, I x.stack, .bool x.gives, w1, w2])) = k3 at A4 f3 hb2v hb3v ⊢
  obtain ⟨y, hy⟩ : ∃ y : Mth, y = ⟨x.args, x.locals, x.stack, x.gives, x.code.take (min x.code.length 30), x.traps.take (min x.traps.length 4)⟩ := ⟨_, rfl⟩
  have hcy : RMth G0 [I x.args, I x.locals, I x.stack, .bool x.gives, w1, w2] y := by
   rw [hy]
   exact ⟨w1, w2, rfl, hw1.mono RFour.mono A4.hG, hw2.mono RFour.mono A4.hG⟩
  have hyw : y.WF ∧ Mth.Small y := by
   rw [hy]
   have lt : ∀ {α : Type} (l : List α) (n : Nat), (l.take n).length ≤ n := fun l n => by rw [List.length_take]; omega
   have le : ∀ {α : Type} (l : List α) (n : Nat), (l.take n).length ≤ l.length := fun l n => by rw [List.length_take]; omega
   exact ⟨⟨hcw.args, hcw.locals, hcw.stack, ⟨Nat.le_trans (le _ _) hcw.code.1, fun n hn => hcw.code.2 n (List.mem_of_mem_take hn)⟩, ⟨Nat.le_trans (le _ _) hcw.traps.1, fun n hn => hcw.traps.2 n (List.mem_of_mem_take hn)⟩⟩,
    ⟨Nat.le_trans (lt _ _) (Nat.min_le_right _ _), Nat.le_trans (lt _ _) (Nat.min_le_right _ _)⟩⟩
  clear A1 A2 A3 f1 f2
  refine tV ?_
  apply o_ldh rfl rfl hb3v (fun h => by omega) rfl
  apply o_ldhn rfl rfl f3 (fun h => by omega) rfl
  apply o_val rfl rfl ⟨rfl, RMth.one hcy⟩
  obtain ⟨cs, C, O⟩ := A4.osl
  apply o_appO (n := 1) rfl rfl rfl rfl O rfl rfl (RMth.one hcy) (by omega)
  intro v2' k10 O2 hx10
  have A10 := A4.app C hcy rfl O2
  have b3l := A4.live hx10 mb3' hb3v
  have b2l := A4.live hx10 mb2' hb2v
  refine tV ?_
  apply o_st1 rfl rfl rfl rfl O2.view.one b3l (show (1 : Nat) < 9 by decide)
  have A11 := A10.set (b := b3) (o := .cells (O9 xc v2' m.entry m.need (.nil .sl) (.nil .sl) (.nil .sl) (.nil .sl) (.nil .sl))) mb3'
  refine tW ?_
  rw [w64 (n := (k : Int) + 1) (by omega) (by omega)]
  refine ⟨(k + 1, b7 :: bx, v2', out ++ [y]), by simp only; omega, tU, rfl, hkl, hk20, by simp [hol], A11, mb2', mb3', (upd_ne h32.symm).trans b2l, upd_same, fun z hz => ?_⟩
  rcases List.mem_append.1 hz with hz | hz
  ·exact hsm z hz
  ·simp only [List.mem_cons, List.not_mem_nil, or_false] at hz
   subst hz
   exact hyw
 clear B0 mb2 mb3 hb2v hb3v bx
 rintro ⟨bx, xm, outm⟩ k0 ⟨A0, mb2, mb3, hb2v, hb3v, hml, hms⟩
 simp only at A0 mb2 mb3 hb2v hb3v hml hms ⊢
 obtain ⟨G1, e1, e2, vxm, e4⟩ := A0.fold RMth.mono
 replace vxc := vxc.mono RCls.mono e1
 have B0 : Acc RMth 6 h G1 k0 bx (.nil .sl) [] := Acc.start (A0.hG.trans e1) e2 fun b hb => ⟨e4 b hb, (A0.bxs b hb).2⟩
 clear A0 e1 e2 e4 G0
 with_reducible apply s_seq
 apply s_regX [] [.A, .A, .A, .A, .C, .D, .A, .D, .A, .D] (by simp) rfl
 apply x_v rfl rfl trivial
 apply x_v rfl rfl trivial
 refine x_A (R := fun E' bx' q => ∃ w cs, E' = (107, w) :: _ ∧ bx' = _ ∧ OSl k0 1 w cs (m.given.take 12).length q ∧ Chunks (RN .i64 k0) 1 cs (m.given.take 12)) (by
  rw [killL_nil]
  exact o_hcall rfl rfl rfl rfl (p35 (n := 12) (B0.hG.trans B0.Gh) v3 (by decide) hw.given.1) fun w q ⟨cs, O, C⟩ => o_nil ⟨rfl, w, cs, rfl, rfl, O, C⟩) ?_
 rintro _ _ k1 ⟨w3, cs3, rfl, rfl, O3, C3⟩ _
 rw [show joinS [] k0 k1 = k1 from rfl]
 obtain ⟨G2, gx1, gv3, B1⟩ := B0.growD RMth.mono O3
 replace hb2v := O3.ext _ _ hb2v
 replace hb3v := O3.ext _ _ hb3v
 apply x_v rfl rfl trivial
 apply x_vC rfl rfl rfl trivial
 refine x_D (R := fun E' bx' q => ∃ w cs, E' = (110, w) :: _ ∧ bx' = _ ∧ OSl k1 1 w cs (m.rel.take 60).length q ∧ Chunks (RN .i64 k1) 1 cs (m.rel.take 60)) (o_hcall rfl rfl rfl rfl (p35 (n := 60) (B1.hG.trans B1.Gh) v5 (by decide) hw.rel.1) fun w q ⟨cs, O, C⟩ => o_nil ⟨rfl, w, cs, rfl, rfl, O, C⟩) ?_
 rintro _ _ k2 ⟨w4, cs4, rfl, rfl, O4, C4⟩
 obtain ⟨G3, gx2, gv4, B2⟩ := B1.growD RMth.mono O4
 replace hb2v := O4.ext _ _ hb2v
 replace hb3v := O4.ext _ _ hb3v
 refine ⟨by simp, ?_⟩
 apply x_v rfl rfl trivial
 refine x_D (R := fun E' bx' q => E' = _ ∧ bx' = _ ∧ q = upd k2 b3 (some (.cells (O9 xc xm m.entry m.need w3 (.nil .sl) (.nil .sl) (.nil .sl) (.nil .sl))))) (o_st1 rfl rfl rfl rfl (gv3.one) hb3v (show (4 : Nat) < 9 by decide) (o_nil ⟨rfl, rfl, rfl, rfl⟩)) ?_
 rintro _ _ _ ⟨rfl, rfl, rfl⟩
 refine ⟨by simp, ?_⟩
 have B3 := B2.set (b := b3) (o := .cells (O9 xc xm m.entry m.need w3 (.nil .sl) (.nil .sl) (.nil .sl) (.nil .sl))) mb3
 replace hb2v := (upd_ne (v := some (.cells (O9 xc xm m.entry m.need w3 (.nil .sl) (.nil .sl) (.nil .sl) (.nil .sl)))) h32.symm).trans hb2v
 have hb3v : upd k2 b3 (some (.cells (O9 xc xm m.entry m.need w3 (.nil .sl) (.nil .sl) (.nil .sl) (.nil .sl)))) b3 = _ := upd_same
 generalize upd k2 b3 (some (.cells (O9 xc xm m.entry m.need w3 (.nil .sl) (.nil .sl) (.nil .sl) (.nil .sl)))) = k3 at B3 hb2v hb3v ⊢
 apply x_v rfl rfl trivial
 refine x_D (R := fun E' bx' q => E' = _ ∧ bx' = _ ∧ q = upd k3 b3 (some (.cells (O9 xc xm m.entry m.need w3 (.nil .sl) w4 (.nil .sl) (.nil .sl))))) (o_st1 rfl rfl rfl rfl (gv4.one) hb3v (show (6 : Nat) < 9 by decide) (o_nil ⟨rfl, rfl, rfl, rfl⟩)) ?_
 rintro _ _ _ ⟨rfl, rfl, rfl⟩
 refine ⟨by simp, ?_⟩
 have B4 := B3.set (b := b3) (o := .cells (O9 xc xm m.entry m.need w3 (.nil .sl) w4 (.nil .sl) (.nil .sl))) mb3
 replace hb2v := (upd_ne (v := some (.cells (O9 xc xm m.entry m.need w3 (.nil .sl) w4 (.nil .sl) (.nil .sl)))) h32.symm).trans hb2v
 have hb3v : upd k3 b3 (some (.cells (O9 xc xm m.entry m.need w3 (.nil .sl) w4 (.nil .sl) (.nil .sl)))) b3 = _ := upd_same
 generalize upd k3 b3 (some (.cells (O9 xc xm m.entry m.need w3 (.nil .sl) w4 (.nil .sl) (.nil .sl)))) = k4 at B4 hb2v hb3v ⊢
 apply x_nil
 refine tV ?_
 apply o_lenG rfl rfl (B4.hG.trans B4.Gh) v4
 apply o_as (w := .int .i64 ((min m.words.length 200 : Nat) : Int)) rfl rfl trivial (min_nat 200 m.words.length)
 apply o_sltG rfl rfl v4 rfl rfl (Nat.min_le_left _ _)
 intro w5' hw5'
 apply o_appTS rfl rfl rfl (B4.hG.trans B4.Gh) hw5' (fun c a hc => by rw [hc]; rfl) (by rw [List.length_take]; omega) (fun h => by omega)
 intro w5 hw5
 refine tV ?_
 apply o_st1 rfl rfl rfl rfl hw5.one hb3v (show (5 : Nat) < 9 by decide)
 have B5 := B4.set (b := b3) (o := .cells (O9 xc xm m.entry m.need w3 w5 w4 (.nil .sl) (.nil .sl))) mb3
 replace hb2v := (upd_ne (v := some (.cells (O9 xc xm m.entry m.need w3 w5 w4 (.nil .sl) (.nil .sl)))) h32.symm).trans hb2v
 have hb3v : upd k4 b3 (some (.cells (O9 xc xm m.entry m.need w3 w5 w4 (.nil .sl) (.nil .sl)))) b3 = _ := upd_same
 show SOps _ _ _ _ _ _ _ _ _ (upd k4 b3 (some (.cells (O9 xc xm m.entry m.need w3 w5 w4 (.nil .sl) (.nil .sl))))) _
 generalize upd k4 b3 (some (.cells (O9 xc xm m.entry m.need w3 w5 w4 (.nil .sl) (.nil .sl)))) = k5 at B5 hb2v hb3v ⊢
 refine tV ?_
 apply o_lenG rfl rfl (B5.hG.trans B5.Gh) v6
 apply o_as (w := .int .i64 ((min m.stat.length 20 : Nat) : Int)) rfl rfl trivial (min_nat 20 m.stat.length)
 apply o_sltG rfl rfl v6 rfl rfl (Nat.min_le_left _ _)
 intro w6' hw6'
 apply o_appTS rfl rfl rfl (B5.hG.trans B5.Gh) hw6' (fun c a hc => by rw [hc]; rfl) (by rw [List.length_take]; omega) (fun h => by omega)
 intro w6 hw6
 refine tV ?_
 apply o_st1 rfl rfl rfl rfl hw6.one hb3v (show (7 : Nat) < 9 by decide)
 have B6 := B5.set (b := b3) (o := .cells (O9 xc xm m.entry m.need w3 w5 w4 w6 (.nil .sl))) mb3
 replace hb2v := (upd_ne (v := some (.cells (O9 xc xm m.entry m.need w3 w5 w4 w6 (.nil .sl)))) h32.symm).trans hb2v
 have hb3v : upd k5 b3 (some (.cells (O9 xc xm m.entry m.need w3 w5 w4 w6 (.nil .sl)))) b3 = _ := upd_same
 show SOps _ _ _ _ _ _ _ _ _ (upd k5 b3 (some (.cells (O9 xc xm m.entry m.need w3 w5 w4 w6 (.nil .sl))))) _
 generalize upd k5 b3 (some (.cells (O9 xc xm m.entry m.need w3 w5 w4 w6 (.nil .sl)))) = k6 at B6 hb2v hb3v ⊢
 refine tV ?_
 apply o_lenG rfl rfl (B6.hG.trans B6.Gh) v7
 apply o_as (w := .int .i64 ((min m.statref.length 20 : Nat) : Int)) rfl rfl trivial (min_nat 20 m.statref.length)
 apply o_sltG rfl rfl v7 rfl rfl (Nat.min_le_left _ _)
 intro w7' hw7'
 apply o_appTS rfl rfl rfl (B6.hG.trans B6.Gh) hw7' (fun c a hc => by rw [hc]; rfl) (by rw [List.length_take]; omega) (fun h => by omega)
 intro w7 hw7
 refine tV ?_
 apply o_st1 rfl rfl rfl rfl hw7.one hb3v (show (8 : Nat) < 9 by decide)
 have B7 := B6.set (b := b3) (o := .cells (O9 xc xm m.entry m.need w3 w5 w4 w6 w7)) mb3
 replace hb2v := (upd_ne (v := some (.cells (O9 xc xm m.entry m.need w3 w5 w4 w6 w7))) h32.symm).trans hb2v
 have hb3v : upd k6 b3 (some (.cells (O9 xc xm m.entry m.need w3 w5 w4 w6 w7))) b3 = _ := upd_same
 show SOps _ _ _ _ _ _ _ _ _ (upd k6 b3 (some (.cells (O9 xc xm m.entry m.need w3 w5 w4 w6 w7)))) _
 generalize upd k6 b3 (some (.cells (O9 xc xm m.entry m.need w3 w5 w4 w6 w7))) = k7 at B7 hb2v hb3v ⊢
 obtain ⟨y, hy⟩ : ∃ y : Image, y = ⟨outc, outm, m.entry, m.need, m.given.take 12, m.words.take (min m.words.length 200), m.rel.take 60, m.stat.take (min m.stat.length 20), m.statref.take (min m.statref.length 20)⟩ := ⟨_, rfl⟩
 have hcy : RImg G3 (O9 xc xm m.entry m.need w3 w5 w4 w6 w7) y := by
  rw [hy]
  exact ⟨xc, xm, w3, w5, w4, w6, w7, rfl, vxc.mono RCls.mono (gx1.trans gx2), vxm.mono RMth.mono (gx1.trans gx2), ⟨cs3, gv3.mono gx2, C3⟩, hw5.mono RN.mono B7.hG, ⟨cs4, gv4, C4⟩, hw6.mono RN.mono B7.hG, hw7.mono RB.mono B7.hG⟩
 have hyw : y.WF ∧ Image.Small y := by
  rw [hy]
  have lt : ∀ {α : Type} (l : List α) (n : Nat), (l.take n).length ≤ n := fun l n => by rw [List.length_take]; omega
  have le : ∀ {α : Type} (l : List α) (n : Nat), (l.take n).length ≤ l.length := fun l n => by rw [List.length_take]; omega
  have hL : ∀ {α : Type} {l : List α}, l.length ≤ 20 → Len l := fun h => by unfold Len; omega
  exact ⟨⟨⟨hL hcl, fun c hc => (hcs c hc).1⟩, ⟨hL (show outm.length ≤ 20 by omega), fun c hc => (hms c hc).1⟩, hw.entry, hw.need, ⟨Nat.le_trans (le _ _) hw.given.1, fun n hn => hw.given.2 n (List.mem_of_mem_take hn)⟩, ⟨Nat.le_trans (le _ _) hw.words.1, fun n hn => hw.words.2 n (List.mem_of_mem_take hn)⟩,
    ⟨Nat.le_trans (le _ _) hw.rel.1, fun n hn => hw.rel.2 n (List.mem_of_mem_take hn)⟩, ⟨Nat.le_trans (le _ _) hw.stat.1, fun n hn => hw.stat.2 n (List.mem_of_mem_take hn)⟩, Nat.le_trans (le _ _) hw.statref⟩,
   ⟨⟨hcl, fun c hc => (hcs c hc).2⟩, ⟨hml, fun c hc => (hms c hc).2⟩, lt _ _, Nat.le_trans (lt _ _) (Nat.min_le_right _ _), lt _ _, Nat.le_trans (lt _ _) (Nat.min_le_right _ _), Nat.le_trans (lt _ _) (Nat.min_le_right _ _)⟩⟩
 refine tS ?_
 apply o_ldhn rfl rfl hb3v (fun h => by omega) rfl
 apply o_st (v := .agg (O9 xc xm m.entry m.need w3 w5 w4 w6 w7)) rfl rfl rfl rfl rfl (RImg.one hcy) hb2v (splice_full rfl)
 have B8 := B7.set (b := b2) (o := .cells (O9 xc xm m.entry m.need w3 w5 w4 w6 w7)) mb2
 have hF : upd k7 b2 (some (.cells (O9 xc xm m.entry m.need w3 w5 w4 w6 w7))) b2 = some (.cells (O9 xc xm m.entry m.need w3 w5 w4 w6 w7)) := upd_same
 refine tS ?_
 refine hR_ret (vs := [.agg (O9 xc xm m.entry m.need w3 w5 w4 w6 w7)]) (.cells (m := 9) rfl (by kernel_rfl) hF rfl .nil) rfl ?_ ?_
 ·refine ⟨(B8.hG.trans B8.Gh).kill fun i hi => B8.base0 hi, _, y, rfl, RImg.mono _ _ _ _ (B8.Gh.kill fun i hi => (B8.bxs i hi).1) hcy, hyw.1, hyw.2⟩
 ·intro ht
  exact .inl ⟨.refl, _, y, rfl, tr_i _ _ _ _ (by simpa [tupled, AV.tree] using ht) hcy, hyw.1, hyw.2⟩
end Go.Proofs
end
section
open Go Go.Abs Go.Proofs.SlimCode Go.Img
set_option maxRecDepth 100000
namespace Go.Proofs
theorem p32 : PureC Tryz.prog ann 32 [] (.bool true) := pure_eval 1000 (by kernel_rfl) (by kernel_rfl) (by kernel_rfl)
theorem p33 : PureC Tryz.prog ann 33 [] (.bool true) := pure_eval 1000 (by kernel_rfl) (by kernel_rfl) (by kernel_rfl)
theorem small_Small : Image.Small small := by
 refine ⟨⟨by decide, fun c h => ?_⟩, ⟨by decide, fun c h => ?_⟩, by decide, by decide, by decide, by decide, by decide⟩
 ·obtain ⟨i, _, rfl⟩ := List.mem_map.1 h
  exact ⟨(by decide : 2 ≤ 12), Nat.zero_le _, (by decide : 1 ≤ 20), Nat.zero_le _, Nat.zero_le _⟩
 ·obtain rfl := List.mem_singleton.1 h
  exact ⟨by decide, by decide⟩
theorem flat_ge {α : Type} {e : α → B} (he : ∀ a, 1 ≤ (e a).length) : ∀ l : List α, l.length ≤ (l.flatMap e).length
 | [] => Nat.le_refl _
 | a :: l => by
  have := flat_ge he l
  have := he a
  simp only [List.flatMap_cons, List.length_append, List.length_cons]
  omega
theorem put_ge (n : Int) : 1 ≤ (put n).length := List.length_pos_iff.mpr (put_ne n)
theorem small_ge : 8 < (Img.body small).length := by
 have h1 : 11 ≤ ((small.classes).flatMap eCls).length := Nat.le_trans (by simp [small]) (flat_ge (fun a => by simp only [eCls, eText, List.length_append]; have := put_ge a.name.length; omega) small.classes)
 simp only [Img.body, eList, List.length_append]
 omega
theorem dec_small : Img.decode (encode small) = some small := decode_encode small_WF (by have := small_len small_WF small_Small; unfold size; omega)
theorem dec_none : Img.decode [] = none := by unfold Img.decode; rw [if_pos (.inl (by decide))]
def small1 : Image := { small with entry := 1 }
theorem small1_WF : small1.WF := { small_WF with entry := i64_of (by decide) (by decide) }
theorem mono_I {h h' : Heap} {c : List AV} {m : Image} (H : RImg h c m) (hx : Ext h h') : RImg h' c m := RImg.mono _ _ _ _ hx H
theorem p14 : PureC Tryz.prog ann 14 [] (.bool true) := by
 refine s_pure_of Tryz.func14 (frc (by with_unfolding_all rfl)) rfl rfl rfl ?_
 refine tV ?_
 apply o_hcall rfl rfl rfl rfl (p27 (h := hp0))
 rintro _ k1 ⟨_, c, rfl, hM⟩
 obtain ⟨vc, vm, vg, vw, vr, vs, vf, rfl, r⟩ := id hM
 refine tW ?_
 apply o_alc rfl
 intro b1 hn
 apply o_st (v := .agg [vc, vm, I small.entry, I small.need, vg, vw, vr, vs, vf]) (cs' := [vc, vm, I small.entry, I small.need, vg, vw, vr, vs, vf]) rfl rfl rfl rfl rfl hM.one upd_same rfl
 rw [upd_upd]
 have hx : Ext k1 (upd k1 b1 (some (.cells [vc, vm, I small.entry, I small.need, vg, vw, vr, vs, vf]))) := .upd hn
 have e_b1 : upd k1 b1 (some (.cells [vc, vm, I small.entry, I small.need, vg, vw, vr, vs, vf])) b1 = some (.cells [vc, vm, I small.entry, I small.need, vg, vw, vr, vs, vf]) := upd_same
 generalize upd k1 b1 (some (.cells [vc, vm, I small.entry, I small.need, vg, vw, vr, vs, vf])) = k2 at hx e_b1 ⊢
 replace hM := mono_I hM hx
 clear hx hn
 refine tV ?_
 apply o_ldhn (l := [vc, vm, I small.entry, I small.need, vg, vw, vr, vs, vf]) rfl rfl e_b1 (fun h => by omega) rfl
 apply o_hcall rfl rfl rfl rfl (p16 hM small_WF (by have := small_len small_WF small_Small; omega))
 rintro v2 k3 hb
 have hlb := small_len small_WF small_Small
 rcases hb with ⟨_, O⟩ | ⟨hb, _⟩
 rotate_left
 ·unfold size at hb; omega
 have hx3 := O.ext
 have hv := O.view
 have hpos := small_ge
 have hsz : (encode small).length = 12 + (Img.body small).length := encode_len small
 replace e_b1 := hx3 _ _ e_b1
 replace hM := mono_I hM hx3
 refine tV ?_
 apply o_hcall rfl rfl rfl rfl (p17 hv (by omega))
 rintro _ k4 ⟨hx4, c3, e3, m3, rfl, hX, hXW, hdec⟩
 obtain ⟨rfl, rfl⟩ : e3 = 0 ∧ m3 = small := by
  rcases hdec with ⟨h1, h2⟩ | ⟨_, h2, _⟩
  ·rw [dec_small] at h2
   exact ⟨h1, (Option.some.inj h2).symm⟩
  ·rw [dec_small] at h2
   cases h2
 clear hdec
 obtain ⟨uc, um, ug, uw, ur, us, uf, rfl, _⟩ := id hX
 replace e_b1 := hx4 _ _ e_b1
 replace hM := mono_I hM hx4
 replace hv := hv.mono hx4
 refine tW ?_
 apply o_alc rfl
 intro b3 hn
 apply o_st (v := .agg [uc, um, I small.entry, I small.need, ug, uw, ur, us, uf]) (cs' := [uc, um, I small.entry, I small.need, ug, uw, ur, us, uf]) rfl rfl rfl rfl rfl hX.one upd_same rfl
 rw [upd_upd]
 have hx : Ext k4 (upd k4 b3 (some (.cells [uc, um, I small.entry, I small.need, ug, uw, ur, us, uf]))) := .upd hn
 have e_b3 : upd k4 b3 (some (.cells [uc, um, I small.entry, I small.need, ug, uw, ur, us, uf])) b3 = some (.cells [uc, um, I small.entry, I small.need, ug, uw, ur, us, uf]) := upd_same
 generalize upd k4 b3 (some (.cells [uc, um, I small.entry, I small.need, ug, uw, ur, us, uf])) = k5 at hx e_b3 ⊢
 replace e_b1 := hx _ _ e_b1
 replace hM := mono_I hM hx
 replace hX := mono_I hX hx
 replace hv := hv.mono hx
 clear hx hn
 refine tV ?_
 apply o_hcall rfl rfl rfl rfl (p17 (bs := []) .nil (by decide))
 rintro _ k6 ⟨hx6, c5, e5, m5, rfl, hY, _, hdec⟩
 obtain rfl : e5 = 6 := by
  rcases hdec with ⟨_, h2⟩ | ⟨h1, _, _⟩
  ·rw [dec_none] at h2
   cases h2
  ·exact h1
 clear hdec
 obtain ⟨y0, y1, y2, y3, y4, y5, y6, rfl, _⟩ := id hY
 replace e_b1 := hx6 _ _ e_b1
 replace e_b3 := hx6 _ _ e_b3
 replace hM := mono_I hM hx6
 replace hX := mono_I hX hx6
 replace hv := hv.mono hx6
 refine tW ?_
 apply o_alc rfl
 intro b5 hn
 apply o_st (v := .agg [y0, y1, I m5.entry, I m5.need, y2, y3, y4, y5, y6]) (cs' := [y0, y1, I m5.entry, I m5.need, y2, y3, y4, y5, y6]) rfl rfl rfl rfl rfl hY.one upd_same rfl
 rw [upd_upd]
 have hx : Ext k6 (upd k6 b5 (some (.cells [y0, y1, I m5.entry, I m5.need, y2, y3, y4, y5, y6]))) := .upd hn
 have e_b5 : upd k6 b5 (some (.cells [y0, y1, I m5.entry, I m5.need, y2, y3, y4, y5, y6])) b5 = some (.cells [y0, y1, I m5.entry, I m5.need, y2, y3, y4, y5, y6]) := upd_same
 generalize upd k6 b5 (some (.cells [y0, y1, I m5.entry, I m5.need, y2, y3, y4, y5, y6])) = k7 at hx e_b5 ⊢
 replace e_b1 := hx _ _ e_b1
 replace e_b3 := hx _ _ e_b3
 replace hM := mono_I hM hx
 replace hX := mono_I hX hx
 replace hv := hv.mono hx
 clear hx hn
 clear hY e_b5
 refine tV ?_
 apply o_hcall rfl rfl rfl rfl (p27 (h := k7))
 rintro _ k8 ⟨hx8, c7, rfl, hN⟩
 obtain ⟨vc', vm', vg', vw', vr', vs', vf', rfl, n1, n2, n3, n4, n5, n6, n7⟩ := id hN
 replace e_b1 := hx8 _ _ e_b1
 replace e_b3 := hx8 _ _ e_b3
 replace hM := mono_I hM hx8
 replace hX := mono_I hX hx8
 replace hv := hv.mono hx8
 refine tW ?_
 apply o_alc rfl
 intro b7 hn
 have hne1 : b1 ≠ b7 := fun hc => by rw [← hc, e_b1] at hn; cases hn
 have hne3 : b3 ≠ b7 := fun hc => by rw [← hc, e_b3] at hn; cases hn
 have hnv := hn
 apply o_st (v := .agg [vc', vm', I small.entry, I small.need, vg', vw', vr', vs', vf']) (cs' := [vc', vm', I small.entry, I small.need, vg', vw', vr', vs', vf']) rfl rfl rfl rfl rfl hN.one upd_same rfl
 rw [upd_upd]
 have hx : Ext k8 (upd k8 b7 (some (.cells [vc', vm', I small.entry, I small.need, vg', vw', vr', vs', vf']))) := .upd hn
 have e_b7 : upd k8 b7 (some (.cells [vc', vm', I small.entry, I small.need, vg', vw', vr', vs', vf'])) b7 = some (.cells [vc', vm', I small.entry, I small.need, vg', vw', vr', vs', vf']) := upd_same
 clear hx e_b7
 refine tV ?_
 apply o_st (v := I 1) (cs' := [vc', vm', I 1, I small.need, vg', vw', vr', vs', vf']) rfl rfl rfl rfl rfl rfl upd_same rfl
 rw [upd_upd]
 have hx : Ext k8 (upd k8 b7 (some (.cells [vc', vm', I 1, I small.need, vg', vw', vr', vs', vf']))) := .upd hn
 have e_b7 : upd k8 b7 (some (.cells [vc', vm', I 1, I small.need, vg', vw', vr', vs', vf'])) b7 = some (.cells [vc', vm', I 1, I small.need, vg', vw', vr', vs', vf']) := upd_same
 generalize upd k8 b7 (some (.cells [vc', vm', I 1, I small.need, vg', vw', vr', vs', vf'])) = k9 at hx e_b7 ⊢
 replace e_b1 := hx _ _ e_b1
 replace e_b3 := hx _ _ e_b3
 replace hM := mono_I hM hx
 replace hX := mono_I hX hx
 replace hv := hv.mono hx
 replace hN := mono_I hN hx
 clear hx hn
 have hN1 : RImg k9 [vc', vm', I 1, I small.need, vg', vw', vr', vs', vf'] small1 := by
  obtain ⟨_, _, _, _, _, _, _, he, q1, q2, q3, q4, q5, q6, q7⟩ := hN
  simp only [List.cons.injEq, and_true] at he
  obtain ⟨rfl, rfl, _, _, rfl, rfl, rfl, rfl, rfl⟩ := he
  exact ⟨_, _, _, _, _, _, _, rfl, q1, q2, q3, q4, q5, q6, q7⟩
 clear hN
 refine tV ?_
 (refine tG ?_; (with_reducible apply o_call); exact rfl; exact rfl; exact rfl; exact p32)
 refine tV ?_
 (refine tG ?_; (with_reducible apply o_call); exact rfl; exact rfl; exact rfl; exact p33)
 refine tV ?_
 apply o_lenV rfl rfl hv
 refine tV ?_
 refine tV ?_
 refine oB fun b hb => ?_
 obtain rfl : b = true := by rw [hb]; exact decide_eq_true (by omega)
 refine tV ?_
 apply o_iaV rfl rfl rfl hv (by decide) (by omega)
 intro p hp
 replace hp := byte_ptr (i := 0) rfl (by omega) hp
 refine tV ?_
 apply o_ldV rfl rfl hp (fun h => by omega)
 refine tV ?_
 refine oB fun b hb => ?_
 obtain rfl : b = true := by rw [hb]; rfl
 refine tV ?_
 refine tV ?_
 refine oB fun b hb => ?_
 obtain rfl : b = true := by rw [hb]; rfl
 refine tV ?_
 apply o_ldhn (l := [uc, um, I small.entry, I small.need, ug, uw, ur, us, uf]) rfl rfl e_b3 (fun h => by omega) rfl
 refine tV ?_
 apply o_ldhn (l := [vc, vm, I small.entry, I small.need, vg, vw, vr, vs, vf]) rfl rfl e_b1 (fun h => by omega) rfl
 refine tV ?_
 apply o_hcall rfl rfl rfl rfl (p18 hX hM small_WF small_WF).go
 rintro _ kk ⟨rfl, hx⟩
 rw [decide_eq_true rfl]
 replace e_b1 := hx _ _ e_b1
 replace e_b3 := hx _ _ e_b3
 replace e_b7 := hx _ _ e_b7
 replace hM := mono_I hM hx
 replace hX := mono_I hX hx
 replace hN1 := mono_I hN1 hx
 clear hx
 refine tV ?_
 refine tV ?_
 refine oB fun b hb => ?_
 obtain rfl : b = true := by rw [hb]; rfl
 refine tV ?_
 apply o_ldhn (l := [vc, vm, I small.entry, I small.need, vg, vw, vr, vs, vf]) rfl rfl e_b1 (fun h => by omega) rfl
 refine tV ?_
 apply o_ldhn (l := [vc, vm, I small.entry, I small.need, vg, vw, vr, vs, vf]) rfl rfl e_b1 (fun h => by omega) rfl
 refine tV ?_
 apply o_hcall rfl rfl rfl rfl (p19 hM hM small_WF small_WF).go
 rintro _ kk ⟨rfl, hx⟩
 rw [decide_eq_true rfl]
 replace e_b1 := hx _ _ e_b1
 replace e_b3 := hx _ _ e_b3
 replace e_b7 := hx _ _ e_b7
 replace hM := mono_I hM hx
 replace hX := mono_I hX hx
 replace hN1 := mono_I hN1 hx
 clear hx
 refine tV ?_
 apply o_ldhn (l := [vc, vm, I small.entry, I small.need, vg, vw, vr, vs, vf]) rfl rfl e_b1 (fun h => by omega) rfl
 refine tV ?_
 apply o_ldhn (l := [vc', vm', I 1, I small.need, vg', vw', vr', vs', vf']) rfl rfl e_b7 (fun h => by omega) rfl
 refine tV ?_
 apply o_hcall rfl rfl rfl rfl (p19 hM hN1 small_WF small1_WF).go
 rintro _ kk ⟨rfl, hx⟩
 rw [decide_eq_false (fun e => absurd (congrArg Image.entry e) (by decide))]
 refine tw ?_
 apply o_val rfl rfl trivial
 refine tW ?_
 apply sret_ret
 exact res_tmp (vs := [_]) rfl rfl
end Go.Proofs
end
