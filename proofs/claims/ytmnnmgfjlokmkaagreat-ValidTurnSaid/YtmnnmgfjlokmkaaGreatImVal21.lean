import Derived.Test.YtmnnmgfjlokmkaaGreatAbsTac
import Derived.Test.YtmnnmgfjlokmkaaGreatImVal10
section
open Go Go.Abs Go.Proofs.SlimCode Go.Img
namespace Go.Img
def wAt (m : Image) (a : Nat) : Int := m.words.getD a 0
def obC (m : Image) (a : Nat) : Cls := cAt m (wAt m a)
def obN (m : Image) (a : Nat) : Nat := (wAt m (a + 1)).toNat
def isRefC (c : Cls) (i : Nat) : Bool := decide (c.array = 2) || (decide (c.array = 0) && c.refs.getD i false)
def refsTo (m : Image) (a k : Nat) : List Int := ((List.range k).filter (isRefC (obC m a))).map fun i => ((a + 2 + i : Nat) : Int)
def refsAt (m : Image) (a : Nat) : List Int := refsTo m a (obN m a)
def relOf (m : Image) (l : List Nat) : List Int := l.flatMap (refsAt m)
def ObP (m : Image) (a : Nat) : Prop := IsT m (wAt m a) ∧ ((obC m a).array = 0 → wAt m (a + 1) = (obC m a).refs.length)
structure HeapOk (m : Image) (l : List Nat) : Prop where
 obs : ∀ a ∈ l, ObP m a
 stat : ∀ i, i < m.stat.length → m.statref.getD i false = true → RefP l (m.stat.getD i 0)
 rel : relOf m l = m.rel
 refs : ∀ r ∈ relOf m l, RefP l (m.words.getD r.toNat 0)
def HeapP (m : Image) : Prop := ∃ l, parse m.words = some l ∧ HeapOk m l
theorem refsTo_succ (m : Image) (a k : Nat) : refsTo m a (k + 1) = refsTo m a k ++ (if isRefC (obC m a) k = true then [((a + 2 + k : Nat) : Int)] else []) := by
 unfold refsTo
 rw [List.range_succ, List.filter_append, List.map_append]
 congr 1
 by_cases h : isRefC (obC m a) k = true
 ·simp [h]
 ·simp [h]
theorem refsTo_len (m : Image) (a k : Nat) : (refsTo m a k).length ≤ k := by
 unfold refsTo
 rw [List.length_map]
 exact Nat.le_trans (List.length_filter_le _ _) (by simp)
theorem relOf_at {m : Image} {l : List Nat} (hl : ∀ x ∈ l, Ob m.words x) {r : Int} (h : r ∈ relOf m l) : 0 ≤ r ∧ r.toNat < m.words.length := by
 obtain ⟨a, ha, hr⟩ := List.mem_flatMap.1 h
 obtain ⟨i, hi, rfl⟩ := List.mem_map.1 hr
 have h1 := List.mem_range.1 (List.mem_filter.1 hi).1
 obtain ⟨o1, ⟨_, _, o2, _⟩, o3⟩ := hl a ha
 unfold obN wAt at h1
 omega
theorem scan_cons {w : List Int} {a : Nat} {l : List Nat} (h : a < w.length) (e : scan w a = some l) : Ob w a ∧ ∃ l2, l = a :: l2 ∧ scan w (a + 2 + (w.getD (a + 1) 0).toNat) = some l2 := by
 by_cases h2 : Ob w a
 ·refine ⟨h2, ?_⟩
  rw [scan_ob h h2] at e
  cases e2 : scan w (a + 2 + (w.getD (a + 1) 0).toNat) with
  | none => rw [e2] at e; cases e
  | some l2 =>
   rw [e2] at e
   cases e
   exact ⟨l2, rfl, rfl⟩
 ·rw [scan_bad h h2] at e
  cases e
end Go.Img
set_option maxRecDepth 100000
namespace Go.Proofs
theorem BP_heap {m : Image} {l : List Nat} (h : parse m.words = some l) : BP (HeapP m) = BP (HeapOk m l) :=
 BP_congr ⟨fun ⟨l2, e, H⟩ => by rw [h] at e; cases e; exact H, fun H => ⟨l, h, H⟩⟩
theorem p83 {h : Heap} {c : List AV} {m : Image} (hc : RImg h c m) (hw : m.WF) (hsl : m.statref.length = m.stat.length) : Looks Tryz.prog ann 83 [.agg c] h (.bool (BP (HeapP m))) := by
 have hone := hc.one
 have lw : Len m.words := hw.words.1
 have lw2 := lw
 unfold Len at lw2
 have lst : Len m.stat := hw.stat.1
 unfold Len at lst
 have h32 : ∀ i, I32 (m.words.getD i 0) := fun i => by
  by_cases hi : i < m.words.length
  ·rw [List.getD_eq_getElem?_getD, List.getElem?_eq_getElem hi]
   exact hw.words.2 _ (List.getElem_mem hi)
  ·rw [List.getD_eq_getElem?_getD, List.getElem?_eq_none (by omega)]
   unfold I32
   exact ⟨by decide, by decide⟩
 have hR := hc
 obtain ⟨vc, vm, vg, vw, vr, vs, vf, rfl, v1, v2, v3, v4, v5, v6, v7⟩ := hc
 refine s_look_of rfl Tryz.func83 (frc (by with_unfolding_all rfl)) rfl ?_
 refine tS ?_
 apply o_hbox (v := .agg [vc, vm, I m.entry, I m.need, vg, vw, vr, vs, vf]) rfl rfl hone
 intro b1 hb1
 have hG0 : Ext h (upd h b1 (some (.cells [vc, vm, I m.entry, I m.need, vg, vw, vr, vs, vf]))) := .upd hb1
 have g1 : upd h b1 (some (.cells [vc, vm, I m.entry, I m.need, vg, vw, vr, vs, vf])) b1 = some (.cells [vc, vm, I m.entry, I m.need, vg, vw, vr, vs, vf]) := upd_same
 show SOps _ _ _ _ _ _ _ _ [] (upd h b1 (some (.cells [vc, vm, I m.entry, I m.need, vg, vw, vr, vs, vf]))) _
 generalize upd h b1 (some (.cells [vc, vm, I m.entry, I m.need, vg, vw, vr, vs, vf])) = G at hG0 g1 ⊢
 have gG1 := g1
 refine tV ?_
 apply o_ldh rfl rfl g1 (fun h => by omega) rfl
 apply o_hcall rfl rfl rfl rfl (p132 (v4.mono RN.mono hG0) lw hw.words.2)
 rintro r h2 ⟨hx2, hm⟩
 cases hp : parse m.words with
 | none =>
  rw [hp] at hm
  simp only at hm
  subst hm
  refine tV ?_
  apply o_alc rfl
  intro b3 hb3
  apply o_st (v := .nil .ptr) rfl rfl rfl rfl rfl rfl upd_same rfl
  rw [upd_upd]
  refine tW ?_
  exact noB rfl (fun ⟨l, e, _⟩ => by rw [hp] at e; cases e) (hG0.trans (hx2.trans (.upd hb3))) (by simp)
 | some l =>
 rw [hp] at hm
 simp only at hm
 obtain ⟨b, rfl, HO⟩ := hm
 have hl := parse_mem hp
 have hlen : m.words.length ≤ 1048576 := by
  unfold parse at hp
  split at hp
  ·assumption
  ·cases hp
 have hsc : scan m.words 0 = some l := by
  unfold parse at hp
  rwa [if_pos hlen] at hp
 rw [BP_heap hp]
 clear hp
 refine tV ?_
 apply o_alc rfl
 intro b3 hb3
 apply o_st (v := .ptr b 0) rfl rfl rfl rfl rfl rfl upd_same rfl
 rw [upd_upd]
 have hx3 := hx2.trans (.upd (o := .cells [.ptr b 0]) hb3)
 replace HO := HO.up (.upd (o := .cells [.ptr b 0]) hb3)
 have g3 : upd h2 b3 (some (.cells [.ptr b 0])) b3 = some (.cells [.ptr b 0]) := upd_same
 show SOps _ _ _ _ _ _ _ _ [] (upd h2 b3 (some (.cells [.ptr b 0]))) _
 generalize upd h2 b3 (some (.cells [.ptr b 0])) = h3 at hx3 HO g3 ⊢
 have n31 : b3 ≠ b1 := fun e => by rw [e, hx2 _ _ g1] at hb3; cases hb3
 clear hx2 hb3
 refine tW ?_
 apply o_alc rfl
 intro b5 hb5
 apply o_st (v := .fn 133 [] [.ptr b3 0]) rfl rfl rfl rfl rfl rfl upd_same rfl
 rw [upd_upd]
 have hGK := hx3.trans (.upd (o := .cells [.fn 133 [] [.ptr b3 0]]) hb5)
 replace HO := HO.up (.upd (o := .cells [.fn 133 [] [.ptr b3 0]]) hb5)
 replace g3 := Ext.upd (o := .cells [.fn 133 [] [.ptr b3 0]]) hb5 _ _ g3
 have g5 : upd h3 b5 (some (.cells [.fn 133 [] [.ptr b3 0]])) b5 = some (.cells [.fn 133 [] [.ptr b3 0]]) := upd_same
 show SOps _ _ _ _ _ _ _ _ [] (upd h3 b5 (some (.cells [.fn 133 [] [.ptr b3 0]]))) _
 generalize upd h3 b5 (some (.cells [.fn 133 [] [.ptr b3 0]])) = K at hGK HO g3 g5 ⊢
 clear hx3 hb5
 replace g1 := hGK _ _ g1
 have hhK := hG0.trans hGK
 have hG1 : ∀ id ∈ [b1], G id ≠ none := fun id hid => by
  obtain rfl := List.mem_singleton.1 hid
  rw [gG1]
  simp
 have kx : ∀ {k : Heap}, Ext K k → Ext h (killL [b1] k) := fun e => (hhK.trans e).kill fun i hi => by
  obtain rfl := List.mem_singleton.1 hi
  exact hb1
 have b1k : ∀ {k : Heap}, Ext K k → ∀ id ∈ [b1], k id ≠ none := fun e id hid => by
  obtain rfl := List.mem_singleton.1 hid
  rw [e _ _ g1]
  simp
 have p3k : ∀ {k : Heap}, Ext K k → VPtr (killL [b1] k) (.ptr b3 0) [.ptr b 0] := fun e => .p b3 0 [.ptr b 0] [.ptr b 0] (by rw [kill_out (by simpa using n31)]; exact e _ _ g3) rfl
 refine tV ?_
 refine s_loopB (fun s : Nat × List Nat × AV × List Nat => [(1, .ptr b1 0), (3, .ptr b3 0), (5, .ptr b5 0), (6, s.2.2.1), (7, .int .i64 (s.1 : Int))]) (fun s => s.2.1)
  (fun s h' => Acc (RN .i64) 1 K K h' s.2.1 s.2.2.1 (relOf m s.2.2.2) ∧ (relOf m s.2.2.2).length ≤ s.1 ∧ s.1 ≤ m.words.length ∧ (∃ rest, l = s.2.2.2 ++ rest ∧ scan m.words s.1 = some rest) ∧ ∀ x ∈ s.2.2.2, ObP m x)
  (fun s => m.words.length - s.1) (0, [], .nil .sl, []) tU rfl ⟨Acc.start .refl .refl (by simp), by simp [relOf], Nat.zero_le _, ⟨l, rfl, hsc⟩, by simp⟩ ?_
 clear hsc
 rintro ⟨a, bx, v, pre⟩ k0 ⟨A1, hln, hale, ⟨rest, hlr, hsr⟩, hob⟩
 simp only at A1 hln hale hlr hsr hob ⊢
 have hbx : ∀ i ∈ bx, h i = none := fun i hi => by
  cases e : h i with
  | none => rfl
  | some o =>
   have := A1.base0 hi
   rw [hhK _ _ e] at this
   cases this
 have hx := A1.Gh
 refine tV ?_
 apply o_ldh rfl rfl (hx _ _ g3) (fun h => by omega) rfl
 apply o_hcall rfl rfl rfl rfl (p135 (HO.up hx)).go
 rintro _ k1 ⟨rfl, hy⟩
 replace A1 := A1.up hy
 replace hx := hx.trans hy
 clear hy
 refine tV ?_
 refine oI (a < m.words.length) (fun H1 => ?_) (fun H1 => ?_)
 rotate_left
 ·refine tX ?_
  have hl0 : rest = [] := by
   rw [scan_done H1] at hsr
   exact (Option.some.inj hsr).symm
  subst hl0
  rw [List.append_nil] at hlr
  subst hlr
  obtain ⟨G2, f1, f2, f3, f4⟩ := A1.fold RN.mono
  have f5 := f3.mono RN.mono f2
  clear f3 f4 f2 f1 A1
  refine tV ?_
  apply o_ldh rfl rfl (hx _ _ g1) (fun h => by omega) rfl
  apply o_lenS rfl rfl (v6.mono RN.mono (hhK.trans hx))
  refine tV ?_
  refine s_loop (fun k : Nat => [(1, .ptr b1 0), (5, .ptr b5 0), (6, v), (89, vs), (90, .int .i64 (m.stat.length : Int)), (91, .int .i64 (k : Int))]) (fun k h' => Ext k1 h' ∧ k ≤ m.stat.length ∧ ∀ i, i < k → m.statref.getD i false = true → RefP l (m.stat.getD i 0)) (fun k => m.stat.length - k) 0
   tU ⟨.refl, Nat.zero_le _, fun i hi => by omega⟩ ?_
  rintro k k2 ⟨hy, hk, ht⟩
  replace f5 := f5.mono RN.mono hy
  replace hx := hx.trans hy
  refine tW ?_
  refine oI (k < m.stat.length) (fun H2 => ?_) (fun H2 => ?_)
  rotate_left
  ·refine tW ?_
   apply o_ldh rfl rfl (hx _ _ g1) (fun h => by omega) rfl
   have hlr : Len (relOf m l) := by unfold Len; omega
   apply o_hcall rfl rfl rfl rfl (p72 f5 (v5.mono RN.mono (hhK.trans hx)) hlr hw.rel.1).go
   rintro _ k3 ⟨rfl, hz⟩
   replace hx := hx.trans hz
   replace f5 := f5.mono RN.mono hz
   clear hz
   by_cases H3 : relOf m l = m.rel
   rotate_left
   ·rw [decide_eq_false H3]
    refine tW ?_
    exact noB rfl (fun h => H3 h.rel) (hhK.trans hx) hbx
   rw [decide_eq_true H3]
   refine tW ?_
   apply o_hcall rfl rfl rfl rfl (all_of_BP (P := fun r => RefP l (m.words.getD r.toNat 0)) (pall_int f5 hlr (asks_int fun r hr h2 e => by
    obtain ⟨q1, q2⟩ := relOf_at hl hr
    obtain ⟨i, rfl⟩ : ∃ i : Nat, r = i := ⟨r.toNat, by omega⟩
    exact p138 (HO.up (hx.trans e)) (RImg.mono _ _ _ _ ((hhK.trans hx).trans e) hR) hw (e _ _ (hx _ _ g1)) (e _ _ (hx _ _ g3)) (e _ _ (hx _ _ g5)) hl q2))).go
   rintro _ k4 ⟨rfl, hz⟩
   replace hx := hx.trans hz
   clear hz
   by_cases H4 : ∀ r ∈ relOf m l, RefP l (m.words.getD r.toNat 0)
   rotate_left
   ·rw [BP_false H4]
    refine tW ?_
    exact noB rfl (fun h => H4 h.refs) (hhK.trans hx) hbx
   rw [BP_true H4]
   refine tW ?_
   exact yesB rfl ⟨hob, fun i hi => ht i (by omega), H3, H4⟩ (hhK.trans hx) hbx
  refine tV ?_
  apply o_iaS rfl rfl rfl (v6.mono RN.mono (hhK.trans hx)) H2
  intro p c hp hc _
  apply o_ldG rfl rfl hp (.one hc) (fun _ => .refl)
  refine tV ?_
  apply o_ldh rfl rfl (hx _ _ g1) (fun h => by omega) rfl
  refine tV ?_
  apply o_iaS rfl rfl rfl (v7.mono RB.mono (hhK.trans hx)) (show k < _ by omega)
  intro p2 c2 hp2 hc2 _
  apply o_ldG rfl rfl hp2 (.one hc2) (fun _ => .refl)
  have hr1 : m.statref.getD k false = m.statref[k]'(by omega) := by rw [List.getD_eq_getElem?_getD, List.getElem?_eq_getElem (by omega)]; rfl
  have hr2 : m.stat.getD k 0 = m.stat[k] := by rw [List.getD_eq_getElem?_getD, List.getElem?_eq_getElem (by omega)]; rfl
  cases hsr1 : m.statref[k]'(by omega) with
  | false =>
   refine tW ?_
   rw [w64 (n := (k : Int) + 1) (by omega) (by omega)]
   refine ⟨k + 1, by simp only; omega, tU, rfl, hy, by omega, fun i hi hti => ?_⟩
   by_cases e : i = k
   rotate_left
   ·exact ht i (by omega) hti
   subst e
   rw [hr1, hsr1] at hti
   cases hti
  | true =>
   refine tW ?_
   apply o_ldh rfl rfl (hx _ _ g5) (fun h => by omega) rfl
   refine tV ?_
   apply o_hcall rfl rfl rfl rfl (p133 (HO.up hx) (hx _ _ g3) hl lw (hw.stat.2 _ (List.getElem_mem H2))).go
   rintro _ k3 ⟨rfl, hz⟩
   by_cases H3 : RefP l m.stat[k]
   rotate_left
   ·rw [BP_false H3]
    refine tW ?_
    exact noB rfl (fun h => H3 (by have := h.stat k H2 (by rw [hr1, hsr1]); rwa [hr2] at this)) (hhK.trans (hx.trans hz)) hbx
   rw [BP_true H3]
   refine tW ?_
   rw [w64 (n := (k : Int) + 1) (by omega) (by omega)]
   refine ⟨k + 1, by simp only; omega, tU, rfl, hy.trans hz, by omega, fun i hi hti => ?_⟩
   by_cases e : i = k
   rotate_left
   ·exact ht i (by omega) hti
   subst e
   rw [hr2]
   exact H3
 obtain ⟨hOb, rest2, rfl, hsr2⟩ := scan_cons H1 hsr
 have hal : a ∈ l := by rw [hlr]; simp
 have hnn : 0 ≤ m.words.getD (a + 1) 0 := hOb.2.1.2.2.1
 have hN : (obN m a : Int) = m.words.getD (a + 1) 0 := by unfold obN wAt; omega
 have hN2 := hOb.2.2
 have ha1 := hOb.1
 clear hsr hOb
 refine tX ?_
 apply s_regX [b1] [.B, .A, .A, .A, .A, .A] (b1k hx) rfl
 apply x_ldB rfl rfl (.p b1 0 [vc, vm, I m.entry, I m.need, vg, vw, vr, vs, vf] [vc, vm, I m.entry, I m.need, vg, vw, vr, vs, vf] (hx _ _ g1) rfl) (by simp [PtIn]) (.many rfl rfl)
 apply x_ldA rfl rfl (p3k hx) (.one rfl)
 apply x_v rfl rfl trivial
 apply x_lookA rfl rfl rfl (by exact p137 ((HO.up hx).kill hG1) hl lw hw.words.2 hal)
 intro k2 hy
 replace A1 := A1.up hy
 replace hx := hx.trans hy
 clear hy
 apply x_lookA rfl rfl rfl (by exact p79 (RImg.mono _ _ _ _ (kx hx) hR) hw)
 intro k3 hy
 replace A1 := A1.up hy
 replace hx := hx.trans hy
 clear hy
 by_cases H2 : IsT m (m.words.getD a 0)
 rotate_left
 ·rw [BP_false H2]
  apply x_v rfl rfl trivial
  apply x_nil
  refine tW ?_
  exact noB rfl (fun h => H2 (h.obs a hal).1) (hhK.trans hx) hbx
 rw [BP_true H2]
 apply x_v rfl rfl trivial
 apply x_nil
 obtain ⟨hn1, em⟩ := cAt_at H2
 have hn0 : m.words.getD a 0 = ((m.words.getD a 0).toNat : Int) := by have := H2.1; omega
 refine tX ?_
 apply s_regX [b1] [.A, .A, .B, .A, .A, .A, .A, .A, .C, .D] (b1k hx) rfl
 apply x_v rfl rfl trivial
 apply x_v rfl rfl trivial
 apply x_ld rfl rfl (hx _ _ g1) (by simp) rfl
 apply x_ldA rfl rfl (p3k hx) (.one rfl)
 apply x_v rfl rfl trivial
 apply x_lookA rfl rfl rfl (by exact p137 ((HO.up hx).kill hG1) hl lw hw.words.2 hal)
 intro k4 hy
 replace A1 := A1.up hy
 replace hx := hx.trans hy
 clear hy
 apply x_iaGK (z := (m.words.getD a 0).toNat) rfl rfl (by rw [← hn0]; rfl) (kx hx) v1 hn1
 intro p d hp hd hdl
 have hone2 := hd.one
 have eC : obC m a = m.classes[(m.words.getD a 0).toNat] := em
 rw [← eC] at hd
 obtain ⟨wr, ws, wt, wf, rfl, u1, _⟩ := hd
 apply x_ldA rfl rfl hp (.many rfl hdl)
 apply x_alcC rfl
 intro b8 hb8
 have A2 := A1.box (o := .cells [.str (obC m a).name, I (obC m a).super, I (obC m a).init, wr, ws, wt, wf, I (obC m a).array, I (obC m a).elem, .bool (obC m a).thrown]) hb8
 have n81 : b8 ≠ b1 := fun e => by rw [e, hx _ _ g1] at hb8; cases hb8
 refine x_D (R := fun E' bx' k => E' = undefE none _ ∧ bx' = b8 :: bx ∧ k = upd k4 b8 (some (.cells [.str (obC m a).name, I (obC m a).super, I (obC m a).init, wr, ws, wt, wf, I (obC m a).array, I (obC m a).elem, .bool (obC m a).thrown]))) (o_st (v := .agg [.str (obC m a).name, I (obC m a).super, I (obC m a).init, wr, ws, wt, wf, I (obC m a).array, I (obC m a).elem, .bool (obC m a).thrown]) rfl rfl rfl rfl rfl (eC ▸ hone2) upd_same (splice_full (by rfl)) (o_nil ⟨rfl, rfl, rfl, upd_upd⟩)) ?_
 rintro _ _ _ ⟨rfl, rfl, rfl⟩
 refine ⟨fun id hid => by obtain rfl := List.mem_singleton.1 hid; rw [upd_ne n81.symm, hx _ _ g1]; simp, ?_⟩
 apply x_nil
 have e8 : upd k4 b8 (some (.cells [.str (obC m a).name, I (obC m a).super, I (obC m a).init, wr, ws, wt, wf, I (obC m a).array, I (obC m a).elem, .bool (obC m a).thrown])) b8 = some (.cells [.str (obC m a).name, I (obC m a).super, I (obC m a).init, wr, ws, wt, wf, I (obC m a).array, I (obC m a).elem, .bool (obC m a).thrown]) := upd_same
 have hx45 : Ext k4 (killL [b8] (upd k4 b8 (some (.cells [.str (obC m a).name, I (obC m a).super, I (obC m a).init, wr, ws, wt, wf, I (obC m a).array, I (obC m a).elem, .bool (obC m a).thrown])))) := (Ext.upd hb8).kill fun i hi => by
  obtain rfl := List.mem_singleton.1 hi
  exact hb8
 generalize upd k4 b8 (some (.cells [.str (obC m a).name, I (obC m a).super, I (obC m a).init, wr, ws, wt, wf, I (obC m a).array, I (obC m a).elem, .bool (obC m a).thrown])) = k5 at A2 e8 hx45 ⊢
 clear A1 hp
 refine tv ?_
 refine s_joinB (σ := Unit) (fun _ => [(1, .ptr b1 0), (3, .ptr b3 0), (5, .ptr b5 0), (6, v), (7, .int .i64 (a : Int)), (8, .ptr b8 0)]) (fun _ => b8 :: bx) (fun _ h' => Ext k5 h' ∧ Acc (RN .i64) 1 K K h' (b8 :: bx) v (relOf m pre) ∧ ObP m a) ?_ ?_
 ·have hbx8 : ∀ i ∈ b8 :: bx, h i = none := fun i hi => by
   cases e : h i with
   | none => rfl
   | some o =>
    have := A2.base0 hi
    rw [hhK _ _ e] at this
    cases this
  refine tX ?_
  apply s_regX [b8] [.A, .B, .A, .A, .A, .A, .A, .A, .B, .C, .A, .A] (fun id hid => by obtain rfl := List.mem_singleton.1 hid; rw [e8]; simp) rfl
  apply x_v rfl rfl trivial
  apply x_ld rfl rfl e8 (by simp) rfl
  apply x_bool rfl rfl trivial
  intro b3' hb3'
  by_cases H3 : (obC m a).array = 0
  rotate_left
  ·obtain rfl : b3' = false := by
    rw [hb3']
    exact decide_eq_false H3
   apply x_v rfl rfl trivial
   apply x_gF rfl rfl
   apply x_gF rfl rfl
   apply x_gF rfl rfl
   apply x_gF rfl rfl
   apply x_gF rfl rfl
   apply x_gF rfl rfl
   apply x_gF rfl rfl
   apply x_v rfl rfl trivial
   apply x_nil
   refine tW ?_
   refine ⟨(), tU, rfl, .refl, A2, H2, fun e => absurd e H3⟩
  obtain rfl : b3' = true := by
   rw [hb3']
   exact decide_eq_true H3
  apply x_v rfl rfl trivial
  apply x_gT rfl
  apply x_ldA rfl rfl (.p b3 0 [.ptr b 0] [.ptr b 0] (hx45 _ _ (hx _ _ g3)) rfl) (.one rfl)
  apply x_gT rfl
  apply x_v rfl rfl trivial
  apply x_gT rfl
  apply x_lookA rfl rfl rfl (by exact p136 (HO.up (hx.trans hx45)) hl lw hw.words.2 hal)
  intro k6 hy
  apply x_gT rfl
  apply x_v rfl rfl trivial
  apply x_gT rfl
  apply x_ld rfl rfl (hy _ _ e8) (by simp) rfl
  apply x_gT rfl
  apply x_lenC rfl rfl (u1.mono RB.mono (hhK.trans (A2.Gh.trans hy)))
  apply x_gT rfl
  apply x_bool rfl rfl trivial
  intro b4 hb4
  apply x_v rfl rfl trivial
  apply x_nil
  by_cases H4 : m.words.getD (a + 1) 0 = (obC m a).refs.length
  rotate_left
  ·obtain rfl : b4 = true := by
    rw [hb4]
    simpa using H4
   refine tW ?_
   exact noB rfl (fun h => H4 ((h.obs a hal).2 H3)) (hhK.trans (A2.Gh.trans hy)) hbx8
  obtain rfl : b4 = false := by
   rw [hb4]
   simpa using H4
  refine tW ?_
  refine ⟨(), tU, rfl, hy, A2.up hy, H2, fun _ => H4⟩
 rintro _ k7 ⟨hy, A3, hObP⟩
 replace e8 := hy _ _ e8
 clear hy A2 hx45 hx
 have hx := A3.Gh
 refine tV ?_
 apply o_ldh rfl rfl (hx _ _ g3) (fun h => by omega) rfl
 refine tV ?_
 apply o_hcall rfl rfl rfl rfl (p136 (HO.up hx) hl lw hw.words.2 hal).go
 rintro _ k8 ⟨rfl, hy⟩
 replace A3 := A3.up hy
 replace e8 := hy _ _ e8
 clear hy hx
 refine tV ?_
 refine s_loop (fun s : Nat × AV => [(1, .ptr b1 0), (3, .ptr b3 0), (5, .ptr b5 0), (6, s.2), (7, .int .i64 (a : Int)), (8, .ptr b8 0), (60, .int .i64 (m.words.getD (a + 1) 0)), (61, .int .i64 (s.1 : Int))])
  (fun s h' => Acc (RN .i64) 1 K K h' (b8 :: bx) s.2 (relOf m pre ++ refsTo m a s.1) ∧ h' b8 = k8 b8 ∧ s.1 ≤ obN m a) (fun s => obN m a - s.1) (0, v)
  tU ⟨by simpa [refsTo] using A3, rfl, Nat.zero_le _⟩ ?_
 rintro ⟨k, v2⟩ k9 ⟨A4, f8, hk⟩
 simp only at A4 f8 hk ⊢
 rw [e8] at f8
 refine tW ?_
 refine oI (k < obN m a) (fun H5 => ?_) (fun H5 => ?_)
 rotate_left
 ·refine tW ?_
  have hx := A4.Gh
  apply o_ldh rfl rfl (hx _ _ g3) (fun h => by omega) rfl
  refine tV ?_
  apply o_hcall rfl rfl rfl rfl (p136 (HO.up hx) hl lw hw.words.2 hal).go
  rintro _ k10 ⟨rfl, hy⟩
  replace A4 := A4.up hy
  apply o_as (w := I (2 + m.words.getD (a + 1) 0)) rfl rfl trivial (by rw [w64 (by omega) (by omega)])
  apply o_as (w := I ((a + 2 + (m.words.getD (a + 1) 0).toNat : Nat) : Int)) rfl rfl trivial (by rw [w64 (by omega) (by omega)]; congr 1; omega)
  refine tW ?_
  have hkN : k = obN m a := by omega
  have hrl := refsTo_len m a k
  have hap : relOf m (pre ++ [a]) = relOf m pre ++ refsTo m a k := by
   rw [hkN]
   unfold relOf refsAt
   simp
  refine ⟨(a + 2 + (m.words.getD (a + 1) 0).toNat, b8 :: bx, v2, pre ++ [a]), by simp only; omega, tU, rfl, by simp only; rw [hap]; exact A4, ?_, by simp only; omega, ⟨rest2, by simp only; rw [hlr]; simp, hsr2⟩, fun x hx => ?_⟩
  ·simp only
   rw [hap, List.length_append]
   omega
  ·rcases List.mem_append.1 hx with hx | hx
   ·exact hob x hx
   ·obtain rfl := List.mem_singleton.1 hx
    exact hObP
 refine tV ?_
 apply o_ldh rfl rfl f8 (fun h => by omega) rfl
 refine tV ?_
 refine oI ((obC m a).array = 2) (fun H6 => ?_) (fun H6 => ?_)
 ·have hr : isRefC (obC m a) k = true := by simp [isRefC, H6]
  refine tW ?_
  rw [w64 (n := (a : Int) + 2) (by omega) (by omega), w64 (n := (a : Int) + 2 + (k : Int)) (by omega) (by omega), show (a : Int) + 2 + (k : Int) = ((a + 2 + k : Nat) : Int) by omega]
  apply o_val rfl rfl ⟨rfl, rfl⟩
  obtain ⟨cs, hcs, O⟩ := A4.osl
  apply o_appO (n := 1) rfl rfl rfl rfl O rfl rfl rfl (by have := refsTo_len m a k; simp only [List.length_append]; omega)
  intro v3 k10 O2 hm2
  have A5 := A4.app hcs (show RN .i64 _ [I ((a + 2 + k : Nat) : Int)] ((a + 2 + k : Nat) : Int) from rfl) rfl O2
  have f9 := A4.live hm2 (by simp) f8
  refine tW ?_
  rw [w64 (n := (k : Int) + 1) (by omega) (by omega)]
  refine ⟨(k + 1, v3), by simp only; omega, tU, rfl, ?_, f9.trans e8.symm, by simp only; omega⟩
  simp only
  rw [refsTo_succ, if_pos hr, ← List.append_assoc]
  exact A5
 refine tV ?_
 apply o_ldh rfl rfl f8 (fun h => by omega) rfl
 refine tV ?_
 refine oI ((obC m a).array = 0) (fun H7 => ?_) (fun H7 => ?_)
 rotate_left
 ·have hr : isRefC (obC m a) k = false := by simp [isRefC, H6, H7]
  refine tW ?_
  rw [w64 (n := (k : Int) + 1) (by omega) (by omega)]
  refine ⟨(k + 1, v2), by simp only; omega, tU, rfl, ?_, f8.trans e8.symm, by simp only; omega⟩
  simp only
  rw [refsTo_succ, if_neg (by rw [hr]; decide), List.append_nil]
  exact A4
 have hkr : k < (obC m a).refs.length := by have := hObP.2 H7; unfold wAt at this; omega
 refine tV ?_
 apply o_ldh rfl rfl f8 (fun h => by omega) rfl
 refine tV ?_
 apply o_iaS rfl rfl rfl (u1.mono RB.mono (hhK.trans A4.Gh)) hkr
 intro p2 c2 hp2 hc2 _
 refine tV ?_
 apply o_ldG rfl rfl hp2 (.one hc2) (fun _ => .refl)
 have hgr : (obC m a).refs.getD k false = (obC m a).refs[k] := by rw [List.getD_eq_getElem?_getD, List.getElem?_eq_getElem hkr]; rfl
 cases hrk : (obC m a).refs[k] with
 | true =>
  have hr : isRefC (obC m a) k = true := by unfold isRefC; rw [hgr, hrk]; simp [H7]
  refine tW ?_
  rw [w64 (n := (a : Int) + 2) (by omega) (by omega), w64 (n := (a : Int) + 2 + (k : Int)) (by omega) (by omega), show (a : Int) + 2 + (k : Int) = ((a + 2 + k : Nat) : Int) by omega]
  apply o_val rfl rfl ⟨rfl, rfl⟩
  obtain ⟨cs, hcs, O⟩ := A4.osl
  apply o_appO (n := 1) rfl rfl rfl rfl O rfl rfl rfl (by have := refsTo_len m a k; simp only [List.length_append]; omega)
  intro v3 k10 O2 hm2
  have A5 := A4.app hcs (show RN .i64 _ [I ((a + 2 + k : Nat) : Int)] ((a + 2 + k : Nat) : Int) from rfl) rfl O2
  have f9 := A4.live hm2 (by simp) f8
  refine tW ?_
  rw [w64 (n := (k : Int) + 1) (by omega) (by omega)]
  refine ⟨(k + 1, v3), by simp only; omega, tU, rfl, ?_, f9.trans e8.symm, by simp only; omega⟩
  simp only
  rw [refsTo_succ, if_pos hr, ← List.append_assoc]
  exact A5
 | false =>
  have hr : isRefC (obC m a) k = false := by unfold isRefC; rw [hgr, hrk]; simp [H6]
  refine tW ?_
  rw [w64 (n := (k : Int) + 1) (by omega) (by omega)]
  refine ⟨(k + 1, v2), by simp only; omega, tU, rfl, ?_, f8.trans e8.symm, by simp only; omega⟩
  simp only
  rw [refsTo_succ, if_neg (by rw [hr]; decide), List.append_nil]
  exact A4
end Go.Proofs
end
section
open Go Go.Abs Go.Proofs.SlimCode Go.Img
namespace Go.Img
def SizesP (m : Image) : Prop := (1 ≤ m.classes.length ∧ m.classes.length ≤ 200) ∧ m.methods.length ≤ 400 ∧ m.stat.length ≤ 200 ∧ m.stat.length = m.statref.length
structure FirstP (m : Image) : Prop where
 sizes : SizesP m
 given : GivenP m
 supers : SupersP m
 entry : Bare m m.entry
 need : m.need = -1 ∨ IsT m m.need
structure ValidP (m : Image) : Prop where
 first : FirstP m
 kinds : ∀ i, (hi : i < m.classes.length) → KindP m i m.classes[i]
 meths : ∀ x ∈ m.methods, MethP m x
 heap : HeapP m
end Go.Img
set_option maxRecDepth 100000
namespace Go.Proofs
theorem p25 {h : Heap} {c : List AV} {m : Image} (hc : RImg h c m) (hw : m.WF) (hfb : ∀ x ∈ m.classes, x.faces.length ≤ 1048577) : Looks Tryz.prog ann 25 [.agg c] h (.bool (BP (ValidP m))) := by
 have hone := hc.one
 have hR := hc
 obtain ⟨vc, vm, vg, vw, vr, vs, vf, rfl, v1, v2, v3, v4, v5, v6, v7⟩ := hc
 have lcl : Len m.classes := hw.classes.1
 have lme : Len m.methods := hw.methods.1
 have lst : Len m.stat := hw.stat.1
 have lsr : Len m.statref := hw.statref
 unfold Len at lcl lst lsr
 refine s_look_of rfl Tryz.func25 (frc (by with_unfolding_all rfl)) rfl ?_
 refine tS ?_
 apply o_val rfl rfl hone
 refine tV ?_
 apply o_val (v := .agg [vc, vm, I m.entry, I m.need, vg, vw, vr, vs, vf]) rfl rfl trivial
 apply o_alc rfl
 intro b3 hb3
 apply o_st (v := .agg [vc, vm, I m.entry, I m.need, vg, vw, vr, vs, vf]) rfl rfl rfl rfl rfl hone upd_same (splice_full (by rfl))
 rw [upd_upd]
 have hK : Ext h (upd h b3 (some (.cells [vc, vm, I m.entry, I m.need, vg, vw, vr, vs, vf]))) := .upd hb3
 have g3 : upd h b3 (some (.cells [vc, vm, I m.entry, I m.need, vg, vw, vr, vs, vf])) b3 = some (.cells [vc, vm, I m.entry, I m.need, vg, vw, vr, vs, vf]) := upd_same
 show SOps _ _ _ _ _ _ _ _ [b3] (upd h b3 (some (.cells [vc, vm, I m.entry, I m.need, vg, vw, vr, vs, vf]))) _
 generalize upd h b3 (some (.cells [vc, vm, I m.entry, I m.need, vg, vw, vr, vs, vf])) = K at hK g3 ⊢
 have hbx : ∀ i ∈ [b3], h i = none := fun i hi => by
  obtain rfl := List.mem_singleton.1 hi
  exact hb3
 refine tv ?_
 refine tv ?_
 refine s_join (σ := Unit) (fun _ => [(1, .tptr [vc, vm, I m.entry, I m.need, vg, vw, vr, vs, vf] 0), (3, .ptr b3 0), (4, .bool (BP (SizesP m)))]) (fun _ h' => Ext K h') ?_ ?_
 ·have hx : Ext K K := .refl
  refine tV ?_
  apply o_lenS rfl rfl (v1.mono RCls.mono hK)
  refine tV ?_
  apply o_hcall rfl rfl rfl rfl (p75 (n := (m.classes.length : Int)) (a := 1) (b := 200)).go
  rintro _ k1 ⟨rfl, hy⟩
  replace hx := hx.trans hy
  clear hy
  by_cases H1 : 1 ≤ (m.classes.length : Int) ∧ (m.classes.length : Int) ≤ 200
  rotate_left
  ·rw [BP_false H1]
   rw [show BP (SizesP m) = false from BP_false (fun h => H1 (by have := h.1; omega))]
   refine tW ?_
   refine ⟨(), tU, rfl, hx⟩
  rw [BP_true H1]
  refine tW ?_
  apply o_lenS rfl rfl (v2.mono RMth.mono (hK.trans hx))
  refine tV ?_
  refine oI (m.methods.length ≤ 400) (fun H2 => ?_) (fun H2 => ?_)
  rotate_left
  ·rw [show BP (SizesP m) = false from BP_false (fun h => H2 h.2.1)]
   refine tW ?_
   refine ⟨(), tU, rfl, hx⟩
  refine tW ?_
  apply o_lenS rfl rfl (v6.mono RN.mono (hK.trans hx))
  refine tV ?_
  refine oI (m.stat.length ≤ 200) (fun H3 => ?_) (fun H3 => ?_)
  rotate_left
  ·rw [show BP (SizesP m) = false from BP_false (fun h => H3 h.2.2.1)]
   refine tW ?_
   refine ⟨(), tU, rfl, hx⟩
  refine tW ?_
  apply o_lenS rfl rfl (v6.mono RN.mono (hK.trans hx))
  refine tV ?_
  apply o_lenS rfl rfl (v7.mono RB.mono (hK.trans hx))
  refine tV ?_
  refine oI (m.stat.length = m.statref.length) (fun H4 => ?_) (fun H4 => ?_)
  rotate_left
  ·rw [show BP (SizesP m) = false from BP_false (fun h => H4 h.2.2.2)]
   refine tW ?_
   refine ⟨(), tU, rfl, hx⟩
  rw [show BP (SizesP m) = true from BP_true ⟨by omega, H2, H3, H4⟩]
  refine tW ?_
  refine ⟨(), tU, rfl, hx⟩
 rintro _ k0 hx
 refine s_join (σ := Unit) (fun _ => [(1, .tptr [vc, vm, I m.entry, I m.need, vg, vw, vr, vs, vf] 0), (3, .ptr b3 0)]) (fun _ h' => Ext K h' ∧ FirstP m) ?_ ?_
 ·by_cases H1 : SizesP m
  rotate_left
  ·rw [BP_false H1]
   refine tW ?_
   exact noB rfl (fun h => H1 h.first.sizes) (hK.trans hx) hbx
  rw [BP_true H1]
  refine tW ?_
  apply o_ldhn rfl rfl (hx _ _ g3) (fun h => by omega) rfl
  refine tV ?_
  apply o_hcall rfl rfl rfl rfl (p76 (RImg.mono _ _ _ _ (hK.trans hx) hR) hw).go
  rintro _ k1 ⟨rfl, hy⟩
  replace hx := hx.trans hy
  clear hy
  by_cases H2 : GivenP m
  rotate_left
  ·rw [BP_false H2]
   refine tW ?_
   exact noB rfl (fun h => H2 h.first.given) (hK.trans hx) hbx
  rw [BP_true H2]
  refine tW ?_
  apply o_ldhn rfl rfl (hx _ _ g3) (fun h => by omega) rfl
  refine tV ?_
  apply o_hcall rfl rfl rfl rfl (p77 (RImg.mono _ _ _ _ (hK.trans hx) hR) hw).go
  rintro _ k2 ⟨rfl, hy⟩
  replace hx := hx.trans hy
  clear hy
  by_cases H3 : SupersP m
  rotate_left
  ·rw [BP_false H3]
   refine tW ?_
   exact noB rfl (fun h => H3 h.first.supers) (hK.trans hx) hbx
  rw [BP_true H3]
  refine tW ?_
  apply o_ldhn rfl rfl (hx _ _ g3) (fun h => by omega) rfl
  refine tV ?_
  apply o_hcall rfl rfl rfl rfl (p78 (RImg.mono _ _ _ _ (hK.trans hx) hR) hw).go
  rintro _ k3 ⟨rfl, hy⟩
  replace hx := hx.trans hy
  clear hy
  by_cases H4 : Bare m m.entry
  rotate_left
  ·rw [BP_false H4]
   refine tW ?_
   exact noB rfl (fun h => H4 h.first.entry) (hK.trans hx) hbx
  rw [BP_true H4]
  refine tW ?_
  refine oI (m.need ≠ -1) (fun H5 => ?_) (fun H5 => ?_)
  rotate_left
  ·refine tW ?_
   refine ⟨(), tU, rfl, hx, H1, H2, H3, H4, .inl (by omega)⟩
  refine tW ?_
  apply o_ldhn rfl rfl (hx _ _ g3) (fun h => by omega) rfl
  refine tV ?_
  apply o_hcall rfl rfl rfl rfl (p79 (RImg.mono _ _ _ _ (hK.trans hx) hR) hw).go
  rintro _ k4 ⟨rfl, hy⟩
  replace hx := hx.trans hy
  clear hy
  by_cases H6 : IsT m m.need
  rotate_left
  ·rw [BP_false H6]
   refine tW ?_
   exact noB rfl (fun h => h.first.need.elim H5 H6) (hK.trans hx) hbx
  rw [BP_true H6]
  refine tW ?_
  refine ⟨(), tU, rfl, hx, H1, H2, H3, H4, .inr H6⟩
 clear hx
 rintro _ k1 ⟨hx, hF⟩
 refine tV ?_
 apply o_lenS rfl rfl (v1.mono RCls.mono (hK.trans hx))
 refine tV ?_
 refine s_loopB (fun s : Nat × List Nat => [(1, .tptr [vc, vm, I m.entry, I m.need, vg, vw, vr, vs, vf] 0), (3, .ptr b3 0), (66, vc), (67, .int .i64 (m.classes.length : Int)), (68, .int .i64 (s.1 : Int))]) (fun s => s.2)
  (fun s h' => Ext K h' ∧ (∀ i ∈ s.2, h i = none) ∧ s.1 ≤ m.classes.length ∧ ∀ i, i < s.1 → (hi : i < m.classes.length) → KindP m i m.classes[i]) (fun s => m.classes.length - s.1) (0, [b3])
  tU rfl ⟨hx, hbx, Nat.zero_le _, fun i hi => by omega⟩ ?_
 clear hbx hx
 rintro ⟨k, bx⟩ k2 ⟨hx, hbx, hk, ht⟩
 simp only at hx hbx hk ht ⊢
 refine tW ?_
 refine oI (k < m.classes.length) (fun H1 => ?_) (fun H1 => ?_)
 rotate_left
 ·refine tW ?_
  apply o_ldhn rfl rfl (hx _ _ g3) (fun h => by omega) rfl
  refine tV ?_
  apply o_hcall rfl rfl rfl rfl (all_of_BP (P := fun x => MethP m x) (pall_mth (v2.mono RMth.mono (hK.trans hx)) lme (asks_agg fun x hxm h2 e i hc2 _ => p82 (RImg.mono _ _ _ _ ((hK.trans hx).trans i) hR) hw hc2 (hw.methods.2 x hxm)))).go
  rintro _ k3 ⟨rfl, hy⟩
  replace hx := hx.trans hy
  clear hy
  by_cases H2 : ∀ x ∈ m.methods, MethP m x
  rotate_left
  ·rw [BP_false H2]
   refine tW ?_
   exact noB rfl (fun h => H2 h.meths) (hK.trans hx) hbx
  rw [BP_true H2]
  refine tW ?_
  apply o_ldhn rfl rfl (hx _ _ g3) (fun h => by omega) rfl
  refine tV ?_
  apply o_hcall rfl rfl rfl rfl (p83 (RImg.mono _ _ _ _ (hK.trans hx) hR) hw hF.sizes.2.2.2.symm).go
  rintro _ k4 ⟨rfl, hy⟩
  replace hx := hx.trans hy
  clear hy
  by_cases H3 : HeapP m
  rotate_left
  ·rw [BP_false H3]
   refine tW ?_
   exact noB rfl (fun h => H3 h.heap) (hK.trans hx) hbx
  rw [BP_true H3]
  refine tW ?_
  exact yesB rfl ⟨hF, fun i hi => ht i (by omega) hi, H2, H3⟩ (hK.trans hx) hbx
 refine tV ?_
 apply o_iaS rfl rfl rfl (v1.mono RCls.mono (hK.trans hx)) H1
 intro p d hp hd hdl
 apply o_ldG rfl rfl hp (.many rfl hdl) (fun _ => .refl)
 apply o_alc rfl
 intro b6 hb6
 refine tV ?_
 apply o_st (v := .agg d) rfl rfl rfl rfl hdl hd.one upd_same (splice_full (show d.length = _ by rw [hdl]; rfl))
 rw [upd_upd]
 have g6 : upd k2 b6 (some (.cells d)) b6 = some (.cells d) := upd_same
 have hd2 : RCls (upd k2 b6 (some (.cells d))) d m.classes[k] := RCls.mono _ _ _ _ (.upd hb6) hd
 have hb6h : h b6 = none := by
  cases e : h b6 with
  | none => rfl
  | some o => rw [hx _ _ (hK _ _ e)] at hb6; cases hb6
 replace hx := hx.trans (.upd (o := .cells d) hb6)
 show SOps _ _ _ _ _ _ _ _ (b6 :: bx) (upd k2 b6 (some (.cells d))) _
 generalize upd k2 b6 (some (.cells d)) = k3 at g6 hd2 hx ⊢
 have hbx2 : ∀ i ∈ b6 :: bx, h i = none := by
  intro i hi
  rcases List.mem_cons.1 hi with rfl | hi
  ·exact hb6h
  ·exact hbx i hi
 refine tV ?_
 apply o_ldhn rfl rfl (hx _ _ g3) (fun h => by omega) rfl
 refine tV ?_
 apply o_ldhn rfl rfl g6 (fun h => by omega) (sliceL_all hdl)
 refine tV ?_
 apply o_hcall rfl rfl rfl rfl (p80 (RImg.mono _ _ _ _ (hK.trans hx) hR) hw hd2 (hw.classes.2 _ (List.getElem_mem H1)) (hfb _ (List.getElem_mem H1))).go
 rintro _ k4 ⟨rfl, hy⟩
 replace hx := hx.trans hy
 clear hy
 by_cases H2 : KindP m k m.classes[k]
 rotate_left
 ·rw [BP_false H2]
  refine tW ?_
  exact noB rfl (fun h => H2 (h.kinds k H1)) (hK.trans hx) hbx2
 rw [BP_true H2]
 refine tW ?_
 rw [w64 (n := (k : Int) + 1) (by omega) (by omega)]
 refine ⟨(k + 1, b6 :: bx), by simp only; omega, tU, rfl, hx, hbx2, by simp only; omega, fun i hi hi2 => ?_⟩
 by_cases e : i = k
 ·subst e
  exact H2
 ·exact ht i (by simp only at hi; omega) hi2
end Go.Proofs
end
section
open Go Go.Abs Go.Proofs.SlimCode Go.Img
set_option maxRecDepth 100000
namespace Go.Proofs
theorem p140 {h : Heap} {n k : Int} : Looks Tryz.prog ann 140 [I n, I k] h (.bool (BP (0 ≤ n ∧ n < k))) := by
 have hx : Ext h h := .refl
 refine s_look_of rfl Tryz.func140 (frc (by with_unfolding_all rfl)) rfl ?_
 refine tV ?_
 refine oI (0 ≤ n) (fun H1 => ?_) (fun H1 => ?_)
 rotate_left
 ·refine tW ?_
  exact noB rfl (fun h => H1 h.1) hx (by simp)
 refine tV ?_
 refine oI (n < k) (fun H2 => ?_) (fun H2 => ?_)
 rotate_left
 ·refine tW ?_
  exact noB rfl (fun h => H2 h.2) hx (by simp)
 refine tW ?_
 exact yesB rfl ⟨H1, H2⟩ hx (by simp)
theorem p85 {h : Heap} {c : List AV} {m : Image} {n : Int} (hc : RImg h c m) (_hw : m.WF) : Looks Tryz.prog ann 85 [.agg c, I n] h (.bool (BP (IsT m n))) := by
 have hR := hc
 have hone := hc.one
 obtain ⟨vc, vm, vg, vw, vr, vs, vf, rfl, v1, v2, v3, v4, v5, v6, v7⟩ := hc
 have hx : Ext h h := .refl
 refine s_look_of rfl Tryz.func85 (frc (by with_unfolding_all rfl)) rfl ?_
 refine tS ?_
 apply o_val rfl rfl hone
 refine tV ?_
 apply o_lenS rfl rfl v1
 refine tV ?_
 apply o_hcall rfl rfl rfl rfl (p140).go
 rintro _ k1 ⟨rfl, hy⟩
 replace hx := hx.trans hy
 clear hy
 refine tW ?_
 exact eqB rfl (BP_congr Iff.rfl) hx (by simp)
theorem p139 {h : Heap} {c : List AV} {m : Image} {n : Int} (hc : RImg h c m) (_hw : m.WF) : Looks Tryz.prog ann 139 [.agg c, I n] h (.bool (BP (HasC m n))) := by
 have hR := hc
 have hone := hc.one
 obtain ⟨vc, vm, vg, vw, vr, vs, vf, rfl, v1, v2, v3, v4, v5, v6, v7⟩ := hc
 have hx : Ext h h := .refl
 refine s_look_of rfl Tryz.func139 (frc (by with_unfolding_all rfl)) rfl ?_
 refine tS ?_
 apply o_val rfl rfl hone
 refine tV ?_
 apply o_lenS rfl rfl v2
 refine tV ?_
 apply o_hcall rfl rfl rfl rfl (p140).go
 rintro _ k1 ⟨rfl, hy⟩
 replace hx := hx.trans hy
 clear hy
 by_cases H1 : IsM m n
 rotate_left
 ·rw [BP_false (P := 0 ≤ n ∧ n < (m.methods.length : Int)) H1]
  refine tW ?_
  exact noB rfl (fun h => H1 h.1) hx (by simp)
 rw [BP_true (P := 0 ≤ n ∧ n < (m.methods.length : Int)) H1]
 obtain ⟨hk, em⟩ := mAt_at H1
 have hn0 : n = (n.toNat : Int) := by have := (H1).1; omega
 refine tW ?_
 apply o_iaS (z := n.toNat) rfl rfl (by rw [← hn0]; rfl) (v2.mono RMth.mono hx) hk
 intro p cs hp hcs hcl
 obtain ⟨wc, wt, rfl, u1, u2⟩ := hcs
 refine tV ?_
 apply o_faV [wc] rfl rfl hp rfl
 intro p2 hp2
 refine tV ?_
 apply o_ldV rfl rfl hp2 (fun h => by omega)
 refine tV ?_
 apply o_lenS rfl rfl u1
 refine tV ?_
 refine oB fun b2 hb2 => ?_
 by_cases H2 : 0 < (mAt m n).code.length
 rotate_left
 ·obtain rfl : b2 = false := by
   rw [hb2, ← em]
   first | exact decide_eq_false H2 | exact decide_eq_false (by omega) | (simp; omega)
  refine tW ?_
  exact noB rfl (fun h => H2 h.2) hx (by simp)
 obtain rfl : b2 = true := by
  rw [hb2, ← em]
  first | exact decide_eq_true H2 | exact decide_eq_true (by omega) | (simp; omega)
 refine tW ?_
 exact yesB rfl ⟨H1, H2⟩ hx (by simp)
theorem p84 {h : Heap} {c : List AV} {m : Image} {n : Int} (hc : RImg h c m) (hw : m.WF) : Looks Tryz.prog ann 84 [.agg c, I n] h (.bool (BP (Bare m n))) := by
 have hR := hc
 have hone := hc.one
 obtain ⟨vc, vm, vg, vw, vr, vs, vf, rfl, v1, v2, v3, v4, v5, v6, v7⟩ := hc
 have hx : Ext h h := .refl
 refine s_look_of rfl Tryz.func84 (frc (by with_unfolding_all rfl)) rfl ?_
 refine tS ?_
 apply o_val rfl rfl hone
 refine tV ?_
 apply o_hcall rfl rfl rfl rfl (p139 hR hw).go
 rintro _ k1 ⟨rfl, hy⟩
 replace hx := hx.trans hy
 clear hy
 by_cases H1 : HasC m n
 rotate_left
 ·rw [BP_false H1]
  refine tW ?_
  exact noB rfl (fun h => H1 h.1) hx (by simp)
 rw [BP_true H1]
 obtain ⟨hk, em⟩ := mAt_at H1.1
 have hn0 : n = (n.toNat : Int) := by have := (H1.1).1; omega
 refine tW ?_
 apply o_iaS (z := n.toNat) rfl rfl (by rw [← hn0]; rfl) (v2.mono RMth.mono hx) hk
 intro p cs hp hcs hcl
 obtain ⟨wc, wt, rfl, u1, u2⟩ := hcs
 refine tV ?_
 apply o_faV [I m.methods[n.toNat].args] rfl rfl hp rfl
 intro p2 hp2
 refine tV ?_
 apply o_ldV rfl rfl hp2 (fun h => by omega)
 refine tV ?_
 refine oB fun b2 hb2 => ?_
 by_cases H2 : (mAt m n).args = 0
 rotate_left
 ·obtain rfl : b2 = false := by
   rw [hb2, ← em]
   first | exact decide_eq_false H2 | exact decide_eq_false (by omega) | (simp; omega)
  refine tW ?_
  exact noB rfl (fun h => H2 h.2.1) hx (by simp)
 obtain rfl : b2 = true := by
  rw [hb2, ← em]
  first | exact decide_eq_true H2 | exact decide_eq_true (by omega) | (simp; omega)
 refine tW ?_
 apply o_iaS (z := n.toNat) rfl rfl (by rw [← hn0]; rfl) (v2.mono RMth.mono hx) hk
 intro q cs hq hcs hcl
 obtain ⟨wc2, wt2, rfl, u3, u4⟩ := hcs
 refine tV ?_
 apply o_faV [.bool m.methods[n.toNat].gives] rfl rfl hq rfl
 intro q2 hq2
 refine tV ?_
 apply o_ldV rfl rfl hq2 (fun h => by omega)
 rw [← em]
 cases hg : (mAt m n).gives with
 | true =>
  refine tW ?_
  exact noB rfl (fun h => by rw [h.2.2] at hg; cases hg) hx (by simp)
 | false =>
  refine tW ?_
  exact yesB rfl ⟨H1, H2, hg⟩ hx (by simp)
theorem p172 {h : Heap} {c : List AV} {m : Image} {n k : Int} (hc : RImg h c m) (hw : m.WF) : Looks Tryz.prog ann 172 [.agg c, I n, I k] h (.bool (BP (IsArr m n k))) := by
 have hR := hc
 have hone := hc.one
 obtain ⟨vc, vm, vg, vw, vr, vs, vf, rfl, v1, v2, v3, v4, v5, v6, v7⟩ := hc
 have hx : Ext h h := .refl
 refine s_look_of rfl Tryz.func172 (frc (by with_unfolding_all rfl)) rfl ?_
 refine tS ?_
 apply o_val rfl rfl hone
 refine tV ?_
 apply o_hcall rfl rfl rfl rfl (p85 hR hw).go
 rintro _ k1 ⟨rfl, hy⟩
 replace hx := hx.trans hy
 clear hy
 by_cases H1 : IsT m n
 rotate_left
 ·rw [BP_false H1]
  refine tW ?_
  exact noB rfl (fun h => H1 h.1) hx (by simp)
 rw [BP_true H1]
 obtain ⟨hk, em⟩ := cAt_at H1
 have hn0 : n = (n.toNat : Int) := by have := H1.1; omega
 refine tW ?_
 apply o_iaS (z := n.toNat) rfl rfl (by rw [← hn0]; rfl) (v1.mono RCls.mono hx) hk
 intro p cs hp hcs hcl
 obtain ⟨_, _, _, _, rfl, _⟩ := hcs
 refine tV ?_
 apply o_faV [I m.classes[n.toNat].array] rfl rfl hp rfl
 intro p2 hp2
 refine tV ?_
 apply o_ldV rfl rfl hp2 (fun h => by omega)
 refine tV ?_
 refine oB fun b2 hb2 => ?_
 by_cases H2 : (cAt m n).array = k
 rotate_left
 ·obtain rfl : b2 = false := by
   rw [hb2, ← em]
   first | exact decide_eq_false H2 | exact decide_eq_false (by omega) | (simp; omega)
  refine tW ?_
  exact noB rfl (fun h => H2 h.2) hx (by simp)
 obtain rfl : b2 = true := by
  rw [hb2, ← em]
  first | exact decide_eq_true H2 | exact decide_eq_true (by omega) | (simp; omega)
 refine tW ?_
 exact yesB rfl ⟨H1, H2⟩ hx (by simp)
theorem p141 {h : Heap} {o : Int} : Looks Tryz.prog ann 141 [I o] h (.bool (BP (EndsP o))) := by
 refine s_look_of rfl Tryz.func141 (frc (by with_unfolding_all rfl)) rfl ?_
 refine tV ?_
 refine oI (o = 20) (fun H0 => ?_) (fun H0 => ?_)
 ·refine tW ?_
  exact yesB rfl (by unfold EndsP; omega) .refl (by simp)
 refine tV ?_
 refine oI (o = 46) (fun H1 => ?_) (fun H1 => ?_)
 ·refine tW ?_
  exact yesB rfl (by unfold EndsP; omega) .refl (by simp)
 refine tV ?_
 refine oI (o = 47) (fun H2 => ?_) (fun H2 => ?_)
 ·refine tW ?_
  exact yesB rfl (by unfold EndsP; omega) .refl (by simp)
 refine tV ?_
 refine oI (o = 48) (fun H3 => ?_) (fun H3 => ?_)
 ·refine tW ?_
  exact yesB rfl (by unfold EndsP; omega) .refl (by simp)
 refine tV ?_
 refine oI (o = 58) (fun H4 => ?_) (fun H4 => ?_)
 ·refine tW ?_
  exact yesB rfl (by unfold EndsP; omega) .refl (by simp)
 refine tV ?_
 refine oI (o = 61) (fun H5 => ?_) (fun H5 => ?_)
 ·refine tW ?_
  exact yesB rfl (by unfold EndsP; omega) .refl (by simp)
 refine tW ?_
 exact noB rfl (by unfold EndsP; omega) .refl (by simp)
theorem p171 {h : Heap} {o : Int} : Looks Tryz.prog ann 171 [I o] h (.bool (BP (20 ≤ o ∧ o ≤ 36))) := by
 have hx : Ext h h := .refl
 refine s_look_of rfl Tryz.func171 (frc (by with_unfolding_all rfl)) rfl ?_
 refine tV ?_
 refine oI (20 ≤ o) (fun H1 => ?_) (fun H1 => ?_)
 rotate_left
 ·refine tW ?_
  exact noB rfl (fun h => H1 h.1) hx (by simp)
 refine tV ?_
 refine oI (o ≤ 36) (fun H2 => ?_) (fun H2 => ?_)
 rotate_left
 ·refine tW ?_
  exact noB rfl (fun h => H2 h.2) hx (by simp)
 refine tW ?_
 exact yesB rfl ⟨H1, H2⟩ hx (by simp)
theorem p143 {h : Heap} {v : AV} {l : List Nat} {x : Int} (hv : Sl (RN .i64) 1 h v (l.map fun a : Nat => (a : Int))) (hl : Len l) (h32 : I32 x) : Looks Tryz.prog ann 143 [v, .int .i32 x] h (.bool (BP (RefP l x))) := by
 unfold I32 at h32
 unfold Len at hl
 refine s_look_of rfl Tryz.func143 (frc (by with_unfolding_all rfl)) rfl ?_
 refine tV ?_
 refine oI (x = 0) (fun H1 => ?_) (fun H1 => ?_)
 ·refine tW ?_
  exact yesB rfl (.inl H1) .refl (by simp)
 refine tV ?_
 refine s_loop (fun k : Nat => [(0, v), (1, .int .i32 x), (5, .int .i64 (k : Int))]) (fun k h' => h' = h ∧ k ≤ l.length ∧ ∀ i, i < k → (hi : i < l.length) → (l[i] : Int) ≠ x - 1) (fun k => l.length - k) 0
  tU ⟨rfl, Nat.zero_le _, fun i hi => by omega⟩ ?_
 rintro k h' ⟨rfl, hk, ht⟩
 refine tV ?_
 apply o_lenS rfl rfl hv
 refine tV ?_
 refine oB fun b2 hb2 => ?_
 by_cases H2 : k < l.length
 rotate_left
 ·obtain rfl : b2 = false := by
   rw [hb2, List.length_map]
   first | exact decide_eq_false H2 | exact decide_eq_false (by omega) | (simp; omega)
  refine tW ?_
  refine noB rfl (fun h => h.elim H1 fun ⟨h1, h2⟩ => ?_) .refl (by simp)
  obtain ⟨i, hi, e⟩ := List.mem_iff_getElem.1 h2
  exact ht i (by omega) hi (by rw [e]; omega)
 obtain rfl : b2 = true := by
  rw [hb2, List.length_map]
  first | exact decide_eq_true H2 | exact decide_eq_true (by omega) | (simp; omega)
 refine tV ?_
 apply o_iaS rfl rfl rfl hv (show k < _ by rw [List.length_map]; omega)
 intro p c hp hc _
 apply o_ldG rfl rfl hp (.one hc) (fun _ => .refl)
 refine tV ?_
 apply o_as (w := I x) rfl rfl trivial (by rw [w64 (by omega) (by omega)])
 apply o_as (w := I (x - 1)) rfl rfl trivial (by rw [w64 (by omega) (by omega)])
 rw [List.getElem_map]
 refine oI ((l[k] : Int) = x - 1) (fun H3 => ?_) (fun H3 => ?_)
 ·refine tW ?_
  exact yesB rfl (.inr ⟨by omega, by rw [← H3]; simp⟩) .refl (by simp)
 refine tW ?_
 rw [w64 (n := (k : Int) + 1) (by omega) (by omega)]
 refine ⟨k + 1, by simp only; omega, tU, rfl, rfl, by omega, fun i hi hil => ?_⟩
 by_cases e : i = k
 ·subst e
  exact H3
 ·exact ht i (by omega) hil
end Go.Proofs
end
section
open Go Go.Abs Go.Proofs.SlimCode Go.Img
set_option maxRecDepth 100000
namespace Go.Proofs
theorem p142 {h : Heap} {c d e : List AV} {m : Image} {x : Mth} {i : Four} (hc : RImg h c m) (hw : m.WF) (hd : RMth h d x) (he : RFour h e i) (_hlc : Len x.code) : Looks Tryz.prog ann 142 [.agg c, .agg d, .agg e] h (.bool (BP (InsP m x.locals x.code.length i))) := by
 have hR := hc
 have hone := hc.one
 have hone2 := hd.one
 obtain ⟨vc, vm, vg, vw, vr, vs, vf, rfl, v1, v2, v3, v4, v5, v6, v7⟩ := hc
 obtain ⟨vk, vt, rfl, u1, u2⟩ := hd
 obtain rfl : e = [I i.1, I i.2.1, I i.2.2.1, I i.2.2.2] := he
 have hx : Ext h h := .refl
 refine s_look_of rfl Tryz.func142 (frc (by with_unfolding_all rfl)) rfl ?_
 refine tS ?_
 apply o_val rfl rfl hone
 apply o_val rfl rfl hone2
 apply o_val rfl rfl (show List.all _ AV.one = true from rfl)
 refine tv ?_
 refine tv ?_
 refine tv ?_
 refine s_join (σ := Unit) (fun _ => [(3, .tptr [vc, vm, I m.entry, I m.need, vg, vw, vr, vs, vf] 0), (4, .tptr [I x.args, I x.locals, I x.stack, .bool x.gives, vk, vt] 0), (5, .tptr [I i.1, I i.2.1, I i.2.2.1, I i.2.2.2] 0), (7, .bool (BP (GuardP m i)))]) (fun _ h' => Ext h h') ?_ ?_
 ·have hx := hx
  refine tV ?_
  refine oI (i.2.2.2 = -1) (fun H1 => ?_) (fun H1 => ?_)
  ·rw [show BP (GuardP m i) = true from BP_true (.inl H1)]
   refine tW ?_
   refine ⟨(), tU, rfl, hx⟩
  refine tV ?_
  apply o_hcall rfl rfl rfl rfl (p85 hR hw).go
  rintro _ k1 ⟨rfl, hy⟩
  replace hx := hx.trans hy
  clear hy
  rw [show BP (GuardP m i) = BP (IsT m i.2.2.2) from BP_congr (by unfold GuardP; exact ⟨fun h => h.resolve_left H1, .inr⟩)]
  refine tW ?_
  refine ⟨(), tU, rfl, hx⟩
 clear hx
 rintro _ k0 hx
 refine s_join (σ := Unit) (fun _ => [(3, .tptr [vc, vm, I m.entry, I m.need, vg, vw, vr, vs, vf] 0), (4, .tptr [I x.args, I x.locals, I x.stack, .bool x.gives, vk, vt] 0), (5, .tptr [I i.1, I i.2.1, I i.2.2.1, I i.2.2.2] 0), (7, .bool (BP (GuardP m i))), (8, .bool (BP (1 ≤ i.2.2.2 ∧ i.2.2.2 ≤ 7)))]) (fun _ h' => Ext h h') ?_ ?_
 ·have hx := hx
  refine tV ?_
  refine oI (1 ≤ i.2.2.2) (fun H1 => ?_) (fun H1 => ?_)
  rotate_left
  ·rw [show BP (1 ≤ i.2.2.2 ∧ i.2.2.2 ≤ 7) = false from BP_false (fun h => H1 h.1)]
   refine tW ?_
   refine ⟨(), tU, rfl, hx⟩
  refine tV ?_
  refine oI (i.2.2.2 ≤ 7) (fun H2 => ?_) (fun H2 => ?_)
  rotate_left
  ·rw [show BP (1 ≤ i.2.2.2 ∧ i.2.2.2 ≤ 7) = false from BP_false (fun h => H2 h.2)]
   refine tW ?_
   refine ⟨(), tU, rfl, hx⟩
  rw [show BP (1 ≤ i.2.2.2 ∧ i.2.2.2 ≤ 7) = true from BP_true ⟨H1, H2⟩]
  refine tW ?_
  refine ⟨(), tU, rfl, hx⟩
 clear hx
 rintro _ k0 hx
 have hR' := fun k (e : Ext h k) => RImg.mono _ _ _ _ e hR
 refine tV ?_
 refine oI (i.1 < 1) (fun H90 => ?_) (fun H90 => ?_)
 ·refine tW ?_
  exact noB rfl (fun h => by have := h.op; omega) hx (by simp)
 refine tV ?_
 refine oI (61 < i.1) (fun H91 => ?_) (fun H91 => ?_)
 ·refine tW ?_
  exact noB rfl (fun h => by have := h.op; omega) hx (by simp)
 have H2 : 1 ≤ i.1 ∧ i.1 ≤ 61 := by omega
 refine tW ?_
 refine oI (i.1 = 3) (fun H10 => ?_) (fun H10 => ?_)
 ·refine tW ?_
  apply o_hcall rfl rfl rfl rfl (p140).go
  rintro _ k3 ⟨rfl, hy⟩
  replace hx := hx.trans hy
  clear hy
  by_cases H4 : 0 ≤ i.2.1 ∧ i.2.1 < x.locals
  rotate_left
  ·rw [BP_false H4]
   refine tW ?_
   exact noB rfl (fun h => (fun h => H4 ⟨h.1, by omega⟩) (h.loc (.inl H10))) hx (by simp)
  rw [BP_true H4]
  refine tW ?_
  exact yesB rfl ⟨H2, fun h => by omega, fun _ => ⟨H4.1, by omega⟩, fun h => by omega, fun h => by omega, fun h => by omega, fun h => by omega, fun h => by omega, fun h => by omega, fun h => by omega, fun h => by omega, fun h => by omega, fun h => by omega⟩ hx (by simp)
 refine tW ?_
 refine oI (i.1 = 4) (fun H11 => ?_) (fun H11 => ?_)
 ·refine tW ?_
  apply o_hcall rfl rfl rfl rfl (p140).go
  rintro _ k3 ⟨rfl, hy⟩
  replace hx := hx.trans hy
  clear hy
  by_cases H4 : 0 ≤ i.2.1 ∧ i.2.1 < x.locals
  rotate_left
  ·rw [BP_false H4]
   refine tW ?_
   exact noB rfl (fun h => (fun h => H4 ⟨h.1, by omega⟩) (h.loc (.inr H11))) hx (by simp)
  rw [BP_true H4]
  refine tW ?_
  exact yesB rfl ⟨H2, fun h => by omega, fun _ => ⟨H4.1, by omega⟩, fun h => by omega, fun h => by omega, fun h => by omega, fun h => by omega, fun h => by omega, fun h => by omega, fun h => by omega, fun h => by omega, fun h => by omega, fun h => by omega⟩ hx (by simp)
 refine tW ?_
 apply o_hcall rfl rfl rfl rfl (p171).go
 rintro _ k2 ⟨rfl, hy⟩
 replace hx := hx.trans hy
 clear hy
 by_cases H3 : 20 ≤ i.1 ∧ i.1 ≤ 36
 ·rw [BP_true H3]
  refine tW ?_
  apply o_lenS rfl rfl (u1.mono RFour.mono hx)
  refine tV ?_
  apply o_hcall rfl rfl rfl rfl (p140).go
  rintro _ k3 ⟨rfl, hy⟩
  replace hx := hx.trans hy
  clear hy
  by_cases H4 : 0 ≤ i.2.1 ∧ i.2.1 < (x.code.length : Int)
  rotate_left
  ·rw [BP_false H4]
   refine tW ?_
   exact noB rfl (fun h => (fun h => H4 ⟨h.1, by omega⟩) (h.jump H3)) hx (by simp)
  rw [BP_true H4]
  refine tW ?_
  exact yesB rfl ⟨H2, fun _ => ⟨H4.1, by omega⟩, fun h => by omega, fun h => by omega, fun h => by omega, fun h => by omega, fun h => by omega, fun h => by omega, fun h => by omega, fun h => by omega, fun h => by omega, fun h => by omega, fun h => by omega⟩ hx (by simp)
 rw [BP_false H3]
 refine tW ?_
 refine oI (i.1 = 37) (fun H12 => ?_) (fun H12 => ?_)
 ·refine tW ?_
  apply o_hcall rfl rfl rfl rfl (p172 (hR' _ hx) hw).go
  rintro _ k3 ⟨rfl, hy⟩
  replace hx := hx.trans hy
  clear hy
  by_cases H4 : IsArr m i.2.2.1 0
  rotate_left
  ·rw [BP_false H4]
   refine tW ?_
   exact noB rfl (fun h => (fun h => H4 (h.1)) (h.new H12)) hx (by simp)
  rw [BP_true H4]
  by_cases H5 : GuardP m i
  rotate_left
  ·rw [BP_false H5]
   refine tW ?_
   exact noB rfl (fun h => (fun h => H5 (h.2)) (h.new H12)) hx (by simp)
  rw [BP_true H5]
  refine tW ?_
  exact yesB rfl ⟨H2, fun h => by omega, fun h => by omega, fun _ => ⟨H4, H5⟩, fun h => by omega, fun h => by omega, fun h => by omega, fun h => by omega, fun h => by omega, fun h => by omega, fun h => by omega, fun h => by omega, fun h => by omega⟩ hx (by simp)
 refine tW ?_
 refine oI (i.1 = 38) (fun H13 => ?_) (fun H13 => ?_)
 ·refine tW ?_
  apply o_hcall rfl rfl rfl rfl (p140).go
  rintro _ k3 ⟨rfl, hy⟩
  replace hx := hx.trans hy
  clear hy
  by_cases H4 : 0 ≤ i.2.2.1 ∧ i.2.2.1 < 200
  rotate_left
  ·rw [BP_false H4]
   refine tW ?_
   exact noB rfl (fun h => (fun h => H4 (⟨h.1.1, by omega⟩)) (h.fld (.inl H13))) hx (by simp)
  rw [BP_true H4]
  refine tW ?_
  apply o_hcall rfl rfl rfl rfl (p140).go
  rintro _ k4 ⟨rfl, hy⟩
  replace hx := hx.trans hy
  clear hy
  by_cases H5 : 0 ≤ i.2.2.2 ∧ i.2.2.2 < 2
  rotate_left
  ·rw [BP_false H5]
   refine tW ?_
   exact noB rfl (fun h => (fun h => H5 (⟨h.2.1, by omega⟩)) (h.fld (.inl H13))) hx (by simp)
  rw [BP_true H5]
  refine tW ?_
  exact yesB rfl ⟨H2, fun h => by omega, fun h => by omega, fun h => by omega, fun _ => ⟨⟨H4.1, by omega⟩, ⟨H5.1, by omega⟩⟩, fun h => by omega, fun h => by omega, fun h => by omega, fun h => by omega, fun h => by omega, fun h => by omega, fun h => by omega, fun h => by omega⟩ hx (by simp)
 refine tW ?_
 refine oI (i.1 = 39) (fun H14 => ?_) (fun H14 => ?_)
 ·refine tW ?_
  apply o_hcall rfl rfl rfl rfl (p140).go
  rintro _ k3 ⟨rfl, hy⟩
  replace hx := hx.trans hy
  clear hy
  by_cases H4 : 0 ≤ i.2.2.1 ∧ i.2.2.1 < 200
  rotate_left
  ·rw [BP_false H4]
   refine tW ?_
   exact noB rfl (fun h => (fun h => H4 (⟨h.1.1, by omega⟩)) (h.fld (.inr H14))) hx (by simp)
  rw [BP_true H4]
  refine tW ?_
  apply o_hcall rfl rfl rfl rfl (p140).go
  rintro _ k4 ⟨rfl, hy⟩
  replace hx := hx.trans hy
  clear hy
  by_cases H5 : 0 ≤ i.2.2.2 ∧ i.2.2.2 < 2
  rotate_left
  ·rw [BP_false H5]
   refine tW ?_
   exact noB rfl (fun h => (fun h => H5 (⟨h.2.1, by omega⟩)) (h.fld (.inr H14))) hx (by simp)
  rw [BP_true H5]
  refine tW ?_
  exact yesB rfl ⟨H2, fun h => by omega, fun h => by omega, fun h => by omega, fun _ => ⟨⟨H4.1, by omega⟩, ⟨H5.1, by omega⟩⟩, fun h => by omega, fun h => by omega, fun h => by omega, fun h => by omega, fun h => by omega, fun h => by omega, fun h => by omega, fun h => by omega⟩ hx (by simp)
 refine tW ?_
 refine oI (i.1 = 40) (fun H15 => ?_) (fun H15 => ?_)
 ·refine tW ?_
  apply o_lenS rfl rfl (v6.mono RN.mono hx)
  refine tV ?_
  apply o_hcall rfl rfl rfl rfl (p140).go
  rintro _ k3 ⟨rfl, hy⟩
  replace hx := hx.trans hy
  clear hy
  by_cases H4 : 0 ≤ i.2.2.1 ∧ i.2.2.1 < (m.stat.length : Int)
  rotate_left
  ·rw [BP_false H4]
   refine tW ?_
   exact noB rfl (fun h => (fun h => H4 (⟨h.1.1, by omega⟩)) (h.stat (.inl H15))) hx (by simp)
  rw [BP_true H4]
  by_cases H5 : GuardP m i
  rotate_left
  ·rw [BP_false H5]
   refine tW ?_
   exact noB rfl (fun h => (fun h => H5 (h.2)) (h.stat (.inl H15))) hx (by simp)
  rw [BP_true H5]
  refine tW ?_
  exact yesB rfl ⟨H2, fun h => by omega, fun h => by omega, fun h => by omega, fun h => by omega, fun _ => ⟨⟨H4.1, by omega⟩, H5⟩, fun h => by omega, fun h => by omega, fun h => by omega, fun h => by omega, fun h => by omega, fun h => by omega, fun h => by omega⟩ hx (by simp)
 refine tW ?_
 refine oI (i.1 = 41) (fun H16 => ?_) (fun H16 => ?_)
 ·refine tW ?_
  apply o_lenS rfl rfl (v6.mono RN.mono hx)
  refine tV ?_
  apply o_hcall rfl rfl rfl rfl (p140).go
  rintro _ k3 ⟨rfl, hy⟩
  replace hx := hx.trans hy
  clear hy
  by_cases H4 : 0 ≤ i.2.2.1 ∧ i.2.2.1 < (m.stat.length : Int)
  rotate_left
  ·rw [BP_false H4]
   refine tW ?_
   exact noB rfl (fun h => (fun h => H4 (⟨h.1.1, by omega⟩)) (h.stat (.inr H16))) hx (by simp)
  rw [BP_true H4]
  by_cases H5 : GuardP m i
  rotate_left
  ·rw [BP_false H5]
   refine tW ?_
   exact noB rfl (fun h => (fun h => H5 (h.2)) (h.stat (.inr H16))) hx (by simp)
  rw [BP_true H5]
  refine tW ?_
  exact yesB rfl ⟨H2, fun h => by omega, fun h => by omega, fun h => by omega, fun h => by omega, fun _ => ⟨⟨H4.1, by omega⟩, H5⟩, fun h => by omega, fun h => by omega, fun h => by omega, fun h => by omega, fun h => by omega, fun h => by omega, fun h => by omega⟩ hx (by simp)
 refine tW ?_
 refine oI (i.1 = 42) (fun H17 => ?_) (fun H17 => ?_)
 ·refine tW ?_
  apply o_hcall rfl rfl rfl rfl (p139 (hR' _ hx) hw).go
  rintro _ k3 ⟨rfl, hy⟩
  replace hx := hx.trans hy
  clear hy
  by_cases H4 : HasC m i.2.2.1
  rotate_left
  ·rw [BP_false H4]
   refine tW ?_
   exact noB rfl (fun h => (fun h => H4 (h.1)) (h.calls H17)) hx (by simp)
  rw [BP_true H4]
  by_cases H5 : GuardP m i
  rotate_left
  ·rw [BP_false H5]
   refine tW ?_
   exact noB rfl (fun h => (fun h => H5 (h.2)) (h.calls H17)) hx (by simp)
  rw [BP_true H5]
  refine tW ?_
  exact yesB rfl ⟨H2, fun h => by omega, fun h => by omega, fun h => by omega, fun h => by omega, fun h => by omega, fun _ => ⟨H4, H5⟩, fun h => by omega, fun h => by omega, fun h => by omega, fun h => by omega, fun h => by omega, fun h => by omega⟩ hx (by simp)
 refine tW ?_
 refine oI (i.1 = 43) (fun H18 => ?_) (fun H18 => ?_)
 ·refine tW ?_
  apply o_hcall rfl rfl rfl rfl (p140).go
  rintro _ k3 ⟨rfl, hy⟩
  replace hx := hx.trans hy
  clear hy
  by_cases H4 : 0 ≤ i.2.2.1 ∧ i.2.2.1 < 200
  rotate_left
  ·rw [BP_false H4]
   refine tW ?_
   exact noB rfl (fun h => (fun h => H4 (⟨h.1.1, by omega⟩)) (h.callv H18)) hx (by simp)
  rw [BP_true H4]
  by_cases H5 : 1 ≤ i.2.2.2 ∧ i.2.2.2 ≤ 7
  rotate_left
  ·rw [BP_false H5]
   refine tW ?_
   exact noB rfl (fun h => (fun h => H5 (h.2)) (h.callv H18)) hx (by simp)
  rw [BP_true H5]
  refine tW ?_
  exact yesB rfl ⟨H2, fun h => by omega, fun h => by omega, fun h => by omega, fun h => by omega, fun h => by omega, fun h => by omega, fun _ => ⟨⟨H4.1, by omega⟩, H5⟩, fun h => by omega, fun h => by omega, fun h => by omega, fun h => by omega, fun h => by omega⟩ hx (by simp)
 refine tW ?_
 refine oI (i.1 = 44) (fun H19 => ?_) (fun H19 => ?_)
 ·refine tv ?_
  refine tX ?_
  apply s_regX [] [.B, .A, .B, .A, .A, .A, .A, .A, .A, .B, .A, .B, .A, .B, .A, .A, .A, .A, .A, .A] (by simp) rfl
  apply x_ldm (l := [vc, vm, I m.entry, I m.need, vg, vw, vr, vs, vf]) rfl rfl rfl rfl
  apply x_v rfl rfl trivial
  apply x_ld1 rfl rfl rfl
  apply x_lookA rfl rfl rfl (by rw [killL_nil]; exact (p139 (hR' _ hx) hw).go)
  intro k3 hy
  replace hx := hx.trans hy
  clear hy
  by_cases H4 : HasC m i.2.2.1
  rotate_left
  ·rw [BP_false H4]
   apply x_v rfl rfl trivial
   apply x_gF rfl rfl
   apply x_v rfl rfl trivial
   apply x_v rfl rfl trivial
   apply x_gF rfl rfl
   apply x_gF rfl rfl
   apply x_gF rfl rfl
   apply x_gF rfl rfl
   apply x_gF rfl rfl
   apply x_gF rfl rfl
   apply x_gF rfl rfl
   apply x_gF rfl rfl
   apply x_gF rfl rfl
   apply x_gF rfl rfl
   apply x_v rfl rfl trivial
   apply x_v rfl rfl trivial
   apply x_nil
   refine tW ?_
   exact noB rfl (fun h => (fun h => H4 h.1) (h.callx H19)) hx (by simp)
  rw [BP_true H4]
  apply x_v rfl rfl trivial
  apply x_gT rfl
  apply x_v rfl rfl trivial
  by_cases H5 : 1 ≤ i.2.2.2 ∧ i.2.2.2 ≤ 7
  rotate_left
  ·rw [BP_false H5]
   apply x_v rfl rfl trivial
   apply x_v rfl rfl trivial
   apply x_gF rfl rfl
   apply x_gF rfl rfl
   apply x_gF rfl rfl
   apply x_gF rfl rfl
   apply x_gF rfl rfl
   apply x_gF rfl rfl
   apply x_gF rfl rfl
   apply x_gF rfl rfl
   apply x_gF rfl rfl
   apply x_gF rfl rfl
   apply x_v rfl rfl trivial
   apply x_v rfl rfl trivial
   apply x_nil
   refine tW ?_
   exact noB rfl (fun h => (fun h => H5 h.2.1) (h.callx H19)) hx (by simp)
  rw [BP_true H5]
  obtain ⟨hn, em⟩ := mAt_at H4.1
  have hn0 : i.2.2.1 = (i.2.2.1.toNat : Int) := by have := H4.1.1; omega
  apply x_v rfl rfl trivial
  apply x_v rfl rfl trivial
  apply x_gT rfl
  apply x_v rfl rfl trivial
  apply x_gT rfl
  apply x_ld1 rfl rfl rfl
  apply x_gT rfl
  apply x_v rfl rfl trivial
  apply x_gT rfl
  apply x_ld1 rfl rfl rfl
  apply x_gT rfl
  apply x_v rfl rfl trivial
  apply x_gT rfl
  apply x_ld1 rfl rfl rfl
  apply x_gT rfl
  apply x_iaK (z := i.2.2.1.toNat) rfl rfl (by rw [← hn0]; rfl) (by rw [killL_nil]; exact v2.mono RMth.mono hx) hn
  intro p cs hp hcs hcl
  obtain ⟨_, _, rfl, _⟩ := hcs
  apply x_gT rfl
  apply x_faK [I m.methods[i.2.2.1.toNat].args] rfl rfl hp rfl
  intro p2 hp2
  apply x_gT rfl
  apply x_ldA rfl rfl hp2 (.one rfl)
  apply x_gT rfl
  apply x_bool rfl rfl trivial
  intro b6 hb6
  apply x_v rfl rfl trivial
  apply x_v rfl rfl trivial
  apply x_nil
  by_cases H6 : (mAt m i.2.2.1).args = i.2.2.2
  rotate_left
  ·obtain rfl : b6 = false := by
    rw [hb6, ← em]
    exact decide_eq_false (fun h => H6 h.symm)
   refine tW ?_
   exact noB rfl (fun h => (fun h => H6 h.2.2) (h.callx H19)) hx (by simp)
  obtain rfl : b6 = true := by
   rw [hb6, ← em]
   exact decide_eq_true H6.symm
  refine tW ?_
  exact yesB rfl ⟨H2, fun h => by omega, fun h => by omega, fun h => by omega, fun h => by omega, fun h => by omega, fun h => by omega, fun h => by omega, fun _ => ⟨H4, H5, H6⟩, fun h => by omega, fun h => by omega, fun h => by omega, fun h => by omega⟩ hx (by simp)
 refine tW ?_
 refine oI (i.1 = 45) (fun H20 => ?_) (fun H20 => ?_)
 ·refine tW ?_
  apply o_lenS rfl rfl (v2.mono RMth.mono hx)
  refine tV ?_
  apply o_hcall rfl rfl rfl rfl (p140).go
  rintro _ k3 ⟨rfl, hy⟩
  replace hx := hx.trans hy
  clear hy
  by_cases H4 : 0 ≤ i.2.2.1 ∧ i.2.2.1 < (m.methods.length : Int)
  rotate_left
  ·rw [BP_false H4]
   refine tW ?_
   exact noB rfl (fun h => (fun h => H4 (h.1)) (h.calli H20)) hx (by simp)
  rw [BP_true H4]
  by_cases H5 : 1 ≤ i.2.2.2 ∧ i.2.2.2 ≤ 7
  rotate_left
  ·rw [BP_false H5]
   refine tW ?_
   exact noB rfl (fun h => (fun h => H5 (h.2)) (h.calli H20)) hx (by simp)
  rw [BP_true H5]
  refine tW ?_
  exact yesB rfl ⟨H2, fun h => by omega, fun h => by omega, fun h => by omega, fun h => by omega, fun h => by omega, fun h => by omega, fun h => by omega, fun h => by omega, fun _ => ⟨H4, H5⟩, fun h => by omega, fun h => by omega, fun h => by omega⟩ hx (by simp)
 refine tW ?_
 refine oI (i.1 = 49) (fun H21 => ?_) (fun H21 => ?_)
 ·refine tW ?_
  apply o_hcall rfl rfl rfl rfl (p172 (hR' _ hx) hw).go
  rintro _ k3 ⟨rfl, hy⟩
  replace hx := hx.trans hy
  clear hy
  by_cases H4 : IsArr m i.2.2.1 1
  rotate_left
  ·rw [BP_false H4]
   refine tW ?_
   exact noB rfl (fun h => H4 (h.newi H21)) hx (by simp)
  rw [BP_true H4]
  refine tW ?_
  exact yesB rfl ⟨H2, fun h => by omega, fun h => by omega, fun h => by omega, fun h => by omega, fun h => by omega, fun h => by omega, fun h => by omega, fun h => by omega, fun h => by omega, fun _ => H4, fun h => by omega, fun h => by omega⟩ hx (by simp)
 refine tW ?_
 refine oI (i.1 = 50) (fun H22 => ?_) (fun H22 => ?_)
 ·refine tW ?_
  apply o_hcall rfl rfl rfl rfl (p172 (hR' _ hx) hw).go
  rintro _ k3 ⟨rfl, hy⟩
  replace hx := hx.trans hy
  clear hy
  by_cases H4 : IsArr m i.2.2.1 2
  rotate_left
  ·rw [BP_false H4]
   refine tW ?_
   exact noB rfl (fun h => H4 (h.newa H22)) hx (by simp)
  rw [BP_true H4]
  refine tW ?_
  exact yesB rfl ⟨H2, fun h => by omega, fun h => by omega, fun h => by omega, fun h => by omega, fun h => by omega, fun h => by omega, fun h => by omega, fun h => by omega, fun h => by omega, fun h => by omega, fun _ => H4, fun h => by omega⟩ hx (by simp)
 refine tW ?_
 refine oI (i.1 = 56) (fun H23 => ?_) (fun H23 => ?_)
 ·refine tW ?_
  apply o_hcall rfl rfl rfl rfl (p85 (hR' _ hx) hw).go
  rintro _ k3 ⟨rfl, hy⟩
  replace hx := hx.trans hy
  clear hy
  by_cases H4 : IsT m i.2.2.1
  rotate_left
  ·rw [BP_false H4]
   refine tW ?_
   exact noB rfl (fun h => H4 (h.cast (.inl H23))) hx (by simp)
  rw [BP_true H4]
  refine tW ?_
  exact yesB rfl ⟨H2, fun h => by omega, fun h => by omega, fun h => by omega, fun h => by omega, fun h => by omega, fun h => by omega, fun h => by omega, fun h => by omega, fun h => by omega, fun h => by omega, fun h => by omega, fun _ => H4⟩ hx (by simp)
 refine tW ?_
 refine oI (i.1 = 57) (fun H24 => ?_) (fun H24 => ?_)
 ·refine tW ?_
  apply o_hcall rfl rfl rfl rfl (p85 (hR' _ hx) hw).go
  rintro _ k3 ⟨rfl, hy⟩
  replace hx := hx.trans hy
  clear hy
  by_cases H4 : IsT m i.2.2.1
  rotate_left
  ·rw [BP_false H4]
   refine tW ?_
   exact noB rfl (fun h => H4 (h.cast (.inr H24))) hx (by simp)
  rw [BP_true H4]
  refine tW ?_
  exact yesB rfl ⟨H2, fun h => by omega, fun h => by omega, fun h => by omega, fun h => by omega, fun h => by omega, fun h => by omega, fun h => by omega, fun h => by omega, fun h => by omega, fun h => by omega, fun h => by omega, fun _ => H4⟩ hx (by simp)
 refine tW ?_
 refine tW ?_
 exact yesB rfl ⟨H2, fun h => by omega, fun h => by omega, fun h => by omega, fun h => by omega, fun h => by omega, fun h => by omega, fun h => by omega, fun h => by omega, fun h => by omega, fun h => by omega, fun h => by omega, fun h => by omega⟩ hx (by simp)
end Go.Proofs
end
section
open Go Go.Abs Go.Proofs.SlimCode Go.Img
set_option maxRecDepth 100000
namespace Go.Proofs
theorem none_of {h K : Heap} {b : Nat} (hx : Ext h K) (hb : K b = none) : h b = none := by
 cases e : h b with
 | none => rfl
 | some o => rw [hx _ _ e] at hb; cases hb
theorem p87 {h : Heap} {c d : List AV} {m : Image} {x : Mth} (hc : RImg h c m) (hw : m.WF) (hd : RMth h d x) (hwx : x.WF) : Looks Tryz.prog ann 87 [.agg c, .agg d] h (.bool (BP (MethP m x))) := by
 have hR := hc
 have hRd := hd
 have hone := hc.one
 have hone2 := hd.one
 have lco : Len x.code := hwx.code.1
 have ltr : Len x.traps := hwx.traps.1
 have lc2 := lco
 unfold Len at lc2 ltr
 obtain ⟨vc, vm, vg, vw, vr, vs, vf, rfl, v1, v2, v3, v4, v5, v6, v7⟩ := hc
 obtain ⟨vk, vt, rfl, u1, u2⟩ := hd
 have hx : Ext h h := .refl
 refine s_look_of rfl Tryz.func87 (frc (by with_unfolding_all rfl)) rfl ?_
 refine tS ?_
 apply o_val rfl rfl hone
 apply o_val rfl rfl hone2
 refine tV ?_
 apply o_lenS rfl rfl u1
 refine tv ?_
 refine tv ?_
 refine tv ?_
 refine s_join (σ := Unit) (fun _ => [(2, .tptr [vc, vm, I m.entry, I m.need, vg, vw, vr, vs, vf] 0), (3, .tptr [I x.args, I x.locals, I x.stack, .bool x.gives, vk, vt] 0), (5, .int .i64 (x.code.length : Int))]) (fun _ h' => Ext h h' ∧ (0 ≤ x.args ∧ x.args ≤ 7) ∧ (0 ≤ x.locals ∧ x.locals ≤ 16) ∧ (0 ≤ x.stack ∧ x.stack ≤ 16) ∧ HeadP x) ?_ ?_
 ·have hx := hx
  refine tV ?_
  refine oI (x.args < 0) (fun H1 => ?_) (fun H1 => ?_)
  ·refine tW ?_
   exact noB rfl (fun h => by have := h.args; omega) .refl (by simp)
  refine tV ?_
  refine oI (7 < x.args) (fun H2 => ?_) (fun H2 => ?_)
  ·refine tW ?_
   exact noB rfl (fun h => by have := h.args; omega) .refl (by simp)
  refine tV ?_
  refine oI (0 < x.code.length) (fun H3 => ?_) (fun H3 => ?_)
  rotate_left
  ·refine tV ?_
   refine oI (x.locals < 0) (fun H10 => ?_) (fun H10 => ?_)
   ·refine tW ?_
    exact noB rfl (fun h => by have := h.locals; omega) .refl (by simp)
   refine tV ?_
   refine oI (16 < x.locals) (fun H11 => ?_) (fun H11 => ?_)
   ·refine tW ?_
    exact noB rfl (fun h => by have := h.locals; omega) .refl (by simp)
   refine tV ?_
   refine oI (x.stack < 0) (fun H12 => ?_) (fun H12 => ?_)
   ·refine tW ?_
    exact noB rfl (fun h => by have := h.stack; omega) .refl (by simp)
   refine tV ?_
   refine oI (16 < x.stack) (fun H13 => ?_) (fun H13 => ?_)
   ·refine tW ?_
    exact noB rfl (fun h => by have := h.stack; omega) .refl (by simp)
   refine tV ?_
   refine oI (100 < x.code.length) (fun H14 => ?_) (fun H14 => ?_)
   ·refine tW ?_
    exact noB rfl (fun h => by omega) .refl (by simp)
   refine tV ?_
   refine oI (0 < x.code.length) (fun H15 => ?_) (fun H15 => ?_)
   ·exact absurd H15 H3
   refine tW ?_
   refine ⟨(), tU, rfl, .refl, ⟨by omega, by omega⟩, ⟨by omega, by omega⟩, ⟨by omega, by omega⟩, fun h => absurd h H3⟩
  refine tV ?_
  refine oI (x.locals < x.args) (fun H4 => ?_) (fun H4 => ?_)
  ·refine tW ?_
   exact noB rfl (fun h => by have := h.head H3; omega) .refl (by simp)
  refine tV ?_
  refine oI (x.locals < 0) (fun H10 => ?_) (fun H10 => ?_)
  ·refine tW ?_
   exact noB rfl (fun h => by have := h.locals; omega) .refl (by simp)
  refine tV ?_
  refine oI (16 < x.locals) (fun H11 => ?_) (fun H11 => ?_)
  ·refine tW ?_
   exact noB rfl (fun h => by have := h.locals; omega) .refl (by simp)
  refine tV ?_
  refine oI (x.stack < 0) (fun H12 => ?_) (fun H12 => ?_)
  ·refine tW ?_
   exact noB rfl (fun h => by have := h.stack; omega) .refl (by simp)
  refine tV ?_
  refine oI (16 < x.stack) (fun H13 => ?_) (fun H13 => ?_)
  ·refine tW ?_
   exact noB rfl (fun h => by have := h.stack; omega) .refl (by simp)
  refine tV ?_
  refine oI (100 < x.code.length) (fun H14 => ?_) (fun H14 => ?_)
  ·refine tW ?_
   exact noB rfl (fun h => by have := h.head H3; omega) .refl (by simp)
  refine tV ?_
  refine oI (0 < x.code.length) (fun H15 => ?_) (fun H15 => ?_)
  rotate_left
  ·exact absurd H3 H15
  refine tV ?_
  apply o_as (w := I ((x.code.length - 1 : Nat) : Int)) rfl rfl trivial (by rw [w64 (by omega) (by omega)]; congr 1; omega)
  refine tV ?_
  apply o_iaS rfl rfl rfl u1 (show x.code.length - 1 < _ by omega)
  intro p cs hp hcs hcl
  obtain rfl : cs = [I _, I _, I _, I _] := hcs
  refine tV ?_
  apply o_faV [I x.code[x.code.length - 1].1] rfl rfl hp rfl
  intro p2 hp2
  refine tV ?_
  apply o_ldV rfl rfl hp2 (fun h => by omega)
  refine tV ?_
  apply o_hcall rfl rfl rfl rfl p141.go
  rintro _ k4 ⟨rfl, hy⟩
  have hl : x.code.getD (x.code.length - 1) (0, 0, 0, 0) = x.code[x.code.length - 1] := by rw [List.getD_eq_getElem?_getD, List.getElem?_eq_getElem (by omega)]; rfl
  by_cases H16 : EndsP x.code[x.code.length - 1].1
  rotate_left
  ·rw [BP_false H16]
   refine tW ?_
   exact noB rfl (fun h => H16 (hl ▸ (h.head H3).2.2)) hy (by simp)
  rw [BP_true H16]
  refine tW ?_
  refine ⟨(), tU, rfl, hy, ⟨by omega, by omega⟩, ⟨by omega, by omega⟩, ⟨by omega, by omega⟩, fun _ => ⟨by omega, by omega, by rw [hl]; exact H16⟩⟩
 clear hx
 rintro _ k0 ⟨hx, ha, hlo, hst, hhd⟩
 refine s_join (σ := Unit) (fun _ => [(2, .tptr [vc, vm, I m.entry, I m.need, vg, vw, vr, vs, vf] 0), (3, .tptr [I x.args, I x.locals, I x.stack, .bool x.gives, vk, vt] 0), (5, .int .i64 (x.code.length : Int))]) (fun _ h' => Ext h h' ∧ ∀ i ∈ x.code, InsP m x.locals x.code.length i) ?_ ?_
 ·refine tV ?_
  refine s_loop (fun k : Nat => [(2, .tptr [vc, vm, I m.entry, I m.need, vg, vw, vr, vs, vf] 0), (3, .tptr [I x.args, I x.locals, I x.stack, .bool x.gives, vk, vt] 0), (5, .int .i64 (x.code.length : Int)), (6, .int .i64 (k : Int))]) (fun k h' => Ext h h' ∧ k ≤ x.code.length ∧ ∀ i, i < k → (hi : i < x.code.length) → InsP m x.locals x.code.length x.code[i]) (fun k => x.code.length - k) 0
   tU ⟨hx, Nat.zero_le _, fun i hi => by omega⟩ ?_
  clear hx
  rintro k k1 ⟨hx, hk, ht⟩
  refine tV ?_
  refine oI (k < x.code.length) (fun H1 => ?_) (fun H1 => ?_)
  rotate_left
  ·refine tW ?_
   refine ⟨(), tU, rfl, hx, fun i hi => ?_⟩
   obtain ⟨j, hj, rfl⟩ := List.mem_iff_getElem.1 hi
   exact ht j (by omega) hj
  refine tV ?_
  apply o_iaS rfl rfl rfl (u1.mono RFour.mono hx) H1
  intro p cs hp hcs hcl
  apply o_ldG rfl rfl hp (.many rfl hcl) (fun _ => .refl)
  apply o_hcall rfl rfl rfl rfl (p142 (RImg.mono _ _ _ _ hx hR) hw (RMth.mono _ _ _ _ hx hRd) hcs lco).go
  rintro _ k2 ⟨rfl, hy⟩
  replace hx := hx.trans hy
  clear hy
  by_cases H2 : InsP m x.locals x.code.length x.code[k]
  rotate_left
  ·rw [BP_false H2]
   refine tW ?_
   exact noB rfl (fun h => H2 (h.code _ (List.getElem_mem H1))) hx (by simp)
  rw [BP_true H2]
  refine tW ?_
  rw [w64 (n := (k : Int) + 1) (by omega) (by omega)]
  refine ⟨k + 1, by simp only; omega, tU, rfl, hx, by omega, fun i hi hil => ?_⟩
  by_cases e : i = k
  ·subst e
   exact H2
  ·exact ht i (by omega) hil
 clear hx
 rintro _ k0 ⟨hx, hco⟩
 refine tV ?_
 refine s_loopB (fun s : Nat × List Nat => [(2, .tptr [vc, vm, I m.entry, I m.need, vg, vw, vr, vs, vf] 0), (3, .tptr [I x.args, I x.locals, I x.stack, .bool x.gives, vk, vt] 0), (5, .int .i64 (x.code.length : Int)), (7, .int .i64 (s.1 : Int))]) (fun s => s.2) (fun s h' => Ext h h' ∧ (∀ i ∈ s.2, h i = none) ∧ s.1 ≤ x.traps.length ∧ ∀ i, i < s.1 → (hi : i < x.traps.length) → TrapP m x.code.length x.traps[i]) (fun s => x.traps.length - s.1) (0, [])
  tU rfl ⟨hx, by simp, Nat.zero_le _, fun i hi => by omega⟩ ?_
 clear hx
 rintro ⟨k, bx⟩ k1 ⟨hx, hbx, hk, ht⟩
 simp only at hx hbx hk ht ⊢
 refine tV ?_
 apply o_lenS rfl rfl (u2.mono RFour.mono hx)
 refine tV ?_
 refine oI (k < x.traps.length) (fun H1 => ?_) (fun H1 => ?_)
 rotate_left
 ·refine tW ?_
  refine yesB rfl ⟨ha, hlo, hst, hhd, fun t htm => ?_, hco⟩ hx hbx
  obtain ⟨j, hj, rfl⟩ := List.mem_iff_getElem.1 htm
  exact ht j (by omega) hj
 refine tV ?_
 apply o_iaS rfl rfl rfl (u2.mono RFour.mono hx) H1
 intro p cs hp hcs hcl
 obtain rfl : cs = [I x.traps[k].1, I x.traps[k].2.1, I x.traps[k].2.2.1, I x.traps[k].2.2.2] := hcs
 apply o_ldG rfl rfl hp (.many rfl hcl) (fun _ => .refl)
 apply o_alc rfl
 intro b8 hb8
 apply o_st (v := .agg [I x.traps[k].1, I x.traps[k].2.1, I x.traps[k].2.2.1, I x.traps[k].2.2.2]) rfl rfl rfl rfl rfl rfl upd_same (splice_full (by rfl))
 rw [upd_upd]
 have g8 : upd k1 b8 (some (.cells [I x.traps[k].1, I x.traps[k].2.1, I x.traps[k].2.2.1, I x.traps[k].2.2.2])) b8 = some (.cells [I x.traps[k].1, I x.traps[k].2.1, I x.traps[k].2.2.1, I x.traps[k].2.2.2]) := upd_same
 have hbx2 : ∀ i ∈ b8 :: bx, h i = none := by
  intro i hi
  rcases List.mem_cons.1 hi with rfl | hi
  ·exact none_of hx hb8
  ·exact hbx i hi
 replace hx := hx.trans (.upd (o := .cells [I x.traps[k].1, I x.traps[k].2.1, I x.traps[k].2.2.1, I x.traps[k].2.2.2]) hb8)
 show SOps _ _ _ _ _ _ _ _ (b8 :: bx) (upd k1 b8 (some (.cells [I x.traps[k].1, I x.traps[k].2.1, I x.traps[k].2.2.1, I x.traps[k].2.2.2]))) _
 generalize upd k1 b8 (some (.cells [I x.traps[k].1, I x.traps[k].2.1, I x.traps[k].2.2.1, I x.traps[k].2.2.2])) = k2 at g8 hx ⊢
 refine tV ?_
 apply o_ldh rfl rfl g8 (fun h => by omega) rfl
 refine tV ?_
 refine oI (x.traps[k].1 < 0) (fun H2 => ?_) (fun H2 => ?_)
 ·refine tW ?_
  exact noB rfl (fun h => absurd (h.traps _ (List.getElem_mem H1)) (fun hh => by have h1 := hh.1; have h2 := hh.2.1; have h3 := hh.2.2.1; omega)) hx hbx2
 refine tV ?_
 apply o_ldh rfl rfl g8 (fun h => by omega) rfl
 refine tV ?_
 apply o_ldh rfl rfl g8 (fun h => by omega) rfl
 refine tV ?_
 refine oI (x.traps[k].2.1 ≤ x.traps[k].1) (fun H3 => ?_) (fun H3 => ?_)
 ·refine tW ?_
  exact noB rfl (fun h => absurd (h.traps _ (List.getElem_mem H1)) (fun hh => by have h1 := hh.1; have h2 := hh.2.1; have h3 := hh.2.2.1; omega)) hx hbx2
 refine tV ?_
 apply o_ldh rfl rfl g8 (fun h => by omega) rfl
 refine tV ?_
 refine oI ((x.code.length : Int) < x.traps[k].2.1) (fun H4 => ?_) (fun H4 => ?_)
 ·refine tW ?_
  exact noB rfl (fun h => absurd (h.traps _ (List.getElem_mem H1)) (fun hh => by have h1 := hh.1; have h2 := hh.2.1; have h3 := hh.2.2.1; omega)) hx hbx2
 refine tV ?_
 apply o_ldh rfl rfl g8 (fun h => by omega) rfl
 refine tV ?_
 apply o_hcall rfl rfl rfl rfl (p140).go
 rintro _ k3 ⟨rfl, hy⟩
 replace hx := hx.trans hy
 replace g8 := hy _ _ g8
 clear hy
 by_cases H5 : 0 ≤ x.traps[k].2.2.1 ∧ x.traps[k].2.2.1 < (x.code.length : Int)
 rotate_left
 ·rw [BP_false H5]
  refine tW ?_
  exact noB rfl (fun h => (fun hh => H5 ⟨hh.2.2.1.1, by have := hh.2.2.1.2; omega⟩) (h.traps _ (List.getElem_mem H1))) hx hbx2
 rw [BP_true H5]
 refine tW ?_
 apply o_ldh rfl rfl g8 (fun h => by omega) rfl
 refine tV ?_
 refine oI (x.traps[k].2.2.2 ≠ -1) (fun H6 => ?_) (fun H6 => ?_)
 rotate_left
 ·refine tW ?_
  rw [w64 (n := (k : Int) + 1) (by omega) (by omega)]
  refine ⟨(k + 1, b8 :: bx), by simp only; omega, tU, rfl, hx, hbx2, by simp only; omega, fun i hi hil => ?_⟩
  by_cases e : i = k
  rotate_left
  ·exact ht i (by simp only at hi; omega) hil
  subst e
  exact ⟨⟨by omega, by omega⟩, by omega, ⟨H5.1, by omega⟩, .inl (by omega)⟩
 refine tW ?_
 apply o_ldh rfl rfl g8 (fun h => by omega) rfl
 refine tV ?_
 apply o_hcall rfl rfl rfl rfl (p85 (RImg.mono _ _ _ _ hx hR) hw).go
 rintro _ k4 ⟨rfl, hy⟩
 replace hx := hx.trans hy
 clear hy
 by_cases H7 : IsT m x.traps[k].2.2.2
 rotate_left
 ·rw [BP_false H7]
  refine tW ?_
  exact noB rfl (fun h => (fun hh => hh.2.2.2.elim H6 H7) (h.traps _ (List.getElem_mem H1))) hx hbx2
 rw [BP_true H7]
 refine tW ?_
 rw [w64 (n := (k : Int) + 1) (by omega) (by omega)]
 refine ⟨(k + 1, b8 :: bx), by simp only; omega, tU, rfl, hx, hbx2, by simp only; omega, fun i hi hil => ?_⟩
 by_cases e : i = k
 rotate_left
 ·exact ht i (by simp only at hi; omega) hil
 subst e
 exact ⟨⟨by omega, by omega⟩, by omega, ⟨H5.1, by omega⟩, .inr H7⟩
end Go.Proofs
end
section
open Go Go.Abs Go.Proofs.SlimCode Go.Img
namespace Go.Img
def ClassP (m : Image) (i : Nat) (x : Cls) : Prop := Climbs m m.classes.length x.super ∧ KindP m i x
theorem climbs_end {m : Image} {f : Nat} : Climbs m f (-1) := by cases f <;> simp [Climbs]
end Go.Img
set_option maxRecDepth 100000
namespace Go.Proofs
theorem getD_at {α : Type} {l : List α} {i : Nat} {a : α} (h : i < l.length) : l.getD i a = l[i] := by rw [List.getD_eq_getElem?_getD, List.getElem?_eq_getElem h]; rfl
set_option maxHeartbeats 4000000 in
theorem p86 {h : Heap} {c : List AV} {m : Image} {ix : Nat} (hc : RImg h c m) (hw : m.WF) (hix : ix < m.classes.length) (h200 : m.classes.length ≤ 200) : Looks Tryz.prog ann 86 [.agg c, I ix] h (.bool (BP (ClassP m ix m.classes[ix]))) := by
 have hR := hc
 have hone := hc.one
 have lcl : Len m.classes := hw.classes.1
 unfold Len at lcl
 obtain ⟨vc, vm, vg, vw, vr, vs, vf, rfl, v1, v2, v3, v4, v5, v6, v7⟩ := hc
 refine s_look_of rfl Tryz.func86 (frc (by with_unfolding_all rfl)) rfl ?_
 refine tS ?_
 apply o_val rfl rfl hone
 refine tV ?_
 apply o_iaS rfl rfl rfl v1 hix
 intro p d hp hd hdl
 have hwx := hw.classes.2 _ (List.getElem_mem hix)
 generalize m.classes[ix] = x at hd hwx ⊢
 have hone2 := hd.one
 have lsu : Len x.subs := hwx.subs.1
 have lsl : Len x.slots := hwx.slots.1
 have lfa : Len x.faces := hwx.faces.1
 have lre : Len x.refs := hwx.refs
 unfold Len at lsu lsl lfa
 obtain ⟨w1, w2, w3, w4, rfl, u1, u2, u3, u4⟩ := hd
 apply o_ldG rfl rfl hp (.many rfl hdl) (fun _ => .refl)
 apply o_alc rfl
 intro b5 hb5
 apply o_st (v := .agg [.str x.name, I x.super, I x.init, w1, w2, w3, w4, I x.array, I x.elem, .bool x.thrown]) rfl rfl rfl rfl rfl hone2 upd_same (splice_full (by rfl))
 rw [upd_upd]
 have hhK : Ext h (upd h b5 (some (.cells [.str x.name, I x.super, I x.init, w1, w2, w3, w4, I x.array, I x.elem, .bool x.thrown]))) := .upd hb5
 have g5 : upd h b5 (some (.cells [.str x.name, I x.super, I x.init, w1, w2, w3, w4, I x.array, I x.elem, .bool x.thrown])) b5 = some (.cells [.str x.name, I x.super, I x.init, w1, w2, w3, w4, I x.array, I x.elem, .bool x.thrown]) := upd_same
 show SOps _ _ _ _ _ _ _ _ [b5] (upd h b5 (some (.cells [.str x.name, I x.super, I x.init, w1, w2, w3, w4, I x.array, I x.elem, .bool x.thrown]))) _
 generalize upd h b5 (some (.cells [.str x.name, I x.super, I x.init, w1, w2, w3, w4, I x.array, I x.elem, .bool x.thrown])) = K at hhK g5 ⊢
 have hbx : ∀ i ∈ [b5], h i = none := fun i hi => by
  obtain rfl := List.mem_singleton.1 hi
  exact hb5
 clear hp
 refine tv ?_
 refine tv ?_
 refine tv ?_
 refine tv ?_
 refine tv ?_
 refine tv ?_
 refine s_join (σ := Unit) (fun _ => [(1, I ix), (2, .tptr [vc, vm, I m.entry, I m.need, vg, vw, vr, vs, vf] 0), (5, .ptr b5 0)]) (fun _ h' => Ext K h' ∧ Climbs m m.classes.length x.super) ?_ ?_
 ·have hx : Ext K K := .refl
  refine tV ?_
  apply o_ldh rfl rfl (hx _ _ g5) (fun h => by omega) rfl
  refine tV ?_
  refine s_loop (fun s : Nat × Int => [(1, I ix), (2, .tptr [vc, vm, I m.entry, I m.need, vg, vw, vr, vs, vf] 0), (5, .ptr b5 0), (6, .int .i64 (s.1 : Int)), (7, .int .i64 s.2)]) (fun s h' => Ext K h' ∧ s.1 ≤ m.classes.length ∧ (Climbs m m.classes.length x.super ↔ Climbs m (m.classes.length - s.1) s.2)) (fun s => m.classes.length - s.1) (0, x.super)
   tU ⟨hx, Nat.zero_le _, Iff.rfl⟩ ?_
  clear hx
  rintro ⟨n, k⟩ k1 ⟨hx, hn, hcl⟩
  simp only at hx hn hcl ⊢
  refine tV ?_
  refine oI (k ≠ -1) (fun H1 => ?_) (fun H1 => ?_)
  rotate_left
  ·refine tW ?_
   obtain rfl : k = -1 := by omega
   refine ⟨(), tU, rfl, hx, hcl.2 climbs_end⟩
  refine tV ?_
  apply o_as (w := I ((n + 1 : Nat) : Int)) rfl rfl trivial (by rw [w64 (by omega) (by omega)]; rfl)
  refine tV ?_
  apply o_hcall rfl rfl rfl rfl (p85 (RImg.mono _ _ _ _ (hhK.trans hx) hR) hw).go
  rintro _ k2 ⟨rfl, hy⟩
  replace hx := hx.trans hy
  clear hy
  by_cases H2 : IsT m k
  rotate_left
  ·rw [BP_false H2]
   refine tW ?_
   refine noB rfl (fun h => ?_) (hhK.trans hx) hbx
   have h1 := hcl.1 h.1
   cases hf : m.classes.length - n with
   | zero => rw [hf] at h1; exact H1 h1
   | succ f =>
    rw [hf] at h1
    rcases h1 with h1 | h1
    ·exact H1 h1
    ·exact H2 h1.1
  rw [BP_true H2]
  refine tW ?_
  apply o_lenS rfl rfl (v1.mono RCls.mono (hhK.trans hx))
  refine tV ?_
  refine oI (m.classes.length < n + 1) (fun H3 => ?_) (fun H3 => ?_)
  ·refine tW ?_
   refine noB rfl (fun h => ?_) (hhK.trans hx) hbx
   have h1 := hcl.1 h.1
   rw [show m.classes.length - n = 0 by omega] at h1
   exact H1 h1
  obtain ⟨hn1, em⟩ := cAt_at H2
  have hn0 : k = (k.toNat : Int) := by have := H2.1; omega
  refine tW ?_
  apply o_iaS (z := k.toNat) rfl rfl (by rw [← hn0]; rfl) (v1.mono RCls.mono (hhK.trans hx)) hn1
  intro q cs hq hcs hcsl
  obtain ⟨_, _, _, _, rfl, _⟩ := hcs
  refine tV ?_
  apply o_faV [I m.classes[k.toNat].super] rfl rfl hq rfl
  intro q2 hq2
  refine tV ?_
  apply o_ldV rfl rfl hq2 (fun h => by omega)
  refine tW ?_
  refine ⟨(n + 1, m.classes[k.toNat].super), by simp only; omega, tU, rfl, hx, by simp only; omega, ?_⟩
  simp only
  rw [hcl, show m.classes.length - n = (m.classes.length - (n + 1)) + 1 by omega]
  constructor
  ·rintro (e | ⟨_, e⟩)
   ·exact absurd e H1
   ·rw [← em]; exact e
  ·exact fun e => .inr ⟨H2, by rw [em]; exact e⟩
 rintro _ k0 ⟨hx, hcl⟩
 refine s_join (σ := Unit) (fun _ => [(1, I ix), (2, .tptr [vc, vm, I m.entry, I m.need, vg, vw, vr, vs, vf] 0), (5, .ptr b5 0)]) (fun _ h' => Ext K h' ∧ (x.init = -1 ∨ Bare m x.init) ∧ x.refs.length ≤ 200 ∧ x.slots.length ≤ 200 ∧ 0 ≤ x.array ∧ x.array ≤ 2) ?_ ?_
 ·refine tV ?_
  apply o_ldh rfl rfl (hx _ _ g5) (fun h => by omega) rfl
  refine tV ?_
  refine oI (x.init ≠ -1) (fun H1 => ?_) (fun H1 => ?_)
  rotate_left
  ·refine tW ?_
   apply o_ldh rfl rfl (hx _ _ g5) (fun h => by omega) rfl
   refine tV ?_
   apply o_lenS rfl rfl (u1.mono RB.mono (hhK.trans hx))
   refine tV ?_
   refine oI (200 < x.refs.length) (fun H3 => ?_) (fun H3 => ?_)
   ·refine tW ?_
    exact noB rfl (fun h => by have := h.2.2.1; omega) (hhK.trans hx) hbx
   refine tW ?_
   apply o_ldh rfl rfl (hx _ _ g5) (fun h => by omega) rfl
   refine tV ?_
   apply o_lenS rfl rfl (u3.mono RN.mono (hhK.trans hx))
   refine tV ?_
   refine oI (200 < x.slots.length) (fun H4 => ?_) (fun H4 => ?_)
   ·refine tW ?_
    exact noB rfl (fun h => by have := h.2.2.2.2.1.1; omega) (hhK.trans hx) hbx
   refine tW ?_
   apply o_ldh rfl rfl (hx _ _ g5) (fun h => by omega) rfl
   refine tV ?_
   refine oI (x.array < 0) (fun H5 => ?_) (fun H5 => ?_)
   ·refine tW ?_
    exact noB rfl (fun h => by have := h.2.2.2.2.2.2.1; omega) (hhK.trans hx) hbx
   refine tW ?_
   apply o_ldh rfl rfl (hx _ _ g5) (fun h => by omega) rfl
   refine tV ?_
   refine oI (2 < x.array) (fun H6 => ?_) (fun H6 => ?_)
   ·refine tW ?_
    exact noB rfl (fun h => by have := h.2.2.2.2.2.2.1; omega) (hhK.trans hx) hbx
   refine tW ?_
   refine ⟨(), tU, rfl, hx, .inl (by omega), by omega, by omega, by omega, by omega⟩
  refine tW ?_
  apply o_ldh rfl rfl (hx _ _ g5) (fun h => by omega) rfl
  refine tV ?_
  apply o_hcall rfl rfl rfl rfl (p84 (RImg.mono _ _ _ _ (hhK.trans hx) hR) hw).go
  rintro _ k1 ⟨rfl, hy⟩
  replace hx := hx.trans hy
  clear hy
  by_cases H2 : Bare m x.init
  rotate_left
  ·rw [BP_false H2]
   refine tW ?_
   exact noB rfl (fun h => h.2.1.elim H1 H2) (hhK.trans hx) hbx
  rw [BP_true H2]
  refine tW ?_
  apply o_ldh rfl rfl (hx _ _ g5) (fun h => by omega) rfl
  refine tV ?_
  apply o_lenS rfl rfl (u1.mono RB.mono (hhK.trans hx))
  refine tV ?_
  refine oI (200 < x.refs.length) (fun H3 => ?_) (fun H3 => ?_)
  ·refine tW ?_
   exact noB rfl (fun h => by have := h.2.2.1; omega) (hhK.trans hx) hbx
  refine tW ?_
  apply o_ldh rfl rfl (hx _ _ g5) (fun h => by omega) rfl
  refine tV ?_
  apply o_lenS rfl rfl (u3.mono RN.mono (hhK.trans hx))
  refine tV ?_
  refine oI (200 < x.slots.length) (fun H4 => ?_) (fun H4 => ?_)
  ·refine tW ?_
   exact noB rfl (fun h => by have := h.2.2.2.2.1.1; omega) (hhK.trans hx) hbx
  refine tW ?_
  apply o_ldh rfl rfl (hx _ _ g5) (fun h => by omega) rfl
  refine tV ?_
  refine oI (x.array < 0) (fun H5 => ?_) (fun H5 => ?_)
  ·refine tW ?_
   exact noB rfl (fun h => by have := h.2.2.2.2.2.2.1; omega) (hhK.trans hx) hbx
  refine tW ?_
  apply o_ldh rfl rfl (hx _ _ g5) (fun h => by omega) rfl
  refine tV ?_
  refine oI (2 < x.array) (fun H6 => ?_) (fun H6 => ?_)
  ·refine tW ?_
   exact noB rfl (fun h => by have := h.2.2.2.2.2.2.1; omega) (hhK.trans hx) hbx
  refine tW ?_
  refine ⟨(), tU, rfl, hx, .inr H2, by omega, by omega, by omega, by omega⟩
 clear hx
 rintro _ k1 ⟨hx, hin, hre, hsl, ha0, ha2⟩
 refine s_join (σ := Unit) (fun _ => [(1, I ix), (2, .tptr [vc, vm, I m.entry, I m.need, vg, vw, vr, vs, vf] 0), (5, .ptr b5 0)]) (fun _ h' => Ext K h' ∧ ElemP m x ∧ (x.array = 0 ∨ x.refs.length = 0)) ?_ ?_
 ·have hx := hx
  refine tV ?_
  apply o_ldh rfl rfl (hx _ _ g5) (fun h => by omega) rfl
  refine tV ?_
  refine oI (x.array = 2) (fun H1 => ?_) (fun H1 => ?_)
  rotate_left
  ·refine tW ?_
   apply o_ldh rfl rfl (hx _ _ g5) (fun h => by omega) rfl
   refine tV ?_
   refine oI (x.array ≠ 2) (fun H2 => ?_) (fun H2 => ?_)
   rotate_left
   ·exact absurd H1 (by omega)
   refine tW ?_
   apply o_ldh rfl rfl (hx _ _ g5) (fun h => by omega) rfl
   refine tV ?_
   refine oI (x.elem ≠ -1) (fun H3 => ?_) (fun H3 => ?_)
   ·refine tW ?_
    exact noB rfl (fun h => h.2.2.2.2.2.2.2.1.elim (fun e => H1 e.1) (fun e => H3 e.2)) (hhK.trans hx) hbx
   refine tW ?_
   apply o_ldh rfl rfl (hx _ _ g5) (fun h => by omega) rfl
   refine tV ?_
   refine oI (0 < x.array) (fun H4 => ?_) (fun H4 => ?_)
   rotate_left
   ·refine tW ?_
    refine ⟨(), tU, rfl, hx, .inr ⟨H1, by omega⟩, .inl (by omega)⟩
   refine tW ?_
   apply o_ldh rfl rfl (hx _ _ g5) (fun h => by omega) rfl
   refine tV ?_
   apply o_lenS rfl rfl (u1.mono RB.mono (hhK.trans hx))
   refine tV ?_
   refine oI (0 < x.refs.length) (fun H5 => ?_) (fun H5 => ?_)
   ·refine tW ?_
    exact noB rfl (fun h => by have := h.2.2.2.2.2.2.2.2; omega) (hhK.trans hx) hbx
   refine tW ?_
   refine ⟨(), tU, rfl, hx, .inr ⟨H1, by omega⟩, .inr (by omega)⟩
  refine tW ?_
  apply o_ldh rfl rfl (hx _ _ g5) (fun h => by omega) rfl
  refine tV ?_
  apply o_hcall rfl rfl rfl rfl (p85 (RImg.mono _ _ _ _ (hhK.trans hx) hR) hw).go
  rintro _ k2 ⟨rfl, hy⟩
  replace hx := hx.trans hy
  clear hy
  by_cases H2 : IsT m x.elem
  rotate_left
  ·rw [BP_false H2]
   refine tW ?_
   exact noB rfl (fun h => h.2.2.2.2.2.2.2.1.elim (fun e => H2 e.2) (fun e => e.1 H1)) (hhK.trans hx) hbx
  rw [BP_true H2]
  refine tW ?_
  apply o_ldh rfl rfl (hx _ _ g5) (fun h => by omega) rfl
  refine tV ?_
  refine oI (x.array ≠ 2) (fun H3 => ?_) (fun H3 => ?_)
  ·exact absurd H1 H3
  refine tW ?_
  apply o_ldh rfl rfl (hx _ _ g5) (fun h => by omega) rfl
  refine tV ?_
  refine oI (0 < x.array) (fun H4 => ?_) (fun H4 => ?_)
  rotate_left
  ·refine tW ?_
   refine ⟨(), tU, rfl, hx, .inl ⟨H1, H2⟩, .inl (by omega)⟩
  refine tW ?_
  apply o_ldh rfl rfl (hx _ _ g5) (fun h => by omega) rfl
  refine tV ?_
  apply o_lenS rfl rfl (u1.mono RB.mono (hhK.trans hx))
  refine tV ?_
  refine oI (0 < x.refs.length) (fun H5 => ?_) (fun H5 => ?_)
  ·refine tW ?_
   exact noB rfl (fun h => by have := h.2.2.2.2.2.2.2.2; omega) (hhK.trans hx) hbx
  refine tW ?_
  refine ⟨(), tU, rfl, hx, .inl ⟨H1, H2⟩, .inr (by omega)⟩
 clear hx
 rintro _ k2 ⟨hx, hel, har⟩
 refine tv ?_
 refine tv ?_
 refine tv ?_
 refine tv ?_
 refine tv ?_
 refine s_join (σ := Unit) (fun _ => [(2, .tptr [vc, vm, I m.entry, I m.need, vg, vw, vr, vs, vf] 0), (5, .ptr b5 0), (8, .bool (BP ((ix : Int) ∈ x.subs)))]) (fun _ h' => Ext K h' ∧ (∀ s ∈ x.subs, IsT m s) ∧ Rises x.subs) ?_ ?_
 ·refine tV ?_
  refine s_loop (fun k : Nat => [(1, I ix), (2, .tptr [vc, vm, I m.entry, I m.need, vg, vw, vr, vs, vf] 0), (5, .ptr b5 0), (8, .bool (BP ((ix : Int) ∈ x.subs.take k))), (9, .int .i64 (k : Int))]) (fun k h' => Ext K h' ∧ k ≤ x.subs.length ∧ (∀ j, j < k → IsT m (x.subs.getD j 0)) ∧ ∀ j, j + 1 < k → x.subs.getD j 0 < x.subs.getD (j + 1) 0) (fun k => x.subs.length - k) 0
   (by rw [BP_false (P := (ix : Int) ∈ x.subs.take 0) (by simp)]; exact tU) ⟨hx, Nat.zero_le _, fun j hj => by omega, fun j hj => by omega⟩ ?_
  clear hx
  rintro k k1 ⟨hx, hk, ht, hr⟩
  refine tV ?_
  apply o_ldh rfl rfl (hx _ _ g5) (fun h => by omega) rfl
  refine tV ?_
  apply o_lenS rfl rfl (u2.mono RN.mono (hhK.trans hx))
  refine tV ?_
  refine oI (k < x.subs.length) (fun H1 => ?_) (fun H1 => ?_)
  rotate_left
  ·obtain rfl : k = x.subs.length := by omega
   rw [List.take_length]
   refine tW ?_
   refine ⟨(), tU, rfl, hx, fun s hs => ?_, fun j hj => hr j hj⟩
   obtain ⟨j, hj, rfl⟩ := List.mem_iff_getElem.1 hs
   have := ht j hj
   rwa [getD_at hj] at this
  refine tv ?_
  refine tv ?_
  refine tv ?_
  refine tv ?_
  refine tv ?_
  refine tv ?_
  refine tv ?_
  refine s_join (σ := Unit) (fun _ => [(1, I ix), (2, .tptr [vc, vm, I m.entry, I m.need, vg, vw, vr, vs, vf] 0), (5, .ptr b5 0), (8, .bool (BP ((ix : Int) ∈ x.subs.take k))), (9, .int .i64 (k : Int))]) (fun _ h' => Ext K h' ∧ IsT m x.subs[k] ∧ (0 < k → x.subs.getD (k - 1) 0 < x.subs[k])) ?_ ?_
  ·refine tX ?_
   apply s_regX [] [.F, .A, .F, .A, .A, .F, .A, .A, .A, .A, .A, .A, .A, .F, .A, .A, .F, .A, .F, .A, .A, .A, .F, .A, .A, .A] (by simp) rfl
   apply x_ldFm (l := [vc, vm, I m.entry, I m.need, vg, vw, vr, vs, vf]) rfl rfl rfl rfl
   apply x_v rfl rfl trivial
   apply x_ldF1 rfl rfl (hx _ _ g5) rfl
   apply x_v rfl rfl trivial
   apply x_ia0 rfl rfl rfl (u2.mono RN.mono (hhK.trans hx)) H1
   intro p c hp hc _
   apply x_ldF rfl rfl hp (.one hc)
   clear hp hc
   apply x_look0 rfl rfl rfl (by exact p85 (n := x.subs[k]) (RImg.mono _ _ _ _ (hhK.trans hx) hR) hw)
   intro k2 hy
   replace hx := hx.trans hy
   clear hy
   by_cases H2 : IsT m x.subs[k]
   rotate_left
   ·rw [BP_false H2]
    apply x_v rfl rfl trivial
    apply x_v rfl rfl trivial
    apply x_gF rfl rfl
    apply x_gF rfl rfl
    apply x_gF rfl rfl
    apply x_gU rfl rfl
    apply x_gU rfl rfl
    apply x_gU rfl rfl
    apply x_gU rfl rfl
    apply x_gU rfl rfl
    apply x_gU rfl rfl
    apply x_gU rfl rfl
    apply x_gU rfl rfl
    apply x_gU rfl rfl
    apply x_gU rfl rfl
    apply x_gU rfl rfl
    apply x_gU rfl rfl
    apply x_gF rfl rfl
    apply x_v rfl rfl trivial
    apply x_nil
    refine tW ?_
    exact noB rfl (fun h => H2 (h.2.2.2.1.1 _ (List.getElem_mem H1))) (hhK.trans hx) hbx
   rw [BP_true H2]
   apply x_v rfl rfl trivial
   apply x_v rfl rfl trivial
   apply x_gT rfl
   apply x_v rfl rfl trivial
   apply x_gT rfl
   apply x_bool rfl rfl trivial
   intro b3 hb3
   by_cases H3 : 0 < k
   rotate_left
   ·obtain rfl : b3 = false := by
     rw [hb3]
     exact decide_eq_false (by omega)
    apply x_gT rfl
    apply x_v rfl rfl trivial
    apply x_gF rfl rfl
    apply x_gF rfl rfl
    apply x_gF rfl rfl
    apply x_gF rfl rfl
    apply x_gF rfl rfl
    apply x_gF rfl rfl
    apply x_gF rfl rfl
    apply x_gF rfl rfl
    apply x_gF rfl rfl
    apply x_gF rfl rfl
    apply x_gF rfl rfl
    apply x_gF rfl rfl
    apply x_gT rfl
    apply x_v rfl rfl trivial
    apply x_v rfl rfl trivial
    apply x_nil
    refine tW ?_
    refine ⟨(), tU, rfl, hx, H2, fun e => absurd e H3⟩
   obtain rfl : b3 = true := by
    rw [hb3]
    exact decide_eq_true (by omega)
   apply x_gT rfl
   apply x_v rfl rfl trivial
   apply x_gT rfl
   apply x_v rfl rfl trivial
   apply x_gT rfl
   apply x_ldF1 rfl rfl (hx _ _ g5) rfl
   apply x_gT rfl
   apply x_v rfl rfl trivial
   apply x_gT rfl
   apply x_ia0 rfl rfl rfl (u2.mono RN.mono (hhK.trans hx)) H1
   intro p c hp hc _
   apply x_gT rfl
   apply x_ldF rfl rfl hp (.one hc)
   clear hp hc
   apply x_gT rfl
   apply x_v rfl rfl trivial
   apply x_gT rfl
   apply x_ldF1 rfl rfl (hx _ _ g5) rfl
   apply x_gT rfl
   apply x_v rfl rfl trivial
   apply x_gT rfl
   apply x_as (w := I ((k - 1 : Nat) : Int)) rfl rfl trivial (by rw [w64 (by omega) (by omega)]; congr 1; omega)
   apply x_gT rfl
   apply x_ia0 rfl rfl rfl (u2.mono RN.mono (hhK.trans hx)) (show k - 1 < _ by omega)
   intro p2 c2 hp hc _
   apply x_gT rfl
   apply x_ldF rfl rfl hp (.one hc)
   clear hp hc
   apply x_gT rfl
   apply x_bool rfl rfl trivial
   intro b4 hb4
   by_cases H4 : x.subs[k - 1] < x.subs[k]
   rotate_left
   ·obtain rfl : b4 = true := by
     rw [hb4]
     exact decide_eq_true (by omega)
    apply x_gT rfl
    apply x_v rfl rfl trivial
    apply x_v rfl rfl trivial
    apply x_nil
    refine tW ?_
    refine noB rfl (fun h => H4 ?_) (hhK.trans hx) hbx
    have := h.2.2.2.1.2.1 (k - 1) (by omega)
    rwa [getD_at (by omega), getD_at (by omega), show x.subs[k - 1 + 1] = x.subs[k] by congr 1; omega] at this
   obtain rfl : b4 = false := by
    rw [hb4]
    exact decide_eq_false (by omega)
   apply x_gT rfl
   apply x_v rfl rfl trivial
   apply x_v rfl rfl trivial
   apply x_nil
   refine tW ?_
   refine ⟨(), tU, rfl, hx, H2, fun _ => by rw [getD_at (by omega)]; exact H4⟩
  clear hx
  rintro _ k2 ⟨hx, H2, H3⟩
  refine tV ?_
  have htk : x.subs.take (k + 1) = x.subs.take k ++ [x.subs[k]] := by rw [List.take_add_one, List.getElem?_eq_getElem H1]; rfl
  by_cases H4 : (ix : Int) ∈ x.subs.take k
  ·rw [BP_true H4]
   have e5 : BP ((ix : Int) ∈ x.subs.take (k + 1)) = true := BP_true (by rw [htk]; exact List.mem_append_left _ H4)
   refine tW ?_
   rw [w64 (n := (k : Int) + 1) (by omega) (by omega)]
   refine ⟨k + 1, by simp only; omega, by dsimp only; rw [e5]; exact tU, rfl, hx, by omega, fun j hj => ?_, fun j hj => ?_⟩
   ·by_cases e : j = k
    ·subst e
     rw [getD_at H1]
     exact H2
    ·exact ht j (by omega)
   ·by_cases e : j + 1 = k
    ·subst e
     rw [getD_at H1]
     exact H3 (by omega)
    ·exact hr j (by omega)
  rw [BP_false H4]
  refine tW ?_
  apply o_ldh rfl rfl (hx _ _ g5) (fun h => by omega) rfl
  refine tV ?_
  apply o_iaS rfl rfl rfl (u2.mono RN.mono (hhK.trans hx)) H1
  intro p c hp hc _
  refine tV ?_
  apply o_ldG rfl rfl hp (.one hc) (fun _ => .refl)
  refine tV ?_
  refine oB fun b6 hb6 => ?_
  have e5 : BP ((ix : Int) ∈ x.subs.take (k + 1)) = b6 := by
   rw [hb6]
   by_cases e : x.subs[k] = (ix : Int)
   ·rw [BP_true (P := (ix : Int) ∈ x.subs.take (k + 1)) (by rw [htk, e]; simp)]
    exact (decide_eq_true e).symm
   ·rw [BP_false (P := (ix : Int) ∈ x.subs.take (k + 1)) (by rw [htk]; simp only [List.mem_append, List.mem_singleton]; rintro (q | q); exact H4 q; exact e q.symm)]
    exact (decide_eq_false e).symm
  refine tW ?_
  rw [w64 (n := (k : Int) + 1) (by omega) (by omega)]
  refine ⟨k + 1, by simp only; omega, by dsimp only; rw [e5]; exact tU, rfl, hx, by omega, fun j hj => ?_, fun j hj => ?_⟩
  ·by_cases e : j = k
   ·subst e
    rw [getD_at H1]
    exact H2
   ·exact ht j (by omega)
  ·by_cases e : j + 1 = k
   ·subst e
    rw [getD_at H1]
    exact H3 (by omega)
   ·exact hr j (by omega)
 clear hx
 rintro _ k3 ⟨hx, hsb, hri⟩
 refine s_join (σ := Unit) (fun _ => [(2, .tptr [vc, vm, I m.entry, I m.need, vg, vw, vr, vs, vf] 0), (5, .ptr b5 0), (8, .bool (BP ((ix : Int) ∈ x.subs)))]) (fun _ h' => Ext K h' ∧ ∀ n ∈ x.slots, n = -1 ∨ HasC m n) ?_ ?_
 ·refine tV ?_
  refine s_loop (fun k : Nat => [(2, .tptr [vc, vm, I m.entry, I m.need, vg, vw, vr, vs, vf] 0), (5, .ptr b5 0), (8, .bool (BP ((ix : Int) ∈ x.subs))), (10, .int .i64 (k : Int))]) (fun k h' => Ext K h' ∧ k ≤ x.slots.length ∧ ∀ j, j < k → x.slots.getD j 0 = -1 ∨ HasC m (x.slots.getD j 0)) (fun k => x.slots.length - k) 0
   tU ⟨hx, Nat.zero_le _, fun j hj => by omega⟩ ?_
  clear hx
  rintro k k4 ⟨hx, hk, ht⟩
  refine tV ?_
  apply o_ldh rfl rfl (hx _ _ g5) (fun h => by omega) rfl
  refine tV ?_
  apply o_lenS rfl rfl (u3.mono RN.mono (hhK.trans hx))
  refine tV ?_
  refine oI (k < x.slots.length) (fun H1 => ?_) (fun H1 => ?_)
  rotate_left
  ·refine tW ?_
   refine ⟨(), tU, rfl, hx, fun s hs => ?_⟩
   obtain ⟨j, hj, rfl⟩ := List.mem_iff_getElem.1 hs
   have := ht j (by omega)
   rwa [getD_at hj] at this
  refine tV ?_
  apply o_ldh rfl rfl (hx _ _ g5) (fun _ => by rw [hx _ _ g5]; simp) rfl
  refine tV ?_
  apply o_iaS rfl rfl rfl (u3.mono RN.mono (hhK.trans hx)) H1
  intro p c hp hc _
  apply o_ldG rfl rfl hp (.one hc) (fun _ => .refl)
  refine tV ?_
  refine oI (x.slots[k] ≠ -1) (fun H2 => ?_) (fun H2 => ?_)
  rotate_left
  ·refine tW ?_
   rw [w64 (n := (k : Int) + 1) (by omega) (by omega)]
   refine ⟨k + 1, by simp only; omega, tU, rfl, hx, by omega, fun j hj => ?_⟩
   by_cases e : j = k
   rotate_left
   ·exact ht j (by omega)
   subst e
   rw [getD_at H1]
   exact .inl (by omega)
  refine tW ?_
  apply o_ldh rfl rfl (hx _ _ g5) (fun _ => by rw [hx _ _ g5]; simp) rfl
  refine tV ?_
  apply o_iaS rfl rfl rfl (u3.mono RN.mono (hhK.trans hx)) H1
  intro p2 c2 hp2 hc2 _
  refine tV ?_
  apply o_ldG rfl rfl hp2 (.one hc2) (fun _ => .refl)
  refine tV ?_
  apply o_hcall rfl rfl rfl rfl (p139 (RImg.mono _ _ _ _ (hhK.trans hx) hR) hw).go
  rintro _ k5 ⟨rfl, hy⟩
  replace hx := hx.trans hy
  clear hy
  by_cases H3 : HasC m x.slots[k]
  rotate_left
  ·rw [BP_false H3]
   refine tW ?_
   exact noB rfl (fun h => (h.2.2.2.2.1.2 _ (List.getElem_mem H1)).elim H2 H3) (hhK.trans hx) hbx
  rw [BP_true H3]
  refine tW ?_
  rw [w64 (n := (k : Int) + 1) (by omega) (by omega)]
  refine ⟨k + 1, by simp only; omega, tU, rfl, hx, by omega, fun j hj => ?_⟩
  by_cases e : j = k
  rotate_left
  ·exact ht j (by omega)
  subst e
  rw [getD_at H1]
  exact .inr H3
 clear hx
 rintro _ k4 ⟨hx, hso⟩
 refine tV ?_
 refine s_loop (fun k : Nat => [(2, .tptr [vc, vm, I m.entry, I m.need, vg, vw, vr, vs, vf] 0), (5, .ptr b5 0), (8, .bool (BP ((ix : Int) ∈ x.subs))), (11, .int .i64 (k : Int))]) (fun k h' => Ext K h' ∧ k ≤ x.faces.length ∧ (∀ j, j < k → IsM m (x.faces.getD j (0, 0)).1 ∧ HasC m (x.faces.getD j (0, 0)).2) ∧ ∀ j, j + 1 < k → (x.faces.getD j (0, 0)).1 < (x.faces.getD (j + 1) (0, 0)).1) (fun k => x.faces.length - k) 0
  tU ⟨hx, Nat.zero_le _, fun j hj => by omega, fun j hj => by omega⟩ ?_
 clear hx
 rintro k k5 ⟨hx, hk, ht, hr⟩
 refine tV ?_
 apply o_ldh rfl rfl (hx _ _ g5) (fun h => by omega) rfl
 refine tV ?_
 apply o_lenS rfl rfl (u4.mono RPair.mono (hhK.trans hx))
 refine tV ?_
 refine oI (k < x.faces.length) (fun H1 => ?_) (fun H1 => ?_)
 rotate_left
 ·obtain rfl : k = x.faces.length := by omega
  refine tW ?_
  refine eqB rfl (BP_congr ⟨fun h => ⟨hcl, hin, hre, ⟨hsb, hri, h⟩, ⟨hsl, hso⟩, ⟨fun i hi => ?_, fun p hp => ?_⟩, ⟨ha0, ha2⟩, hel, har⟩, fun h => h.2.2.2.1.2.2⟩) (hhK.trans hx) hbx
  ·rw [List.length_map] at hi
   have := hr i hi
   rw [getD_at (by omega), getD_at (by omega)] at this
   rw [getD_at (by rw [List.length_map]; omega), getD_at (by rw [List.length_map]; omega), List.getElem_map, List.getElem_map]
   exact this
  ·obtain ⟨j, hj, rfl⟩ := List.mem_iff_getElem.1 hp
   have := ht j hj
   rwa [getD_at hj] at this
 refine tX ?_
 apply s_regX [] [.A, .F, .A, .A, .A, .F, .A, .F, .C, .A, .A, .A, .F, .A, .F, .A, .A, .A, .F, .A, .A, .A, .A, .A, .A, .A, .A, .F, .A, .A, .A, .F, .A, .F, .A, .A, .A, .A, .F, .A, .A, .A] (by simp) rfl
 apply x_v rfl rfl trivial
 apply x_ldF1 rfl rfl (hx _ _ g5) rfl
 apply x_v rfl rfl trivial
 apply x_ia0 rfl rfl rfl (u4.mono RPair.mono (hhK.trans hx)) H1
 intro p c hp hc _
 apply x_iaP0 (cs := [I x.faces[k].1, I x.faces[k].2]) [I x.faces[k].1] rfl rfl rfl (by rw [show c = [I x.faces[k].1, I x.faces[k].2] from hc] at hp; exact hp) (by decide) (by decide) rfl
 intro p2 hp2
 apply x_ldF rfl rfl hp2 (.one rfl)
 clear hp hp2 hc
 apply x_v rfl rfl trivial
 apply x_ldFt rfl rfl rfl
 apply x_lenC rfl rfl (v2.mono RMth.mono (hhK.trans hx))
 apply x_look0 rfl rfl rfl (by exact p140 (n := x.faces[k].1) (k := (m.methods.length : Int)))
 intro k6 hy
 replace hx := hx.trans hy
 clear hy
 by_cases H2 : IsM m x.faces[k].1
 rotate_left
 ·rw [BP_false (P := 0 ≤ x.faces[k].1 ∧ x.faces[k].1 < (m.methods.length : Int)) H2]
  apply x_v rfl rfl trivial
  apply x_v rfl rfl trivial
  apply x_gF rfl rfl
  apply x_gF rfl rfl
  apply x_gF rfl rfl
  apply x_gF rfl rfl
  apply x_gF rfl rfl
  apply x_gF rfl rfl
  apply x_gF rfl rfl
  apply x_gF rfl rfl
  apply x_gF rfl rfl
  apply x_v rfl rfl trivial
  apply x_v rfl rfl trivial
  apply x_gF rfl rfl
  apply x_gF rfl rfl
  apply x_gF rfl rfl
  apply x_gU rfl rfl
  apply x_gU rfl rfl
  apply x_gU rfl rfl
  apply x_gU rfl rfl
  apply x_gU rfl rfl
  apply x_gU rfl rfl
  apply x_gU rfl rfl
  apply x_gU rfl rfl
  apply x_gU rfl rfl
  apply x_gU rfl rfl
  apply x_gU rfl rfl
  apply x_gU rfl rfl
  apply x_gU rfl rfl
  apply x_gU rfl rfl
  apply x_gF rfl rfl
  apply x_v rfl rfl trivial
  apply x_nil
  refine tW ?_
  exact noB rfl (fun h => H2 (h.2.2.2.2.2.1.2 _ (List.getElem_mem H1)).1) (hhK.trans hx) hbx
 rw [BP_true (P := 0 ≤ x.faces[k].1 ∧ x.faces[k].1 < (m.methods.length : Int)) H2]
 apply x_v rfl rfl trivial
 apply x_v rfl rfl trivial
 apply x_gT rfl
 apply x_ldFm (l := [vc, vm, I m.entry, I m.need, vg, vw, vr, vs, vf]) rfl rfl rfl rfl
 apply x_gT rfl
 apply x_v rfl rfl trivial
 apply x_gT rfl
 apply x_ldF1 rfl rfl (hx _ _ g5) rfl
 apply x_gT rfl
 apply x_v rfl rfl trivial
 apply x_gT rfl
 apply x_ia0 rfl rfl rfl (u4.mono RPair.mono (hhK.trans hx)) H1
 intro p c hp hc _
 apply x_gT rfl
 apply x_iaP0 (cs := [I x.faces[k].1, I x.faces[k].2]) [I x.faces[k].2] rfl rfl rfl (by rw [show c = [I x.faces[k].1, I x.faces[k].2] from hc] at hp; exact hp) (by decide) (by decide) rfl
 intro p2 hp2
 apply x_gT rfl
 apply x_ldF rfl rfl hp2 (.one rfl)
 clear hp hp2 hc
 apply x_gT rfl
 apply x_look0 rfl rfl rfl (by exact p139 (n := x.faces[k].2) (RImg.mono _ _ _ _ (hhK.trans hx) hR) hw)
 intro k6 hy
 replace hx := hx.trans hy
 clear hy
 by_cases H3 : HasC m x.faces[k].2
 rotate_left
 ·rw [BP_false H3]
  apply x_gT rfl
  apply x_v rfl rfl trivial
  apply x_v rfl rfl trivial
  apply x_v rfl rfl trivial
  apply x_gF rfl rfl
  apply x_gF rfl rfl
  apply x_gF rfl rfl
  apply x_gU rfl rfl
  apply x_gU rfl rfl
  apply x_gU rfl rfl
  apply x_gU rfl rfl
  apply x_gU rfl rfl
  apply x_gU rfl rfl
  apply x_gU rfl rfl
  apply x_gU rfl rfl
  apply x_gU rfl rfl
  apply x_gU rfl rfl
  apply x_gU rfl rfl
  apply x_gU rfl rfl
  apply x_gU rfl rfl
  apply x_gU rfl rfl
  apply x_gF rfl rfl
  apply x_v rfl rfl trivial
  apply x_nil
  refine tW ?_
  exact noB rfl (fun h => H3 (h.2.2.2.2.2.1.2 _ (List.getElem_mem H1)).2) (hhK.trans hx) hbx
 rw [BP_true H3]
 apply x_gT rfl
 apply x_v rfl rfl trivial
 apply x_v rfl rfl trivial
 apply x_v rfl rfl trivial
 apply x_gT rfl
 apply x_v rfl rfl trivial
 apply x_gT rfl
 apply x_bool rfl rfl trivial
 intro b3 hb3
 by_cases H4 : 0 < k
 rotate_left
 ·obtain rfl : b3 = false := by
   rw [hb3]
   exact decide_eq_false (by omega)
  apply x_gT rfl
  apply x_v rfl rfl trivial
  apply x_gF rfl rfl
  apply x_gF rfl rfl
  apply x_gF rfl rfl
  apply x_gF rfl rfl
  apply x_gF rfl rfl
  apply x_gF rfl rfl
  apply x_gF rfl rfl
  apply x_gF rfl rfl
  apply x_gF rfl rfl
  apply x_gF rfl rfl
  apply x_gF rfl rfl
  apply x_gF rfl rfl
  apply x_gF rfl rfl
  apply x_gF rfl rfl
  apply x_gT rfl
  apply x_v rfl rfl trivial
  apply x_v rfl rfl trivial
  apply x_nil
  refine tW ?_
  rw [w64 (n := (k : Int) + 1) (by omega) (by omega)]
  refine ⟨k + 1, by simp only; omega, tU, rfl, hx, by omega, fun j hj => ?_, fun j hj => ?_⟩
  ·by_cases e : j = k
   ·subst e
    rw [getD_at H1]
    exact ⟨H2, H3⟩
   ·exact ht j (by omega)
  ·by_cases e : j + 1 = k
   ·subst e
    rw [getD_at H1]
    exact absurd (Nat.succ_pos j) H4
   ·exact hr j (by omega)
 obtain rfl : b3 = true := by
  rw [hb3]
  exact decide_eq_true (by omega)
 apply x_gT rfl
 apply x_v rfl rfl trivial
 apply x_gT rfl
 apply x_v rfl rfl trivial
 apply x_gT rfl
 apply x_ldF1 rfl rfl (hx _ _ g5) rfl
 apply x_gT rfl
 apply x_v rfl rfl trivial
 apply x_gT rfl
 apply x_ia0 rfl rfl rfl (u4.mono RPair.mono (hhK.trans hx)) H1
 intro p c hp hc _
 apply x_gT rfl
 apply x_iaP0 (cs := [I x.faces[k].1, I x.faces[k].2]) [I x.faces[k].1] rfl rfl rfl (by rw [show c = [I x.faces[k].1, I x.faces[k].2] from hc] at hp; exact hp) (by decide) (by decide) rfl
 intro p2 hp2
 apply x_gT rfl
 apply x_ldF rfl rfl hp2 (.one rfl)
 clear hp hp2 hc
 apply x_gT rfl
 apply x_v rfl rfl trivial
 apply x_gT rfl
 apply x_ldF1 rfl rfl (hx _ _ g5) rfl
 apply x_gT rfl
 apply x_v rfl rfl trivial
 apply x_gT rfl
 apply x_as (w := I ((k - 1 : Nat) : Int)) rfl rfl trivial (by rw [w64 (by omega) (by omega)]; congr 1; omega)
 apply x_gT rfl
 apply x_ia0 rfl rfl rfl (u4.mono RPair.mono (hhK.trans hx)) (show k - 1 < _ by omega)
 intro p c hp hc _
 apply x_gT rfl
 apply x_iaP0 (cs := [I x.faces[k - 1].1, I x.faces[k - 1].2]) [I x.faces[k - 1].1] rfl rfl rfl (by rw [show c = [I x.faces[k - 1].1, I x.faces[k - 1].2] from hc] at hp; exact hp) (by decide) (by decide) rfl
 intro p2 hp2
 apply x_gT rfl
 apply x_ldF rfl rfl hp2 (.one rfl)
 clear hp hp2 hc
 apply x_gT rfl
 apply x_bool rfl rfl trivial
 intro b4 hb4
 by_cases H5 : x.faces[k - 1].1 < x.faces[k].1
 rotate_left
 ·obtain rfl : b4 = true := by
   rw [hb4]
   exact decide_eq_true (by omega)
  apply x_gT rfl
  apply x_v rfl rfl trivial
  apply x_v rfl rfl trivial
  apply x_nil
  refine tW ?_
  refine noB rfl (fun h => H5 ?_) (hhK.trans hx) hbx
  have := h.2.2.2.2.2.1.1 (k - 1) (by rw [List.length_map]; omega)
  rw [getD_at (by rw [List.length_map]; omega), getD_at (by rw [List.length_map]; omega), List.getElem_map, List.getElem_map] at this
  rwa [show x.faces[k - 1 + 1] = x.faces[k] by congr 1; omega] at this
 obtain rfl : b4 = false := by
  rw [hb4]
  exact decide_eq_false (by omega)
 apply x_gT rfl
 apply x_v rfl rfl trivial
 apply x_v rfl rfl trivial
 apply x_nil
 refine tW ?_
 rw [w64 (n := (k : Int) + 1) (by omega) (by omega)]
 refine ⟨k + 1, by simp only; omega, tU, rfl, hx, by omega, fun j hj => ?_, fun j hj => ?_⟩
 ·by_cases e : j = k
  ·subst e
   rw [getD_at H1]
   exact ⟨H2, H3⟩
  ·exact ht j (by omega)
 ·by_cases e : j + 1 = k
  ·subst e
   rw [getD_at H1]
   rw [getD_at (by omega)]
   exact H5
  ·exact hr j (by omega)
end Go.Proofs
end
section
open Go Go.Abs Go.Proofs.SlimCode Go.Img
set_option maxRecDepth 100000
namespace Go.Proofs
theorem Acc.perm {α : Type} {R : Heap → List AV → α → Prop} {s : Nat} {h G h' : Heap} {bx bx' : List Nat} {v : AV} {out : List α} (H : Acc R s h G h' bx v out) (hb : ∀ b, b ∈ bx' → b ∈ bx) (ho : ∀ i cs, G i = none → h' i = some (.cells cs) → v = .sl i 0 out.length s → i ∉ bx') : Acc R s h G h' bx' v out := by
 refine ⟨H.hG, H.Gh, fun b hb2 => H.bxs b (hb b hb2), ?_⟩
 rcases H.own with h1 | ⟨i, cs, e, g1, g2, g3, g4⟩
 ·exact .inl h1
 ·exact .inr ⟨i, cs, e, g1, ho i cs g1 g3 e, g3, g4⟩
def Two (h h' : Heap) (bx : List Nat) (v1 : AV) (o1 : List Int) (v2 : AV) (o2 : List Int) : Prop := Acc (RN .i64) 1 h h h' (slIds v2 ++ bx) v1 o1 ∧ Acc (RN .i64) 1 h h h' (slIds v1 ++ bx) v2 o2
theorem Two.swap {h h' : Heap} {bx : List Nat} {v1 v2 : AV} {o1 o2 : List Int} (H : Two h h' bx v1 o1 v2 o2) : Two h h' bx v2 o2 v1 o1 := ⟨H.2, H.1⟩
theorem Two.up {h h' k : Heap} {bx : List Nat} {v1 v2 : AV} {o1 o2 : List Int} (H : Two h h' bx v1 o1 v2 o2) (hx : Ext h' k) : Two h k bx v1 o1 v2 o2 := ⟨H.1.up hx, H.2.up hx⟩
theorem Two.free {h h' : Heap} {bx : List Nat} {v1 v2 : AV} {o1 o2 : List Int} (H : Two h h' bx v1 o1 v2 o2) : ∀ i ∈ bx, h i = none := fun _i hi => H.1.base0 (List.mem_append_right _ hi)
theorem Acc.boxIn {h G h' : Heap} {bx zs : List Nat} {v : AV} {out : List Int} {b : Nat} {o : AObj} (H : Acc (RN .i64) 1 h G h' (zs ++ bx) v out) (hb : h' b = none) : Acc (RN .i64) 1 h G (upd h' b (some o)) (zs ++ b :: bx) v out := by
 refine (H.box hb).perm (fun i hi => ?_) fun i cs _ g3 e => ?_
 ·simp only [List.mem_append, List.mem_cons] at hi ⊢
  rcases hi with hi | hi | hi
  ·exact .inr (.inl hi)
  ·exact .inl hi
  ·exact .inr (.inr hi)
 ·rcases (H.box (o := o) hb).own with ⟨e1, _⟩ | ⟨j, _, e1, _, g2, _⟩
  ·rw [e1] at e; cases e
  ·rw [e1] at e
   cases e
   intro hi
   refine g2 ?_
   simp only [List.mem_append, List.mem_cons] at hi ⊢
   rcases hi with hi | hi | hi
   ·exact .inr (.inl hi)
   ·exact .inl hi
   ·exact .inr (.inr hi)
theorem Two.box {h h' : Heap} {bx : List Nat} {v1 v2 : AV} {o1 o2 : List Int} {b : Nat} {o : AObj} (H : Two h h' bx v1 o1 v2 o2) (hb : h' b = none) : Two h (upd h' b (some o)) (b :: bx) v1 o1 v2 o2 := ⟨H.1.boxIn hb, H.2.boxIn hb⟩
theorem Two.app {h h' k : Heap} {bx : List Nat} {v1 v2 v3 : AV} {o1 o2 : List Int} {cs : List AV} {a : Int} (H : Two h h' bx v1 o1 v2 o2) (hcs : Chunks (RN .i64 h) 1 cs o1) (O : OSl (minus h' v1) 1 v3 (cs ++ [I a]) (o1.length + 1) k) : Two h k bx v3 (o1 ++ [a]) v2 o2 := by
 have A1 := H.1.app (a := a) hcs (show RN .i64 _ [I a] a from rfl) rfl O
 refine ⟨A1, A1.hG, A1.Gh, fun b hb => ?_, ?_⟩
 ·rcases List.mem_append.1 hb with hb | hb
  ·rcases A1.own with ⟨e, _⟩ | ⟨i, c, e, g1, g2, g3, g4⟩
   ·rw [e] at hb; cases hb
   ·rw [e] at hb
    obtain rfl := List.mem_singleton.1 hb
    exact ⟨g1, by rw [g3]; simp⟩
  ·exact A1.bxs b (List.mem_append_right _ hb)
 ·rcases H.2.own with h1 | ⟨i, c, e, g1, g2, g3, g4⟩
  ·exact .inl h1
  ·have hi2 : i ∈ slIds v2 ++ bx := List.mem_append_left _ (by rw [e]; simp [slIds])
   refine .inr ⟨i, c, e, g1, fun hi => ?_, H.1.live O.ext hi2 g3, g4⟩
   rcases List.mem_append.1 hi with hi | hi
   ·rcases A1.own with ⟨e3, _⟩ | ⟨j, _, e3, _, g5, _⟩
    ·rw [e3] at hi; cases hi
    ·rw [e3] at hi
     obtain rfl := List.mem_singleton.1 hi
     exact g5 hi2
   ·exact g2 (List.mem_append_right _ hi)
theorem Two.view {h h' : Heap} {bx : List Nat} {v1 v2 : AV} {o1 o2 : List Int} (H : Two h h' bx v1 o1 v2 o2) : Sl (RN .i64) 1 h' v1 o1 := by
 obtain ⟨G2, f1, f2, f3, _⟩ := H.1.fold RN.mono
 exact f3.mono RN.mono f2
set_option maxHeartbeats 4000000 in
theorem p88 {h : Heap} {c : List AV} {m : Image} (hc : RImg h c m) (hw : m.WF) (hsl : m.statref.length = m.stat.length) : Looks Tryz.prog ann 88 [.agg c] h (.bool (BP (HeapP m))) := by
 have hone := hc.one
 have lw : Len m.words := hw.words.1
 have lw2 := lw
 unfold Len at lw2
 have lst : Len m.stat := hw.stat.1
 unfold Len at lst
 have h32 : ∀ i, I32 (m.words.getD i 0) := fun i => by
  by_cases hi : i < m.words.length
  ·rw [getD_at hi]
   exact hw.words.2 _ (List.getElem_mem hi)
  ·rw [List.getD_eq_getElem?_getD, List.getElem?_eq_none (by omega)]
   unfold I32
   exact ⟨by decide, by decide⟩
 have hR := hc
 obtain ⟨vc, vm, vg, vw, vr, vs, vf, rfl, v1, v2, v3, v4, v5, v6, v7⟩ := hc
 refine s_look_of rfl Tryz.func88 (frc (by with_unfolding_all rfl)) rfl ?_
 refine tS ?_
 apply o_val rfl rfl hone
 refine tV ?_
 apply o_lenS rfl rfl v4
 refine tV ?_
 refine oI (1048576 < m.words.length) (fun H1 => ?_) (fun H1 => ?_)
 ·refine tW ?_
  exact noB rfl (fun h => by obtain ⟨l, e, _⟩ := h; unfold parse at e; rw [if_neg (by omega)] at e; cases e) .refl (by simp)
 have hpar : parse m.words = scan m.words 0 := by unfold parse; rw [if_pos (by omega)]
 refine tV ?_
 refine s_loopB (fun s : Nat × List Nat × AV × AV × List Nat => [(1, .tptr [vc, vm, I m.entry, I m.need, vg, vw, vr, vs, vf] 0), (3, vw), (4, s.2.2.1), (5, s.2.2.2.1), (6, .int .i64 (s.1 : Int))]) (fun s => s.2.1)
  (fun s h' => Two h h' s.2.1 s.2.2.1 (s.2.2.2.2.map fun a : Nat => (a : Int)) s.2.2.2.1 (relOf m s.2.2.2.2) ∧ (relOf m s.2.2.2.2).length ≤ s.1 ∧ s.2.2.2.2.length ≤ s.1 ∧ s.1 ≤ m.words.length ∧ scan m.words 0 = (scan m.words s.1).map (s.2.2.2.2 ++ ·) ∧ ∀ x ∈ s.2.2.2.2, ObP m x)
  (fun s => m.words.length - s.1) (0, [], .nil .sl, .nil .sl, []) tU rfl ⟨⟨Acc.start .refl .refl (by simp [slIds]), Acc.start .refl .refl (by simp [slIds])⟩, by simp [relOf], by simp, Nat.zero_le _, by simp, by simp⟩ ?_
 rintro ⟨a, bx, vt, ve, pre⟩ k0 ⟨T1, hln, hpl, hale, hsc, hob⟩
 simp only at T1 hln hpl hale hsc hob ⊢
 have hbx := T1.free
 have hx := T1.1.Gh
 refine tV ?_
 apply o_lenS rfl rfl (v4.mono RN.mono hx)
 refine tV ?_
 refine oI (a < m.words.length) (fun H2 => ?_) (fun H2 => ?_)
 rotate_left
 ·have hps : parse m.words = some pre := by
   rw [hpar, hsc, scan_done H2]
   simp
  have hl := parse_mem hps
  rw [BP_heap hps]
  have s1 := T1.view
  have s2 := T1.swap.view
  clear T1
  have hlr : Len (relOf m pre) := by unfold Len; omega
  refine tW ?_
  apply o_hcall rfl rfl rfl rfl (p62 s2 (v5.mono RN.mono hx) hlr hw.rel.1).go
  rintro _ k1 ⟨rfl, hy⟩
  replace s1 := s1.mono RN.mono hy
  replace s2 := s2.mono RN.mono hy
  replace hx := hx.trans hy
  clear hy
  by_cases H3 : relOf m pre = m.rel
  rotate_left
  ·rw [decide_eq_false H3]
   refine tW ?_
   exact noB rfl (fun h => H3 h.rel) hx hbx
  rw [decide_eq_true H3]
  refine tw ?_
  refine tw ?_
  refine tw ?_
  refine tw ?_
  refine tw ?_
  refine tw ?_
  refine s_join (σ := Unit) (fun _ => [(1, .tptr [vc, vm, I m.entry, I m.need, vg, vw, vr, vs, vf] 0), (4, vt)]) (fun _ h' => Ext k1 h' ∧ ∀ r ∈ relOf m pre, RefP pre (m.words.getD r.toNat 0)) ?_ ?_
  ·refine tV ?_
   refine s_loop (fun k : Nat => [(1, .tptr [vc, vm, I m.entry, I m.need, vg, vw, vr, vs, vf] 0), (3, vw), (4, vt), (5, ve), (9, .int .i64 (k : Int))]) (fun k h' => Ext k1 h' ∧ k ≤ (relOf m pre).length ∧ ∀ j, j < k → RefP pre (m.words.getD ((relOf m pre).getD j 0).toNat 0)) (fun k => (relOf m pre).length - k) 0
    tU ⟨.refl, Nat.zero_le _, fun j hj => by omega⟩ ?_
   rintro k k2 ⟨hy, hk, ht⟩
   refine tV ?_
   apply o_lenS rfl rfl (s2.mono RN.mono hy)
   refine tV ?_
   refine oI (k < (relOf m pre).length) (fun H4 => ?_) (fun H4 => ?_)
   rotate_left
   ·refine tW ?_
    refine ⟨(), tU, rfl, hy, fun r hr => ?_⟩
    obtain ⟨j, hj, rfl⟩ := List.mem_iff_getElem.1 hr
    have := ht j (by omega)
    rwa [getD_at hj] at this
   obtain ⟨q1, q2⟩ := relOf_at hl (List.getElem_mem H4)
   have q3 := getD_at (l := m.words) (a := (0 : Int)) q2
   refine tV ?_
   apply o_iaS rfl rfl rfl (s2.mono RN.mono hy) H4
   intro p c hp hc _
   apply o_ldG rfl rfl hp (.one hc) (fun _ => .refl)
   clear hp hc
   apply o_iaS (z := ((relOf m pre)[k]).toNat) rfl rfl (by rw [Int.toNat_of_nonneg q1]; rfl) (v4.mono RN.mono (hx.trans hy)) q2
   intro p c hp hc _
   apply o_ldG rfl rfl hp (.one hc) (fun _ => .refl)
   clear hp hc
   apply o_hcall rfl rfl rfl rfl (p143 (s1.mono RN.mono hy) (by unfold Len; omega) (by rw [← q3]; exact h32 _)).go
   rintro _ k3 ⟨rfl, hz⟩
   by_cases H5 : RefP pre m.words[((relOf m pre)[k]).toNat]
   rotate_left
   ·rw [BP_false H5]
    refine tW ?_
    exact noB rfl (fun h => H5 (by have := h.refs _ (List.getElem_mem H4); rwa [q3] at this)) (hx.trans (hy.trans hz)) hbx
   rw [BP_true H5]
   refine tW ?_
   rw [w64 (n := (k : Int) + 1) (by omega) (by omega)]
   refine ⟨k + 1, by simp only; omega, tU, rfl, hy.trans hz, by omega, fun j hj => ?_⟩
   by_cases e : j = k
   rotate_left
   ·exact ht j (by omega)
   subst e
   rw [getD_at H4, q3]
   exact H5
  rintro _ k2 ⟨hy, hrf⟩
  replace s1 := s1.mono RN.mono hy
  replace hx := hx.trans hy
  clear hy
  refine tV ?_
  refine s_loop (fun k : Nat => [(1, .tptr [vc, vm, I m.entry, I m.need, vg, vw, vr, vs, vf] 0), (4, vt), (10, .int .i64 (k : Int))]) (fun k h' => Ext k2 h' ∧ k ≤ m.stat.length ∧ ∀ i, i < k → m.statref.getD i false = true → RefP pre (m.stat.getD i 0)) (fun k => m.stat.length - k) 0
   tU ⟨.refl, Nat.zero_le _, fun i hi => by omega⟩ ?_
  rintro k k3 ⟨hy, hk, ht⟩
  refine tV ?_
  apply o_lenS rfl rfl (v6.mono RN.mono (hx.trans hy))
  refine tV ?_
  refine oI (k < m.stat.length) (fun H4 => ?_) (fun H4 => ?_)
  rotate_left
  ·refine tW ?_
   exact yesB rfl ⟨hob, fun i hi => ht i (by omega), H3, hrf⟩ (hx.trans hy) hbx
  refine tV ?_
  apply o_iaS rfl rfl rfl (v7.mono RB.mono (hx.trans hy)) (show k < _ by omega)
  intro p2 c2 hp2 hc2 _
  apply o_ldG rfl rfl hp2 (.one hc2) (fun _ => .refl)
  have hr1 := getD_at (l := m.statref) (i := k) (a := false) (by omega)
  have hr2 := getD_at (l := m.stat) (i := k) (a := (0 : Int)) H4
  cases hsr1 : m.statref[k]'(by omega) with
  | false =>
   refine tW ?_
   rw [w64 (n := (k : Int) + 1) (by omega) (by omega)]
   refine ⟨k + 1, by simp only; omega, tU, rfl, hy, by omega, fun i hi hti => ?_⟩
   by_cases e : i = k
   rotate_left
   ·exact ht i (by omega) hti
   subst e
   rw [hr1, hsr1] at hti
   cases hti
  | true =>
   refine tW ?_
   apply o_iaS rfl rfl rfl (v6.mono RN.mono (hx.trans hy)) H4
   intro p c hp hc _
   refine tV ?_
   apply o_ldG rfl rfl hp (.one hc) (fun _ => .refl)
   refine tV ?_
   apply o_hcall rfl rfl rfl rfl (p143 (s1.mono RN.mono hy) (by unfold Len; omega) (hw.stat.2 _ (List.getElem_mem H4))).go
   rintro _ k4 ⟨rfl, hz⟩
   by_cases H5 : RefP pre m.stat[k]
   rotate_left
   ·rw [BP_false H5]
    refine tW ?_
    exact noB rfl (fun h => H5 (by have := h.stat k H4 (by rw [hr1, hsr1]); rwa [hr2] at this)) (hx.trans (hy.trans hz)) hbx
   rw [BP_true H5]
   refine tW ?_
   rw [w64 (n := (k : Int) + 1) (by omega) (by omega)]
   refine ⟨k + 1, by simp only; omega, tU, rfl, hy.trans hz, by omega, fun i hi hti => ?_⟩
   by_cases e : i = k
   rotate_left
   ·exact ht i (by omega) hti
   subst e
   rw [hr2]
   exact H5
 have hbad : ¬ Ob m.words a → ¬ HeapP m := fun hO ⟨l, e, _⟩ => by
  rw [hpar, hsc, scan_bad H2 hO] at e
  cases e
 have g0 := getD_at (a := (0 : Int)) H2
 refine tV ?_
 apply o_as (w := I ((a + 1 : Nat) : Int)) rfl rfl trivial (by rw [w64 (by omega) (by omega)]; rfl)
 refine tV ?_
 apply o_lenS rfl rfl (v4.mono RN.mono hx)
 refine tV ?_
 refine oI (m.words.length ≤ a + 1) (fun H3 => ?_) (fun H3 => ?_)
 ·have HB : ¬ Ob m.words a := fun hO => by have h1 := hO.1; have h2 := hO.2.1.1; have h3 := hO.2.1.2.1; have h4 := hO.2.1.2.2.1; have h5 := hO.2.1.2.2.2; have h6 := hO.2.2; omega
  refine tW ?_
  exact noB rfl (hbad HB) hx hbx
 have g1 := getD_at (l := m.words) (i := a + 1) (a := (0 : Int)) (by omega)
 have q0 := h32 a
 have q1 := h32 (a + 1)
 unfold I32 at q0 q1
 rw [g0] at q0
 rw [g1] at q1
 refine tV ?_
 apply o_iaS rfl rfl rfl (v4.mono RN.mono hx) H2
 intro p c hp hc _
 refine tV ?_
 apply o_ldG rfl rfl hp (.one hc) (fun _ => .refl)
 refine tV ?_
 refine oI (m.words[a] < 0) (fun H4 => ?_) (fun H4 => ?_)
 ·have HB : ¬ Ob m.words a := fun hO => by have h1 := hO.1; have h2 := hO.2.1.1; have h3 := hO.2.1.2.1; have h4 := hO.2.1.2.2.1; have h5 := hO.2.1.2.2.2; have h6 := hO.2.2; omega
  refine tW ?_
  exact noB rfl (hbad HB) hx hbx
 refine tV ?_
 apply o_iaS rfl rfl rfl (v4.mono RN.mono hx) H2
 intro p c hp hc _
 refine tV ?_
 apply o_ldG rfl rfl hp (.one hc) (fun _ => .refl)
 refine tV ?_
 refine oI (10000 < m.words[a]) (fun H5 => ?_) (fun H5 => ?_)
 ·have HB : ¬ Ob m.words a := fun hO => by have h1 := hO.1; have h2 := hO.2.1.1; have h3 := hO.2.1.2.1; have h4 := hO.2.1.2.2.1; have h5 := hO.2.1.2.2.2; have h6 := hO.2.2; omega
  refine tW ?_
  exact noB rfl (hbad HB) hx hbx
 refine tV ?_
 apply o_as (w := I ((a + 1 : Nat) : Int)) rfl rfl trivial (by rw [w64 (by omega) (by omega)]; rfl)
 refine tV ?_
 apply o_iaS rfl rfl rfl (v4.mono RN.mono hx) (show a + 1 < _ by omega)
 intro p c hp hc _
 refine tV ?_
 apply o_ldG rfl rfl hp (.one hc) (fun _ => .refl)
 refine tV ?_
 refine oI (m.words[a + 1] < 0) (fun H6 => ?_) (fun H6 => ?_)
 ·have HB : ¬ Ob m.words a := fun hO => by have h1 := hO.1; have h2 := hO.2.1.1; have h3 := hO.2.1.2.1; have h4 := hO.2.1.2.2.1; have h5 := hO.2.1.2.2.2; have h6 := hO.2.2; omega
  refine tW ?_
  exact noB rfl (hbad HB) hx hbx
 refine tV ?_
 apply o_as (w := I ((a + 1 : Nat) : Int)) rfl rfl trivial (by rw [w64 (by omega) (by omega)]; rfl)
 refine tV ?_
 apply o_iaS rfl rfl rfl (v4.mono RN.mono hx) (show a + 1 < _ by omega)
 intro p c hp hc _
 refine tV ?_
 apply o_ldG rfl rfl hp (.one hc) (fun _ => .refl)
 refine tV ?_
 refine oI (1000 < m.words[a + 1]) (fun H7 => ?_) (fun H7 => ?_)
 ·have HB : ¬ Ob m.words a := fun hO => by have h1 := hO.1; have h2 := hO.2.1.1; have h3 := hO.2.1.2.1; have h4 := hO.2.1.2.2.1; have h5 := hO.2.1.2.2.2; have h6 := hO.2.2; omega
  refine tW ?_
  exact noB rfl (hbad HB) hx hbx
 refine tV ?_
 apply o_as (w := I ((a + 1 : Nat) : Int)) rfl rfl trivial (by rw [w64 (by omega) (by omega)]; rfl)
 refine tV ?_
 apply o_iaS rfl rfl rfl (v4.mono RN.mono hx) (show a + 1 < _ by omega)
 intro p c hp hc _
 refine tV ?_
 apply o_ldG rfl rfl hp (.one hc) (fun _ => .refl)
 refine tV ?_
 apply o_as (w := I m.words[a + 1]) rfl rfl trivial (by rw [w64 (by omega) (by omega)])
 refine tV ?_
 apply o_lenS rfl rfl (v4.mono RN.mono hx)
 refine tV ?_
 apply o_as (w := I ((m.words.length : Int) - a)) rfl rfl trivial (by rw [w64 (by omega) (by omega)])
 refine tV ?_
 apply o_as (w := I ((m.words.length : Int) - a - 2)) rfl rfl trivial (by rw [w64 (by omega) (by omega)])
 refine tV ?_
 refine oI ((m.words.length : Int) - a - 2 < m.words[a + 1]) (fun H8 => ?_) (fun H8 => ?_)
 ·have HB : ¬ Ob m.words a := fun hO => by have h1 := hO.1; have h2 := hO.2.1.1; have h3 := hO.2.1.2.1; have h4 := hO.2.1.2.2.1; have h5 := hO.2.1.2.2.2; have h6 := hO.2.2; omega
  refine tW ?_
  exact noB rfl (hbad HB) hx hbx
 have HO : Ob m.words a := ⟨by omega, ⟨by omega, by omega, by omega, by omega⟩, by omega⟩
 refine tV ?_
 apply o_iaS rfl rfl rfl (v4.mono RN.mono hx) H2
 intro p c hp hc _
 refine tV ?_
 apply o_ldG rfl rfl hp (.one hc) (fun _ => .refl)
 refine tV ?_
 apply o_as (w := I m.words[a]) rfl rfl trivial (by rw [w64 (by omega) (by omega)])
 refine tV ?_
 apply o_hcall rfl rfl rfl rfl (p85 (RImg.mono _ _ _ _ hx hR) hw).go
 rintro _ k2 ⟨rfl, hy⟩
 replace T1 := T1.up hy
 replace hx := hx.trans hy
 clear hy
 have hmem : ∀ l, parse m.words = some l → a ∈ l := fun l e => by
  rw [hpar, hsc, scan_ob H2 HO, Option.map_map] at e
  obtain ⟨l2, _, rfl⟩ := Option.map_eq_some_iff.1 e
  simp
 by_cases H9 : IsT m m.words[a]
 rotate_left
 ·rw [BP_false H9]
  refine tW ?_
  exact noB rfl (fun h => by obtain ⟨l, e, H⟩ := h; have := (H.obs a (hmem l e)).1; unfold wAt at this; rw [g0] at this; exact H9 this) hx hbx
 rw [BP_true H9]
 obtain ⟨hn1, em⟩ := cAt_at H9
 have hn0 : m.words[a] = ((m.words[a]).toNat : Int) := by omega
 have eC : obC m a = m.classes[(m.words[a]).toNat] := by unfold obC wAt; rw [g0]; exact em
 have hN : (obN m a : Int) = m.words[a + 1] := by unfold obN wAt; rw [g1]; omega
 refine tW ?_
 apply o_iaS rfl rfl rfl (v4.mono RN.mono hx) H2
 intro p c hp hc _
 apply o_ldG rfl rfl hp (.one hc) (fun _ => .refl)
 clear hp hc
 apply o_iaG (z := (m.words[a]).toNat) rfl rfl (by rw [← hn0]; rfl) hx v1 hn1
 intro p d hp hd hdl
 have hone2 := hd.one
 rw [← eC] at hd
 obtain ⟨wr, ws, wt, wf, rfl, u1, _⟩ := hd
 apply o_ldG rfl rfl hp (.many rfl hdl) (fun _ => .refl)
 clear hp
 apply o_alc rfl
 intro b7 hb7
 have T2 := T1.box (o := .cells [.str (obC m a).name, I (obC m a).super, I (obC m a).init, wr, ws, wt, wf, I (obC m a).array, I (obC m a).elem, .bool (obC m a).thrown]) hb7
 apply o_st (v := .agg [.str (obC m a).name, I (obC m a).super, I (obC m a).init, wr, ws, wt, wf, I (obC m a).array, I (obC m a).elem, .bool (obC m a).thrown]) rfl rfl rfl rfl rfl (eC ▸ hone2) upd_same (splice_full (by rfl))
 rw [upd_upd]
 have e7 : upd k2 b7 (some (.cells [.str (obC m a).name, I (obC m a).super, I (obC m a).init, wr, ws, wt, wf, I (obC m a).array, I (obC m a).elem, .bool (obC m a).thrown])) b7 = some (.cells [.str (obC m a).name, I (obC m a).super, I (obC m a).init, wr, ws, wt, wf, I (obC m a).array, I (obC m a).elem, .bool (obC m a).thrown]) := upd_same
 show SOps _ _ _ _ _ _ _ _ (b7 :: bx) (upd k2 b7 (some (.cells [.str (obC m a).name, I (obC m a).super, I (obC m a).init, wr, ws, wt, wf, I (obC m a).array, I (obC m a).elem, .bool (obC m a).thrown]))) _
 generalize upd k2 b7 (some (.cells [.str (obC m a).name, I (obC m a).super, I (obC m a).init, wr, ws, wt, wf, I (obC m a).array, I (obC m a).elem, .bool (obC m a).thrown])) = k3 at T2 e7 ⊢
 clear T1 hx hbx hb7 hdl hone2
 have hx := T2.1.Gh
 have hbx := T2.free
 refine tv ?_
 refine tv ?_
 refine s_join (σ := Unit) (fun _ => [(1, .tptr [vc, vm, I m.entry, I m.need, vg, vw, vr, vs, vf] 0), (3, vw), (4, vt), (5, ve), (6, .int .i64 (a : Int)), (7, .ptr b7 0)]) (fun _ h' => h' = k3 ∧ ObP m a) ?_ ?_
 ·refine tV ?_
  apply o_ldh rfl rfl e7 (fun _ => by rw [e7]; simp) rfl
  refine tV ?_
  refine oI ((obC m a).array = 0) (fun H10 => ?_) (fun H10 => ?_)
  rotate_left
  ·refine tW ?_
   refine ⟨(), tU, rfl, rfl, ⟨by unfold wAt; rw [g0]; exact H9, fun e => absurd e H10⟩⟩
  refine tV ?_
  apply o_as (w := I ((a + 1 : Nat) : Int)) rfl rfl trivial (by rw [w64 (by omega) (by omega)]; rfl)
  refine tV ?_
  apply o_iaS rfl rfl rfl (v4.mono RN.mono hx) (show a + 1 < _ by omega)
  intro p c hp hc _
  refine tV ?_
  apply o_ldG rfl rfl hp (.one hc) (fun _ => .refl)
  refine tV ?_
  apply o_as (w := I m.words[a + 1]) rfl rfl trivial (by rw [w64 (by omega) (by omega)])
  refine tV ?_
  apply o_ldh rfl rfl e7 (fun _ => by rw [e7]; simp) rfl
  refine tV ?_
  apply o_lenS rfl rfl (u1.mono RB.mono hx)
  refine tV ?_
  refine oI (m.words[a + 1] ≠ (obC m a).refs.length) (fun H11 => ?_) (fun H11 => ?_)
  ·refine tW ?_
   exact noB rfl (fun h => by obtain ⟨l, e, H⟩ := h; have := (H.obs a (hmem l e)).2 H10; unfold wAt at this; rw [g1] at this; exact H11 this) hx hbx
  refine tW ?_
  refine ⟨(), tU, rfl, rfl, ⟨by unfold wAt; rw [g0]; exact H9, fun _ => by unfold wAt; rw [g1]; omega⟩⟩
 rintro _ _ ⟨rfl, hObP⟩
 refine tV ?_
 apply o_val rfl rfl ⟨rfl, rfl⟩
 obtain ⟨cs, hcs, O⟩ := T2.1.osl
 apply o_appO (n := 1) rfl rfl rfl rfl O rfl rfl rfl (by simp only [List.length_map]; omega)
 intro vt2 k4 O2 hm2
 have T3 := T2.app hcs O2
 replace e7 := T2.1.live hm2 (by simp) e7
 rw [show (pre.map fun a : Nat => (a : Int)) ++ [(a : Int)] = (pre ++ [a]).map (fun a : Nat => (a : Int)) by simp] at T3
 clear T2 hx hbx hm2 O2 O hcs
 refine tV ?_
 refine s_loop (fun s : Nat × AV => [(1, .tptr [vc, vm, I m.entry, I m.need, vg, vw, vr, vs, vf] 0), (3, vw), (4, vt2), (5, s.2), (6, .int .i64 (a : Int)), (7, .ptr b7 0), (8, .int .i64 (s.1 : Int))])
  (fun s h' => Two h h' (b7 :: bx) vt2 ((pre ++ [a]).map fun a : Nat => (a : Int)) s.2 (relOf m pre ++ refsTo m a s.1) ∧ h' b7 = k4 b7 ∧ s.1 ≤ obN m a) (fun s => obN m a - s.1) (0, ve)
  tU ⟨by simpa [refsTo] using T3, rfl, Nat.zero_le _⟩ ?_
 clear T3
 rintro ⟨k, v2⟩ k9 ⟨T4, f8, hk⟩
 simp only at T4 f8 hk ⊢
 rw [e7] at f8
 have hx := T4.1.Gh
 have hrl := refsTo_len m a k
 refine tV ?_
 apply o_as (w := I ((a + 1 : Nat) : Int)) rfl rfl trivial (by rw [w64 (by omega) (by omega)]; rfl)
 refine tV ?_
 apply o_iaS rfl rfl rfl (v4.mono RN.mono hx) (show a + 1 < _ by omega)
 intro p c hp hc _
 refine tV ?_
 apply o_ldG rfl rfl hp (.one hc) (fun _ => .refl)
 apply o_as (w := I m.words[a + 1]) rfl rfl trivial (by rw [w64 (by omega) (by omega)])
 refine tV ?_
 refine oI (k < obN m a) (fun H12 => ?_) (fun H12 => ?_)
 rotate_left
 ·refine tX ?_
  refine tV ?_
  apply o_as (w := I ((a + 1 : Nat) : Int)) rfl rfl trivial (by rw [w64 (by omega) (by omega)]; rfl)
  refine tV ?_
  apply o_iaS rfl rfl rfl (v4.mono RN.mono hx) (show a + 1 < _ by omega)
  intro p c hp hc _
  refine tV ?_
  apply o_ldG rfl rfl hp (.one hc) (fun _ => .refl)
  apply o_as (w := I m.words[a + 1]) rfl rfl trivial (by rw [w64 (by omega) (by omega)])
  apply o_as (w := I (2 + m.words[a + 1])) rfl rfl trivial (by rw [w64 (by omega) (by omega)])
  apply o_as (w := I ((a + 2 + (m.words.getD (a + 1) 0).toNat : Nat) : Int)) rfl rfl trivial (by rw [g1, w64 (by omega) (by omega)]; congr 1; omega)
  refine tW ?_
  have hkN : k = obN m a := by omega
  have hap : relOf m (pre ++ [a]) = relOf m pre ++ refsTo m a k := by
   rw [hkN]
   unfold relOf refsAt
   simp
  refine ⟨(a + 2 + (m.words.getD (a + 1) 0).toNat, b7 :: bx, vt2, v2, pre ++ [a]), by simp only; omega, tU, rfl, by simp only; rw [hap]; exact T4, ?_, ?_, by simp only; rw [g1]; omega, scan_step hsc H2 HO, fun x hx => ?_⟩
  ·simp only
   rw [hap, List.length_append, g1]
   omega
  ·simp only [List.length_append, List.length_singleton]
   omega
  ·rcases List.mem_append.1 hx with hx | hx
   ·exact hob x hx
   ·obtain rfl := List.mem_singleton.1 hx
    exact hObP
 refine tV ?_
 apply o_ldh rfl rfl f8 (fun h => by omega) rfl
 refine tV ?_
 refine oI ((obC m a).array = 2) (fun H13 => ?_) (fun H13 => ?_)
 ·have hr : isRefC (obC m a) k = true := by simp [isRefC, H13]
  refine tW ?_
  rw [w64 (n := (a : Int) + 2) (by omega) (by omega), w64 (n := (a : Int) + 2 + (k : Int)) (by omega) (by omega), show (a : Int) + 2 + (k : Int) = ((a + 2 + k : Nat) : Int) by omega]
  apply o_val rfl rfl ⟨rfl, rfl⟩
  obtain ⟨cs, hcs, O⟩ := T4.2.osl
  apply o_appO (n := 1) rfl rfl rfl rfl O rfl rfl rfl (by simp only [List.length_append]; omega)
  intro v3 k10 O2 hm2
  have T5 := (T4.swap.app hcs O2).swap
  have f9 := T4.2.live hm2 (by simp) f8
  refine tW ?_
  rw [w64 (n := (k : Int) + 1) (by omega) (by omega)]
  refine ⟨(k + 1, v3), by simp only; omega, tU, rfl, ?_, f9.trans e7.symm, by simp only; omega⟩
  simp only
  rw [refsTo_succ, if_pos hr, ← List.append_assoc]
  exact T5
 refine tV ?_
 apply o_ldh rfl rfl f8 (fun h => by omega) rfl
 refine tV ?_
 refine oI ((obC m a).array = 0) (fun H14 => ?_) (fun H14 => ?_)
 rotate_left
 ·have hr : isRefC (obC m a) k = false := by simp [isRefC, H13, H14]
  refine tW ?_
  rw [w64 (n := (k : Int) + 1) (by omega) (by omega)]
  refine ⟨(k + 1, v2), by simp only; omega, tU, rfl, ?_, f8.trans e7.symm, by simp only; omega⟩
  simp only
  rw [refsTo_succ, if_neg (by rw [hr]; decide), List.append_nil]
  exact T4
 have hkr : k < (obC m a).refs.length := by have := hObP.2 H14; unfold wAt at this; rw [g1] at this; omega
 refine tV ?_
 apply o_ldh rfl rfl f8 (fun h => by omega) rfl
 refine tV ?_
 apply o_iaS rfl rfl rfl (u1.mono RB.mono hx) hkr
 intro p2 c2 hp2 hc2 _
 refine tV ?_
 apply o_ldG rfl rfl hp2 (.one hc2) (fun _ => .refl)
 have hgr := getD_at (a := false) hkr
 cases hrk : (obC m a).refs[k] with
 | true =>
  have hr : isRefC (obC m a) k = true := by unfold isRefC; rw [hgr, hrk]; simp [H14]
  refine tW ?_
  rw [w64 (n := (a : Int) + 2) (by omega) (by omega), w64 (n := (a : Int) + 2 + (k : Int)) (by omega) (by omega), show (a : Int) + 2 + (k : Int) = ((a + 2 + k : Nat) : Int) by omega]
  apply o_val rfl rfl ⟨rfl, rfl⟩
  obtain ⟨cs, hcs, O⟩ := T4.2.osl
  apply o_appO (n := 1) rfl rfl rfl rfl O rfl rfl rfl (by simp only [List.length_append]; omega)
  intro v3 k10 O2 hm2
  have T5 := (T4.swap.app hcs O2).swap
  have f9 := T4.2.live hm2 (by simp) f8
  refine tW ?_
  rw [w64 (n := (k : Int) + 1) (by omega) (by omega)]
  refine ⟨(k + 1, v3), by simp only; omega, tU, rfl, ?_, f9.trans e7.symm, by simp only; omega⟩
  simp only
  rw [refsTo_succ, if_pos hr, ← List.append_assoc]
  exact T5
 | false =>
  have hr : isRefC (obC m a) k = false := by unfold isRefC; rw [hgr, hrk]; simp [H13]
  refine tW ?_
  rw [w64 (n := (k : Int) + 1) (by omega) (by omega)]
  refine ⟨(k + 1, v2), by simp only; omega, tU, rfl, ?_, f8.trans e7.symm, by simp only; omega⟩
  simp only
  rw [refsTo_succ, if_neg (by rw [hr]; decide), List.append_nil]
  exact T4
end Go.Proofs
end
section
open Go Go.Abs Go.Proofs.SlimCode Go.Img
set_option maxRecDepth 100000
namespace Go.Proofs
set_option maxHeartbeats 4000000 in
theorem p26 {h : Heap} {c : List AV} {m : Image} (hc : RImg h c m) (hw : m.WF) : Looks Tryz.prog ann 26 [.agg c] h (.bool (BP (ValidP m))) := by
 have hone := hc.one
 have hR := hc
 obtain ⟨vc, vm, vg, vw, vr, vs, vf, rfl, v1, v2, v3, v4, v5, v6, v7⟩ := hc
 have hx : Ext h h := .refl
 refine s_look_of rfl Tryz.func26 (frc (by with_unfolding_all rfl)) rfl ?_
 refine tS ?_
 apply o_val rfl rfl hone
 refine tv ?_
 refine tv ?_
 refine tv ?_
 refine s_join (σ := Unit) (fun _ => [(1, .tptr [vc, vm, I m.entry, I m.need, vg, vw, vr, vs, vf] 0)]) (fun _ h' => Ext h h' ∧ m.given.length = 10 ∧ SizesP m ∧ Bare m m.entry ∧ (m.need = -1 ∨ IsT m m.need)) ?_ ?_
 ·refine tV ?_
  apply o_lenS rfl rfl (v3.mono RN.mono hx)
  refine tV ?_
  refine oI (m.given.length ≠ 10) (fun H1 => ?_) (fun H1 => ?_)
  ·refine tW ?_
   exact noB rfl (fun h => H1 h.first.given.1) hx (by simp)
  refine tV ?_
  apply o_lenS rfl rfl (v1.mono RCls.mono hx)
  refine tV ?_
  refine oI (m.classes.length < 1) (fun H2 => ?_) (fun H2 => ?_)
  ·refine tW ?_
   exact noB rfl (fun h => by have := h.first.sizes.1; omega) hx (by simp)
  refine tV ?_
  apply o_lenS rfl rfl (v1.mono RCls.mono hx)
  refine tV ?_
  refine oI (200 < m.classes.length) (fun H3 => ?_) (fun H3 => ?_)
  ·refine tW ?_
   exact noB rfl (fun h => by have := h.first.sizes.1; omega) hx (by simp)
  refine tV ?_
  apply o_lenS rfl rfl (v2.mono RMth.mono hx)
  refine tV ?_
  refine oI (400 < m.methods.length) (fun H4 => ?_) (fun H4 => ?_)
  ·refine tW ?_
   exact noB rfl (fun h => by have := h.first.sizes.2.1; omega) hx (by simp)
  refine tV ?_
  apply o_lenS rfl rfl (v6.mono RN.mono hx)
  refine tV ?_
  refine oI (200 < m.stat.length) (fun H5 => ?_) (fun H5 => ?_)
  ·refine tW ?_
   exact noB rfl (fun h => by have := h.first.sizes.2.2.1; omega) hx (by simp)
  refine tV ?_
  apply o_lenS rfl rfl (v7.mono RB.mono hx)
  refine tV ?_
  apply o_lenS rfl rfl (v6.mono RN.mono hx)
  refine tV ?_
  refine oI (m.statref.length ≠ m.stat.length) (fun H6 => ?_) (fun H6 => ?_)
  ·refine tW ?_
   exact noB rfl (fun h => by have := h.first.sizes.2.2.2; omega) hx (by simp)
  refine tV ?_
  apply o_hcall rfl rfl rfl rfl (p84 (RImg.mono _ _ _ _ hx hR) hw).go
  rintro _ k1 ⟨rfl, hy⟩
  replace hx := hx.trans hy
  clear hy
  by_cases H7 : Bare m m.entry
  rotate_left
  ·rw [BP_false H7]
   refine tW ?_
   exact noB rfl (fun h => H7 h.first.entry) hx (by simp)
  rw [BP_true H7]
  refine tW ?_
  refine oI (m.need ≠ -1) (fun H8 => ?_) (fun H8 => ?_)
  rotate_left
  ·refine tW ?_
   refine ⟨(), sub_cons rfl sub_nil, rfl, hx, by omega, ⟨by omega, by omega, by omega, by omega⟩, H7, .inl (by omega)⟩
  refine tW ?_
  apply o_hcall rfl rfl rfl rfl (p85 (RImg.mono _ _ _ _ hx hR) hw).go
  rintro _ k2 ⟨rfl, hy⟩
  replace hx := hx.trans hy
  clear hy
  by_cases H9 : IsT m m.need
  rotate_left
  ·rw [BP_false H9]
   refine tW ?_
   exact noB rfl (fun h => h.first.need.elim H8 H9) hx (by simp)
  rw [BP_true H9]
  refine tW ?_
  refine ⟨(), sub_cons rfl sub_nil, rfl, hx, by omega, ⟨by omega, by omega, by omega, by omega⟩, H7, .inr H9⟩
 clear hx
 rintro _ k0 ⟨hx, h10, hsz, hen, hne⟩
 have h200 := hsz.1.2
 have h400 := hsz.2.1
 refine tV ?_
 refine s_loop (fun i : Nat => [(1, .tptr [vc, vm, I m.entry, I m.need, vg, vw, vr, vs, vf] 0), (3, .int .i64 (i : Int))]) (fun i h' => Ext h h' ∧ i ≤ 10 ∧ ∀ j, j < i → GivenAt m j) (fun i => 10 - i) 0
  tU ⟨hx, Nat.zero_le _, fun j hj => by omega⟩ ?_
 clear hx
 rintro i k1 ⟨hx, hi, ht⟩
 refine tV ?_
 refine oI (i < 10) (fun H1 => ?_) (fun H1 => ?_)
 rotate_left
 ·have hgv : GivenP m := ⟨h10, fun j hj => ht j (by omega)⟩
  refine tX ?_
  refine tV ?_
  refine s_loop (fun k : Nat => [(1, .tptr [vc, vm, I m.entry, I m.need, vg, vw, vr, vs, vf] 0), (5, .int .i64 (k : Int))]) (fun k h' => Ext h h' ∧ k ≤ m.classes.length ∧ ∀ j, j < k → (hj : j < m.classes.length) → ClassP m j m.classes[j]) (fun k => m.classes.length - k) 0
   tU ⟨hx, Nat.zero_le _, fun j hj => by omega⟩ ?_
  clear hx
  rintro k k2 ⟨hx, hk, hcs⟩
  refine tV ?_
  apply o_lenS rfl rfl (v1.mono RCls.mono hx)
  refine tV ?_
  refine oI (k < m.classes.length) (fun H2 => ?_) (fun H2 => ?_)
  rotate_left
  ·refine tX ?_
   refine tV ?_
   refine s_loop (fun q : Nat => [(1, .tptr [vc, vm, I m.entry, I m.need, vg, vw, vr, vs, vf] 0), (6, .int .i64 (q : Int))]) (fun q h' => Ext h h' ∧ q ≤ m.methods.length ∧ ∀ j, j < q → (hj : j < m.methods.length) → MethP m m.methods[j]) (fun q => m.methods.length - q) 0
    tU ⟨hx, Nat.zero_le _, fun j hj => by omega⟩ ?_
   clear hx
   rintro q k3 ⟨hx, hq, hms⟩
   refine tV ?_
   apply o_lenS rfl rfl (v2.mono RMth.mono hx)
   refine tV ?_
   refine oI (q < m.methods.length) (fun H3 => ?_) (fun H3 => ?_)
   rotate_left
   ·refine tW ?_
    apply o_hcall rfl rfl rfl rfl (p88 (RImg.mono _ _ _ _ hx hR) hw hsz.2.2.2.symm).go
    rintro _ k4 ⟨rfl, hy⟩
    replace hx := hx.trans hy
    clear hy
    refine tW ?_
    refine eqB rfl (BP_congr ⟨fun h => ⟨⟨hsz, hgv, fun j hj => (hcs j (by omega) hj).1, hen, hne⟩, fun j hj => (hcs j (by omega) hj).2, fun x hxm => ?_, h⟩, fun h => h.heap⟩) hx (by simp)
    obtain ⟨j, hj, rfl⟩ := List.mem_iff_getElem.1 hxm
    exact hms j (by omega) hj
   refine tV ?_
   apply o_iaS rfl rfl rfl (v2.mono RMth.mono hx) H3
   intro p d hp hd hdl
   apply o_ldG rfl rfl hp (.many rfl hdl) (fun _ => .refl)
   apply o_hcall rfl rfl rfl rfl (p87 (RImg.mono _ _ _ _ hx hR) hw hd (hw.methods.2 _ (List.getElem_mem H3))).go
   rintro _ k4 ⟨rfl, hy⟩
   replace hx := hx.trans hy
   clear hy
   by_cases H4 : MethP m m.methods[q]
   rotate_left
   ·rw [BP_false H4]
    refine tW ?_
    exact noB rfl (fun h => H4 (h.meths _ (List.getElem_mem H3))) hx (by simp)
   rw [BP_true H4]
   refine tW ?_
   rw [w64 (n := (q : Int) + 1) (by omega) (by omega)]
   refine ⟨q + 1, by simp only; omega, tU, rfl, hx, by omega, fun j hj hjl => ?_⟩
   by_cases e : j = q
   ·subst e
    exact H4
   ·exact hms j (by omega) hjl
  refine tV ?_
  apply o_hcall rfl rfl rfl rfl (p86 (RImg.mono _ _ _ _ hx hR) hw H2 h200).go
  rintro _ k3 ⟨rfl, hy⟩
  replace hx := hx.trans hy
  clear hy
  by_cases H3 : ClassP m k m.classes[k]
  rotate_left
  ·rw [BP_false H3]
   refine tW ?_
   exact noB rfl (fun h => H3 ⟨h.first.supers k H2, h.kinds k H2⟩) hx (by simp)
  rw [BP_true H3]
  refine tW ?_
  rw [w64 (n := (k : Int) + 1) (by omega) (by omega)]
  refine ⟨k + 1, by simp only; omega, tU, rfl, hx, by omega, fun j hj hjl => ?_⟩
  by_cases e : j = k
  ·subst e
   exact H3
  ·exact hcs j (by omega) hjl
 have hil : i < m.given.length := by omega
 have g0 := getD_at (a := (0 : Int)) hil
 refine tv ?_
 refine tv ?_
 refine tv ?_
 refine tv ?_
 refine tv ?_
 refine tv ?_
 refine tv ?_
 refine s_join (σ := Unit) (fun _ => [(1, .tptr [vc, vm, I m.entry, I m.need, vg, vw, vr, vs, vf] 0), (3, .int .i64 (i : Int))]) (fun _ h' => Ext h h' ∧ IsT m m.given[i] ∧ (0 < i → (cAt m m.given[i]).thrown = true)) ?_ ?_
 ·refine tX ?_
  apply s_regX [] [.F, .A, .F, .A, .A, .F, .A, .A, .A, .A, .A, .A, .A, .F, .A, .F, .A, .A, .F, .A, .A, .F, .A, .A, .A] (by simp) rfl
  apply x_ldFm (l := [vc, vm, I m.entry, I m.need, vg, vw, vr, vs, vf]) rfl rfl rfl rfl
  apply x_v rfl rfl trivial
  apply x_ldFt rfl rfl rfl
  apply x_v rfl rfl trivial
  apply x_ia0 rfl rfl rfl (v3.mono RN.mono hx) hil
  intro p c hp hc _
  apply x_ldF rfl rfl hp (.one hc)
  clear hp hc
  apply x_look0 rfl rfl rfl (by exact p85 (n := m.given[i]) (RImg.mono _ _ _ _ hx hR) hw)
  intro k2 hy
  replace hx := hx.trans hy
  clear hy
  by_cases H2 : IsT m m.given[i]
  rotate_left
  ·rw [BP_false H2]
   apply x_v rfl rfl trivial
   apply x_v rfl rfl trivial
   apply x_gF rfl rfl
   apply x_gF rfl rfl
   apply x_gF rfl rfl
   apply x_gU rfl rfl
   apply x_gU rfl rfl
   apply x_gU rfl rfl
   apply x_gU rfl rfl
   apply x_gU rfl rfl
   apply x_gU rfl rfl
   apply x_gU rfl rfl
   apply x_gU rfl rfl
   apply x_gU rfl rfl
   apply x_gU rfl rfl
   apply x_gU rfl rfl
   apply x_gF rfl rfl
   apply x_v rfl rfl trivial
   apply x_nil
   refine tW ?_
   exact noB rfl (fun h => H2 (by have := (h.first.given.2 i hil).1; rwa [g0] at this)) hx (by simp)
  rw [BP_true H2]
  apply x_v rfl rfl trivial
  apply x_v rfl rfl trivial
  apply x_gT rfl
  apply x_v rfl rfl trivial
  apply x_gT rfl
  apply x_bool rfl rfl trivial
  intro b3 hb3
  by_cases H3 : 0 < i
  rotate_left
  ·obtain rfl : b3 = false := by
    rw [hb3]
    exact decide_eq_false (by omega)
   apply x_gT rfl
   apply x_v rfl rfl trivial
   apply x_gF rfl rfl
   apply x_gF rfl rfl
   apply x_gF rfl rfl
   apply x_gF rfl rfl
   apply x_gF rfl rfl
   apply x_gF rfl rfl
   apply x_gF rfl rfl
   apply x_gF rfl rfl
   apply x_gF rfl rfl
   apply x_gF rfl rfl
   apply x_gF rfl rfl
   apply x_gT rfl
   apply x_v rfl rfl trivial
   apply x_v rfl rfl trivial
   apply x_nil
   refine tW ?_
   refine ⟨(), tU, rfl, hx, H2, fun e => absurd e H3⟩
  obtain rfl : b3 = true := by
   rw [hb3]
   exact decide_eq_true (by omega)
  obtain ⟨hn1, em⟩ := cAt_at H2
  have hn0 : m.given[i] = ((m.given[i]).toNat : Int) := by have := H2.1; omega
  apply x_gT rfl
  apply x_v rfl rfl trivial
  apply x_gT rfl
  apply x_v rfl rfl trivial
  apply x_gT rfl
  apply x_ldFt rfl rfl rfl
  apply x_gT rfl
  apply x_v rfl rfl trivial
  apply x_gT rfl
  apply x_ldFt rfl rfl rfl
  apply x_gT rfl
  apply x_v rfl rfl trivial
  apply x_gT rfl
  apply x_ia0 rfl rfl rfl (v3.mono RN.mono hx) hil
  intro p c hp hc _
  apply x_gT rfl
  apply x_ldF rfl rfl hp (.one hc)
  clear hp hc
  apply x_gT rfl
  apply x_ia0 (z := (m.given[i]).toNat) rfl rfl (by rw [← hn0]; rfl) (v1.mono RCls.mono hx) hn1
  intro p d hp hd hdl
  obtain ⟨_, _, _, _, rfl, _⟩ := hd
  apply x_gT rfl
  apply x_fa0 [.bool m.classes[(m.given[i]).toNat].thrown] rfl rfl hp rfl
  intro p2 hp2
  apply x_gT rfl
  apply x_ldF rfl rfl hp2 (.one rfl)
  rw [← em]
  cases hth : (cAt m m.given[i]).thrown with
  | false =>
   apply x_gT rfl
   apply x_v rfl rfl trivial
   apply x_gT rfl
   apply x_v rfl rfl trivial
   apply x_v rfl rfl trivial
   apply x_nil
   refine tW ?_
   exact noB rfl (fun h => by have := (h.first.given.2 i hil).2.2 H3; rw [g0, hth] at this; cases this) hx (by simp)
  | true =>
   apply x_gT rfl
   apply x_v rfl rfl trivial
   apply x_gT rfl
   apply x_v rfl rfl trivial
   apply x_v rfl rfl trivial
   apply x_nil
   refine tW ?_
   refine ⟨(), tU, rfl, hx, H2, fun _ => by first | exact hth | rfl⟩
 clear hx
 rintro _ k2 ⟨hx, H2, H3⟩
 refine tV ?_
 refine s_loop (fun k : Nat => [(1, .tptr [vc, vm, I m.entry, I m.need, vg, vw, vr, vs, vf] 0), (3, .int .i64 (i : Int)), (4, .int .i64 (k : Int))]) (fun k h' => Ext h h' ∧ k ≤ i ∧ ∀ j, j < k → m.given.getD j 0 ≠ m.given[i]) (fun k => i - k) 0
  tU ⟨hx, Nat.zero_le _, fun j hj => by omega⟩ ?_
 clear hx
 rintro k k3 ⟨hx, hk, hd⟩
 refine tV ?_
 refine oI (k < i) (fun H4 => ?_) (fun H4 => ?_)
 rotate_left
 ·refine tW ?_
  rw [w64 (n := (i : Int) + 1) (by omega) (by omega)]
  refine ⟨i + 1, by simp only; omega, tU, rfl, hx, by omega, fun j hj => ?_⟩
  by_cases e : j = i
  rotate_left
  ·exact ht j (by omega)
  subst e
  refine ⟨by rw [g0]; exact H2, ?_, fun h => by rw [g0]; exact H3 h⟩
  rw [g0]
  intro hm
  obtain ⟨q, hq, e⟩ := List.mem_iff_getElem.1 hm
  rw [List.length_take] at hq
  refine hd q (by omega) ?_
  rw [getD_at (by omega), ← e, List.getElem_take]
 have g1 := getD_at (l := m.given) (i := k) (a := (0 : Int)) (by omega)
 refine tV ?_
 apply o_iaS rfl rfl rfl (v3.mono RN.mono hx) (show k < _ by omega)
 intro p c hp hc _
 apply o_ldG rfl rfl hp (.one hc) (fun _ => .refl)
 refine tV ?_
 apply o_iaS rfl rfl rfl (v3.mono RN.mono hx) hil
 intro p2 c2 hp2 hc2 _
 apply o_ldG rfl rfl hp2 (.one hc2) (fun _ => .refl)
 refine oI (m.given[k] = m.given[i]) (fun H5 => ?_) (fun H5 => ?_)
 ·refine tW ?_
  exact noB rfl (fun h => by have := (h.first.given.2 i hil).2.1; rw [g0] at this; exact this (H5 ▸ List.mem_take_iff_getElem.2 ⟨k, by omega, rfl⟩)) hx (by simp)
 refine tW ?_
 rw [w64 (n := (k : Int) + 1) (by omega) (by omega)]
 refine ⟨k + 1, by simp only; omega, tU, rfl, hx, by omega, fun j hj => ?_⟩
 by_cases e : j = k
 ·subst e
  rw [g1]
  exact H5
 ·exact hd j (by omega)
end Go.Proofs
end
section
open Go Go.Abs Go.Proofs.SlimCode Go.Img
namespace Go.Proofs
def smw (w : List Int) : Image := { small with words := w }
theorem smw_cl {w : List Int} : (smw w).classes.length = 11 := by simp [smw, small]
theorem smw_at {w : List Int} {i : Nat} (hi : i < (smw w).classes.length) : (smw w).classes[i] = smallC i := by
 simp [smw, small]
theorem smw_T {w : List Int} {n : Int} (h0 : 0 ≤ n) (h1 : n < 11) : IsT (smw w) n := ⟨h0, by rw [smw_cl]; omega⟩
theorem smw_c {w : List Int} {n : Int} (h0 : 0 ≤ n) (h1 : n < 11) : cAt (smw w) n = smallC n.toNat := by
 obtain ⟨hk, e⟩ := cAt_at (smw_T (w := w) h0 h1)
 rw [e, smw_at]
theorem smw_gl {w : List Int} : (smw w).given.length = 10 := by simp [smw, small]
theorem smw_g {w : List Int} {i : Nat} (hi : i < (smw w).given.length) : (smw w).given[i] = (i : Int) := by simp [smw, small]
theorem smw_code {w : List Int} : HasC (smw w) 0 := ⟨⟨by decide, (by decide : (0 : Int) < 1)⟩, (by decide : 0 < 1)⟩
theorem smw_given {w : List Int} : GivenP (smw w) := by
 refine ⟨smw_gl, fun i hi => ?_⟩
 have h1 := smw_gl (w := w)
 have g := getD_at (a := (0 : Int)) hi
 rw [smw_g hi] at g
 refine ⟨by rw [g]; exact smw_T (by omega) (by omega), fun hm => ?_, fun h0 => ?_⟩
 ·rw [g] at hm
  obtain ⟨j, hj, e⟩ := List.mem_iff_getElem.1 hm
  rw [List.length_take] at hj
  rw [List.getElem_take, smw_g (by omega)] at e
  omega
 ·rw [g, smw_c (by omega) (by omega)]
  unfold smallC
  simp only [Int.toNat_natCast]
  rw [decide_eq_true h0, decide_eq_true (show i < 10 by omega)]
  rfl
theorem smw_first {w : List Int} : FirstP (smw w) := by
 refine ⟨⟨⟨by rw [smw_cl]; omega, by rw [smw_cl]; omega⟩, (by decide : 1 ≤ 400), (by decide : 2 ≤ 200), rfl⟩, smw_given, fun i hi => ?_, ⟨smw_code, rfl, rfl⟩, .inl rfl⟩
 rw [smw_at hi]
 exact climbs_end
theorem smw_kinds {w : List Int} : ∀ i, (hi : i < (smw w).classes.length) → KindP (smw w) i (smw w).classes[i] := by
 intro i hi
 have h1 := smw_cl (w := w)
 rw [smw_at hi]
 refine ⟨.inl rfl, by simp [smallC], ⟨fun s hs => ?_, fun j hj => ?_, by simp [smallC]⟩, ⟨by simp [smallC], fun s hs => ?_⟩, ⟨fun j hj => ?_, fun s hs => ?_⟩, ?_⟩
 ·obtain rfl : s = (i : Int) := by simpa [smallC] using hs
  exact smw_T (by omega) (by omega)
 ·simp [smallC] at hj
 ·simp [smallC] at hs
 ·simp [smallC] at hj
 ·simp [smallC] at hs
 ·unfold smallC ArrP ElemP
  simp only
  by_cases h : i = 10
  ·simp only [if_pos h]
   exact ⟨by omega, .inl ⟨trivial, smw_T (by omega) (by omega)⟩, .inr rfl⟩
  ·simp only [if_neg h]
   exact ⟨by omega, .inr ⟨by omega, trivial⟩, .inl trivial⟩
theorem smw_meths {w : List Int} : ∀ x ∈ (smw w).methods, MethP (smw w) x := by
 intro x hx
 obtain rfl : x = ⟨0, 0, 0, false, [(46, 0, 0, 0)], []⟩ := by simpa [smw, small] using hx
 refine ⟨by decide, by decide, by decide, fun _ => ⟨by decide, by decide, ?_⟩, fun t ht => (by cases ht), fun i hi => ?_⟩
 ·exact .inr (.inl rfl)
 ·obtain rfl : i = (46, 0, 0, 0) := by simpa using hi
  refine ⟨by decide, ?_, ?_, ?_, ?_, ?_, ?_, ?_, ?_, ?_, ?_, ?_, ?_⟩ <;> intro h <;> simp only at h <;> omega
theorem smw_parse (x : Int) : parse [0, 0, 10, 1, x] = some [0, 2] := by
 have o0 : Ob [0, 0, 10, 1, x] 0 := ⟨by simp, by unfold MayW; simp, by simp⟩
 have o2 : Ob [0, 0, 10, 1, x] 2 := ⟨by simp, by unfold MayW; simp, by simp⟩
 unfold parse
 rw [if_pos (by simp), scan_ob (by simp) o0]
 show (scan [0, 0, 10, 1, x] 2).map _ = _
 rw [scan_ob (by simp) o2]
 show ((scan [0, 0, 10, 1, x] 5).map _).map _ = _
 rw [scan_done (by simp)]
 rfl
theorem smw_rel (x : Int) : relOf (smw [0, 0, 10, 1, x]) [0, 2] = [4] := by
 have c0 : obC (smw [0, 0, 10, 1, x]) 0 = smallC 0 := smw_c (n := 0) (by omega) (by omega)
 have c2 : obC (smw [0, 0, 10, 1, x]) 2 = smallC 10 := smw_c (n := 10) (by omega) (by omega)
 simp only [relOf, List.flatMap_cons, List.flatMap_nil, refsAt, refsTo, c0, c2]
 rfl
theorem valid_small : ValidP small := by
 have e : small = smw [0, 0, 10, 1, 1] := rfl
 rw [e]
 refine ⟨smw_first, smw_kinds, smw_meths, [0, 2], smw_parse 1, ⟨fun a ha => ?_, fun i hi hr => ?_, smw_rel 1, fun r hr => ?_⟩⟩
 ·rcases List.mem_cons.1 ha with rfl | ha
  ·exact ⟨smw_T (n := 0) (by omega) (by omega), fun _ => by rw [show obC (smw [0, 0, 10, 1, 1]) 0 = smallC 0 from smw_c (n := 0) (by omega) (by omega)]; rfl⟩
  ·obtain rfl := List.mem_singleton.1 ha
   refine ⟨smw_T (n := 10) (by omega) (by omega), fun h => ?_⟩
   rw [show obC (smw [0, 0, 10, 1, 1]) 2 = smallC 10 from smw_c (n := 10) (by omega) (by omega)] at h
   exact absurd h (by decide)
 ·have hi2 : i < 2 := hi
  have : i = 0 ∨ i = 1 := by omega
  rcases this with rfl | rfl
  ·cases hr
  ·exact .inr ⟨by decide, by decide⟩
 ·rw [smw_rel] at hr
  obtain rfl := List.mem_singleton.1 hr
  exact .inr ⟨by decide, by decide⟩
theorem bad_small : ¬ ValidP (smw [0, 0, 10, 1, 2]) := by
 intro h
 obtain ⟨l, e, H⟩ := h.heap
 rw [show (smw [0, 0, 10, 1, 2]).words = [0, 0, 10, 1, 2] from rfl, smw_parse] at e
 cases e
 have := H.refs 4 (by rw [smw_rel]; simp)
 rcases this with h | ⟨_, h⟩
 ·exact absurd h (by decide)
 ·exact absurd h (by decide)
theorem bad_none : ¬ ValidP noImage := fun h => absurd h.first.given.1 (by decide)
end Go.Proofs
end
section
open Go Go.Abs Go.Proofs.SlimCode Go.Img
set_option maxRecDepth 100000
namespace Go.Proofs
def i32b : AV → Bool
 | .int .i32 _ => true
 | _ => false
theorem sl_poke {α : Type} {R R' : Heap → List AV → α → Prop} {s : Nat} {k : Heap} {o : Nat} {W W' : List AV} {v : AV} {l : List α} (H : Sl R s k v l) (ho : k o = some (.cells W)) (hlen : W'.length = W.length)
  (hR : ∀ c a, R k c a → R' (upd k o (some (.cells W'))) c a) (hne : ∀ off cs, sliceL W off (l.length * s) = some cs → Chunks (R k) s cs l → l = []) : Sl R' s (upd k o (some (.cells W'))) v l := by
 obtain ⟨cs, c1, c2⟩ := H
 refine ⟨cs, ?_, c2.imp hR⟩
 have hl := c2.len
 have hz : ∀ off, sliceL W off (l.length * s) = some cs → l = [] := fun off e => hne off cs e c2
 generalize hn : l.length = n at *
 cases c1 with
 | nil => exact .nil
 | tsl _ _ h => exact .tsl _ _ h
 | sl id off _ os _ hi hc =>
  by_cases e : id = o
  ·subst e
   rw [ho] at hi
   cases hi
   have h0 := hz off hc
   subst h0
   obtain rfl : n = 0 := by simpa using hn.symm
   refine .sl id off 0 W' _ upd_same ?_
   unfold sliceL at hc ⊢
   simp only [Nat.zero_mul, Nat.add_zero, List.take_zero] at hc ⊢
   rw [hlen]
   exact hc
  ·exact .sl id off _ os _ (by rw [upd_ne e]; exact hi) hc
theorem no_i32 {α : Type} {R : Heap → List AV → α → Prop} {s : Nat} {k : Heap} {W : List AV} {l : List α} (hW : W.all i32b = true) (hh : ∀ c a, R k c a → ∃ x t, c = x :: t ∧ i32b x = false) : ∀ off cs, sliceL W off (l.length * s) = some cs → Chunks (R k) s cs l → l = [] := by
 intro off cs hc hch
 cases hch with
 | nil => rfl
 | @cons c cs a l h1 h2 h3 =>
  exfalso
  obtain ⟨x, t, rfl, hx⟩ := hh c a (by assumption)
  unfold sliceL at hc
  split at hc
  ·have := Option.some.inj hc
   have hm : x ∈ W := by
    have h4 : x ∈ (W.drop off).take ((a :: l).length * s) := by rw [this]; simp
    exact List.mem_of_mem_drop (List.mem_of_mem_take h4)
   rw [List.all_eq_true.1 hW x hm] at hx
   cases hx
  ·cases hc
def W5 (x : Int) : List AV := [.int .i32 0, .int .i32 0, .int .i32 10, .int .i32 1, .int .i32 x]
theorem img_poke {k : Heap} {c : List AV} {o : Nat} (H : RImg k c small) (hc : c[5]? = some (.sl o 0 5 1)) (ho : k o = some (.cells (W5 1))) : RImg (upd k o (some (.cells (W5 2)))) c (smw [0, 0, 10, 1, 2]) := by
 obtain ⟨vc, vm, vg, vw, vr, vs, vf, rfl, h1, h2, h3, h4, h5, h6, h7⟩ := H
 obtain rfl : vw = .sl o 0 5 1 := Option.some.inj hc
 have hW : (W5 1).all i32b = true := rfl
 have i64 : ∀ (c : List AV) (a : Int), RN .i64 k c a → ∃ x t, c = x :: t ∧ i32b x = false := fun c a h => ⟨_, _, (show c = [.int .i64 a] from h), rfl⟩
 have bl : ∀ (c : List AV) (a : Bool), RB k c a → ∃ x t, c = x :: t ∧ i32b x = false := fun c a h => ⟨_, _, (show c = [.bool a] from h), rfl⟩
 have pr : ∀ (c : List AV) (a : Int × Int), RPair k c a → ∃ x t, c = x :: t ∧ i32b x = false := fun c a h => ⟨_, _, (show c = [I a.1, I a.2] from h), rfl⟩
 have fr : ∀ (c : List AV) (a : Four), RFour k c a → ∃ x t, c = x :: t ∧ i32b x = false := fun c a h => ⟨_, _, (show c = [I a.1, I a.2.1, I a.2.2.1, I a.2.2.2] from h), rfl⟩
 refine ⟨vc, vm, vg, _, vr, vs, vf, rfl, sl_poke h1 ho rfl (fun c a hca => ?_) (no_i32 hW fun c a hca => ?_), sl_poke h2 ho rfl (fun c a hca => ?_) (no_i32 hW fun c a hca => ?_), sl_poke h3 ho rfl (fun _ _ h => h) (no_i32 hW i64), ?_, sl_poke h5 ho rfl (fun _ _ h => h) (no_i32 hW i64), sl_poke h6 ho rfl (fun _ _ h => h) (fun off cs hs hch => ?_), sl_poke h7 ho rfl (fun _ _ h => h) (no_i32 hW bl)⟩
 ·obtain ⟨w1, w2, w3, w4, e, u1, u2, u3, u4⟩ := hca
  exact ⟨w1, w2, w3, w4, e, sl_poke u1 ho rfl (fun _ _ h => h) (no_i32 hW bl), sl_poke u2 ho rfl (fun _ _ h => h) (no_i32 hW i64), sl_poke u3 ho rfl (fun _ _ h => h) (no_i32 hW i64), sl_poke u4 ho rfl (fun _ _ h => h) (no_i32 hW pr)⟩
 ·obtain ⟨w1, w2, w3, w4, e, _⟩ := hca
  exact ⟨_, _, e, rfl⟩
 ·obtain ⟨w1, w2, e, u1, u2⟩ := hca
  exact ⟨w1, w2, e, sl_poke u1 ho rfl (fun _ _ h => h) (no_i32 hW fr), sl_poke u2 ho rfl (fun _ _ h => h) (no_i32 hW fr)⟩
 ·obtain ⟨w1, w2, e, _⟩ := hca
  exact ⟨_, _, e, rfl⟩
 ·exact ⟨_, .sl o 0 5 _ _ upd_same rfl, .cons (c := [_]) rfl rfl (.cons (c := [_]) rfl rfl (.cons (c := [_]) rfl rfl (.cons (c := [_]) rfl rfl (.one rfl rfl))))⟩
 ·exfalso
  have e : cs = [.int .i32 5, .int .i32 3] := by
   change Chunks (RN .i32 k) 1 cs [5, 3] at hch
   cases hch with
   | @cons c1 cs1 _ _ _ a1 H1 =>
    cases H1 with
    | @cons c2 cs2 _ _ _ a2 H2 =>
     cases H2
     rw [show c1 = [.int .i32 5] from a1, show c2 = [.int .i32 3] from a2]
     rfl
  subst e
  have hs : sliceL (W5 1) off 2 = some [.int .i32 5, .int .i32 3] := hs
  unfold sliceL at hs
  split at hs
  ·rename_i hle
   have hle : off + 2 ≤ 5 := hle
   have : off = 0 ∨ off = 1 ∨ off = 2 ∨ off = 3 := by omega
   rcases this with rfl | rfl | rfl | rfl <;> simp [W5] at hs
  ·cases hs
theorem smw2_WF : (smw [0, 0, 10, 1, 2]).WF := { small_WF with words := ⟨by simp [smw, Len], fun n hn => by
 unfold I32
 simp only [smw, List.mem_cons, List.not_mem_nil, or_false] at hn
 omega⟩ }
theorem small_fb (w : List Int) : ∀ x ∈ (smw w).classes, x.faces.length ≤ 1048577 := by
 intro x hx
 obtain ⟨i, hi, rfl⟩ := List.mem_map.1 hx
 simp [smallC]
theorem p74 : PureC Tryz.prog ann 74 [] (.bool true) := by
 refine s_pure_of Tryz.func74 (frc (by with_unfolding_all rfl)) rfl rfl rfl ?_
 refine tV ?_
 (refine tG ?_; (with_reducible apply o_call); exact rfl; exact rfl; exact rfl; exact p14)
 refine tW ?_
 (first | apply sret_ret | apply sret_norm); exact res_tmp (vs := [_]) rfl rfl
end Go.Proofs
end
section
open Go Go.Abs Go.Proofs.SlimCode Go.Img
set_option maxRecDepth 100000
namespace Go.Proofs
theorem p24 : PureC Tryz.prog ann 24 [] (.bool true) := by
 refine s_pure_of Tryz.func24 (frc (by with_unfolding_all rfl)) rfl rfl rfl ?_
 refine tV ?_
 apply o_hcall rfl rfl rfl rfl (p27w (h := hp0))
 rintro _ k1 ⟨_, c1, o1, rfl, hM1, _⟩
 have hone1 := hM1.one
 have hcl1 : c1.length = 9 := by obtain ⟨_, _, _, _, _, _, _, rfl, _⟩ := hM1; rfl
 refine tW ?_
 apply o_alc rfl
 intro b1 hb1
 apply o_st (v := .agg c1) rfl rfl rfl rfl hcl1 hone1 upd_same (splice_full (show c1.length = _ by rw [hcl1]; rfl))
 rw [upd_upd]
 have e1 : upd k1 b1 (some (.cells c1)) b1 = some (.cells c1) := upd_same
 replace hM1 := RImg.mono _ _ _ _ (.upd (o := .cells c1) hb1) hM1
 show SOps _ _ _ _ _ _ _ _ [b1] (upd k1 b1 (some (.cells c1))) _
 generalize upd k1 b1 (some (.cells c1)) = k2 at e1 hM1 ⊢
 clear hb1
 refine tV ?_
 apply o_hcall rfl rfl rfl rfl p27w
 rintro _ k3 ⟨hx3, c2, o2, rfl, hM2, hc2, ho2, hno⟩
 have hone2 := hM2.one
 have hcl2 : c2.length = 9 := by obtain ⟨_, _, _, _, _, _, _, rfl, _⟩ := hM2; rfl
 refine tW ?_
 apply o_alc rfl
 intro b2 hb2
 apply o_st (v := .agg c2) rfl rfl rfl rfl hcl2 hone2 upd_same (splice_full (show c2.length = _ by rw [hcl2]; rfl))
 rw [upd_upd]
 have e2 : upd k3 b2 (some (.cells c2)) b2 = some (.cells c2) := upd_same
 have n2 : b2 ≠ o2 := fun e => by rw [e, ho2] at hb2; cases hb2
 replace hx3 := hx3.trans (.upd (o := .cells c2) hb2)
 replace hM2 := RImg.mono _ _ _ _ (.upd (o := .cells c2) hb2) hM2
 replace ho2 := Ext.upd (o := .cells c2) hb2 _ _ ho2
 show SOps _ _ _ _ _ _ _ _ [b2, b1] (upd k3 b2 (some (.cells c2))) _
 generalize upd k3 b2 (some (.cells c2)) = k4 at e2 hM2 ho2 hx3 ⊢
 clear hb2
 refine tV ?_
 apply o_ldh rfl rfl e2 (fun h => by omega) hc2
 apply o_val (v := .ptr o2 4) rfl rfl ⟨rfl, by decide, by decide⟩
 apply o_st (v := .int .i32 2) (cs' := W5 2) rfl rfl rfl rfl rfl rfl ho2 rfl
 have hx5 : Ext k2 (upd k4 o2 (some (.cells (W5 2)))) := fun id o e => by
  rw [upd_ne (fun h => by rw [h, hno] at e; cases e)]
  exact hx3 _ _ e
 have hI2 := img_poke hM2 hc2 ho2
 replace e2 : upd k4 o2 (some (.cells (W5 2))) b2 = some (.cells c2) := (upd_ne n2).trans e2
 replace e1 := hx5 _ _ e1
 replace hM1 := RImg.mono _ _ _ _ hx5 hM1
 generalize upd k4 o2 (some (.cells (W5 2))) = k5 at e1 e2 hI2 hM1 ⊢
 clear hx5 hx3 hno ho2 hM2
 refine tV ?_
 apply o_call rfl rfl rfl p74
 refine tW ?_
 apply o_ldhn rfl rfl e1 (fun h => by omega) (sliceL_all hcl1)
 refine tV ?_
 apply o_hcall rfl rfl rfl rfl (p25 hM1 small_WF (small_fb [0, 0, 10, 1, 1])).go
 rintro _ k6 ⟨rfl, hy⟩
 rw [BP_true valid_small]
 refine tW ?_
 apply o_ldhn rfl rfl (hy _ _ e2) (fun h => by omega) (sliceL_all hcl2)
 refine tV ?_
 apply o_hcall rfl rfl rfl rfl (p25 (RImg.mono _ _ _ _ hy hI2) smw2_WF (small_fb _)).go
 rintro _ k7 ⟨rfl, hz⟩
 rw [BP_false bad_small]
 refine tW ?_
 apply o_hcall rfl rfl rfl rfl (p25 (noImage_R) noImage_WF (fun x hx => by cases hx)).go
 rintro _ k8 ⟨rfl, hz⟩
 rw [BP_false bad_none]
 refine tW ?_
 apply sret_ret
 exact res_tmp (vs := [_]) rfl rfl
end Go.Proofs
end
