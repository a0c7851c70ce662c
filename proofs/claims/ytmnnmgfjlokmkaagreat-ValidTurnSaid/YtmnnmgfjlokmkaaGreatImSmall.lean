import Derived.Test.YtmnnmgfjlokmkaaGreatAbsTac
import Derived.Test.YtmnnmgfjlokmkaaGreatImEqM
import Derived.Test.YtmnnmgfjlokmkaaGreatAbsLs
open Go Go.Abs Go.Proofs.SlimCode Go.Img
set_option maxRecDepth 100000
namespace Go.Proofs
def smallC (i : Nat) : Cls := ⟨[67, UInt8.ofNat (97 + i)], -1, -1, if i = 10 then 2 else 0, if i = 10 then 0 else -1, decide (0 < i) && decide (i < 10), [], [(i : Int)], [], []⟩
def small : Image := ⟨(List.range 11).map smallC, [⟨0, 0, 0, false, [(46, 0, 0, 0)], []⟩], 0, -1, (List.range 10).map (fun i : Nat => (i : Int)), [0, 0, 10, 1, 1], [4], [5, 3], [false, true]⟩
theorem i64_of {n : Int} (h1 : -9223372036854775808 ≤ n) (h2 : n ≤ 9223372036854775807) : I64 n := ⟨h1, h2⟩
theorem smallC_WF {i : Nat} (hi : i < 11) : (smallC i).WF := by
 have l : ∀ {α : Type}, Len ([] : List α) := Nat.zero_le _
 have m1 : I64 (-1) := i64_of (by decide) (by decide)
 refine ⟨by simp [smallC], m1, m1, ?_, ?_, l, ⟨by simp [smallC, Len], fun n h => ?_⟩, ⟨l, fun _ h => nomatch h⟩, ⟨l, fun _ h => nomatch h⟩⟩
 ·unfold smallC I64
  simp only
  split <;> omega
 ·unfold smallC I64
  simp only
  split <;> omega
 ·obtain rfl := List.mem_singleton.1 h
  exact i64_of (by omega) (by omega)
theorem small_WF : small.WF := by
 have l : ∀ {α : Type}, Len ([] : List α) := Nat.zero_le _
 refine ⟨⟨by simp [small, Len], fun c h => ?_⟩, ⟨by simp [small, Len], fun c h => ?_⟩, i64_of (by decide) (by decide), i64_of (by decide) (by decide), ⟨by simp [small, Len], fun n h => ?_⟩, ⟨by simp [small, Len], fun n h => ?_⟩, ⟨by simp [small, Len], fun n h => ?_⟩, ⟨by simp [small, Len], fun n h => ?_⟩, by simp [small, Len]⟩
 ·obtain ⟨i, hi, rfl⟩ := List.mem_map.1 h
  exact smallC_WF (List.mem_range.1 hi)
 ·obtain rfl := List.mem_singleton.1 h
  refine ⟨i64_of (by decide) (by decide), i64_of (by decide) (by decide), i64_of (by decide) (by decide), ⟨by simp [Len], fun p hp => ?_⟩, ⟨l, fun _ h => nomatch h⟩⟩
  obtain rfl := List.mem_singleton.1 hp
  exact ⟨i64_of (by decide) (by decide), i64_of (by decide) (by decide), i64_of (by decide) (by decide), i64_of (by decide) (by decide)⟩
 ·obtain ⟨i, hi, rfl⟩ := List.mem_map.1 h
  have := List.mem_range.1 hi
  exact i64_of (by omega) (by omega)
 ·have : n ∈ [(0 : Int), 0, 10, 1, 1] := h
  unfold I32
  simp only [List.mem_cons, List.not_mem_nil, or_false] at this
  omega
 ·have : n ∈ [(4 : Int)] := h
  obtain rfl := List.mem_singleton.1 this
  exact i64_of (by decide) (by decide)
 ·have : n ∈ [(5 : Int), 3] := h
  unfold I32
  simp only [List.mem_cons, List.not_mem_nil, or_false] at this
  omega
theorem range_map_succ {α : Type} {f : Nat → α} {k : Nat} : (List.range (k + 1)).map f = (List.range k).map f ++ [f k] := by rw [List.range_succ, List.map_append]; rfl
structure SmO (g G : Heap) (vc vg : AV) (cs : List AV) (i : Nat) : Prop where
 c : OSl g 10 vc cs i G
 d : OSl g 1 vg ((List.range (min i 10)).map fun k : Nat => I k) (min i 10) G
 k : Chunks (RCls g) 10 cs ((List.range i).map smallC)
 j : ∀ x ∈ slIds vc, x ∉ slIds vg
theorem SmO.up {g G G' : Heap} {vc vg : AV} {cs : List AV} {i : Nat} (H : SmO g G vc vg cs i) (hx : Ext G G') : SmO g G' vc vg cs i := ⟨H.c.upE hx, H.d.upE hx, H.k, H.j⟩
theorem OSl.grow {g G : Heap} {s n q : Nat} {v : AV} {cs : List AV} {o : AObj} (H : OSl g s v cs n G) (hq : G q = none) : OSl (upd g q (some o)) s v cs n (upd G q (some o)) := by
 refine ⟨fun id x e => ?_, H.own.imp id fun ⟨i, h1, h2, h3, h4⟩ => ?_⟩
 ·unfold upd at e ⊢
  split
  ·rename_i he; rw [if_pos he] at e; exact e
  ·rename_i he; rw [if_neg he] at e; exact H.ext _ _ e
 ·have : i ≠ q := fun e => by rw [e, hq] at h3; cases h3
  exact ⟨i, h1, by rw [upd_ne this]; exact h2, by rw [upd_ne this]; exact h3, h4⟩
theorem SmO.add {g G : Heap} {vc vg : AV} {cs : List AV} {i q : Nat} {o : AObj} (H : SmO g G vc vg cs i) (hq : G q = none) : SmO (upd g q (some o)) (upd G q (some o)) vc vg cs i := by
 have hg : g q = none := by
  cases e : g q with
  | none => rfl
  | some x => rw [H.c.ext _ _ e] at hq; cases hq
 exact ⟨OSl.grow H.c hq, OSl.grow H.d hq, H.k.imp fun c a => RCls.mono _ _ c a (.upd hg), H.j⟩
theorem OSl.beside {g hb h1 : Heap} {s n : Nat} {v vx : AV} {cs : List AV} (H : OSl g s v cs n hb) (hg : Ext g (minus hb vx)) (hx : Ext (minus hb vx) h1) (hj : ∀ i ∈ slIds v, i ∉ slIds vx) : OSl g s v cs n h1 := by
 refine ⟨hg.trans hx, H.own.imp id fun ⟨i, h1, h2, h3, h4⟩ => ⟨i, h1, h2, hx _ _ ?_, h4⟩⟩
 subst h1
 have := hj i (.head _)
 cases vx with
 | sl k _ _ _ => exact (upd_ne fun e => this (by rw [e]; exact .head _)).trans h3
 | _ => exact h3
theorem OSl.fresh {hb h1 : Heap} {s n : Nat} {v vx w : AV} {cs cs' : List AV} {s' n' : Nat} {g : Heap} (O : OSl (minus hb vx) s v cs n h1) (H : OSl g s' w cs' n' hb) (hj : ∀ i ∈ slIds w, i ∉ slIds vx) : ∀ i ∈ slIds w, i ∉ slIds v := by
 intro i hi hv
 rcases O.own with ⟨rfl, _⟩ | ⟨j, rfl, h1, _⟩
 ·cases hv
 obtain rfl := List.mem_singleton.1 hv
 rcases H.own with ⟨rfl, _⟩ | ⟨k, rfl, _, h3, _⟩
 ·cases hi
 obtain rfl := List.mem_singleton.1 hi
 have := hj _ (.head _)
 cases vx with
 | sl k _ _ _ =>
  have e := (upd_ne fun e => this (by rw [e]; exact .head _)).symm.trans (h1 : upd hb k none i = none)
  rw [h3] at e
  cases e
 | _ => exact absurd ((show hb i = none from h1).symm.trans h3) (by simp)
abbrev W5c : List AV := [.int .i32 0, .int .i32 0, .int .i32 10, .int .i32 1, .int .i32 1]
abbrev SmL (b0 b1 o8 : Nat) (vc vm vg vr vs vf : AV) (J : List (Nat × AObj)) : List (Nat × AObj) := (b1, .cells [vc, vm, I 0, I (-1), vg, .sl o8 0 5 1, vr, vs, vf]) :: (o8, .cells W5c) :: (b0, .cells [.nil .sl, .nil .sl, I 0, I 0, .nil .sl, .nil .sl, .nil .sl, .nil .sl, .nil .sl]) :: J
abbrev clsC (i q : Nat) (a e : Int) : List AV := [.str [67, UInt8.ofNat (97 + i)], I (-1), I (-1), .nil .sl, .sl q 0 1 1, .nil .sl, .nil .sl, I a, I e, .bool (decide (0 < i) && decide (i < 10))]
set_option maxHeartbeats 1000000 in
theorem p27s {h : Heap} : HCallC Tryz.prog ann 27 [] h fun v h' => ∃ G o8 vc vm vg vr vs vf, v = .agg [vc, vm, I 0, I (-1), vg, .sl o8 0 5 1, vr, vs, vf] ∧ Ext h G ∧ G o8 = none ∧ h' = upd G o8 (some (.cells W5c)) ∧ RImg G [vc, vm, I 0, I (-1), vg, .nil .sl, vr, vs, vf] { small with words := [] } := by
 refine s_call_R rfl Tryz.func27 (frc (by with_unfolding_all rfl)) rfl ?_
 refine tS ?_
 show SOps _ _ _ _ _ _ _ _ [] (hset h []) _
 apply o_alcL dis_nil rfl
 intro b0 hD
 refine tW ?_
 apply o_hbsG (cs := [I 46, I 0, I 0, I 0]) hD rfl rfl rfl
 intro o5 hn hD
 have x5 : Ext h (upd h o5 (some (.cells [I 46, I 0, I 0, I 0]))) := .upd hn
 have e5 : upd h o5 (some (.cells [I 46, I 0, I 0, I 0])) o5 = some (.cells [I 46, I 0, I 0, I 0]) := upd_same
 generalize upd h o5 (some (.cells [I 46, I 0, I 0, I 0])) = g5 at x5 e5 hD ⊢
 refine tW ?_
 apply o_hbsG (cs := [I 0, I 0, I 0, .bool false, .sl o5 0 1 4, .nil .sl]) hD rfl rfl rfl
 intro o7 hn hD
 have x7 : Ext g5 (upd g5 o7 (some (.cells [I 0, I 0, I 0, .bool false, .sl o5 0 1 4, .nil .sl]))) := .upd hn
 have e7 : upd g5 o7 (some (.cells [I 0, I 0, I 0, .bool false, .sl o5 0 1 4, .nil .sl])) o7 = some (.cells [I 0, I 0, I 0, .bool false, .sl o5 0 1 4, .nil .sl]) := upd_same
 generalize upd g5 o7 (some (.cells [I 0, I 0, I 0, .bool false, .sl o5 0 1 4, .nil .sl])) = g7 at x7 e7 hD ⊢
 have hm : Sl RMth 6 g7 (.sl o7 0 1 6) [⟨0, 0, 0, false, [(46, 0, 0, 0)], []⟩] := ⟨_, .sl o7 0 1 _ _ e7 rfl, .one rfl ⟨_, _, rfl, ⟨_, .sl o5 0 1 _ _ (x7 _ _ e5) rfl, .one rfl rfl⟩, .nil⟩⟩
 clear hn e5 e7
 apply o_hbsL (cs := W5c) hD rfl rfl rfl
 intro o8 hD
 apply o_hbsG (cs := [I 4]) hD rfl rfl rfl
 intro o9 hn hD
 have x9 : Ext g7 (upd g7 o9 (some (.cells [I 4]))) := .upd hn
 have hr : Sl (RN .i64) 1 (upd g7 o9 (some (.cells [I 4]))) (.sl o9 0 1 1) [4] := ⟨_, .sl o9 0 1 _ _ upd_same rfl, .one rfl rfl⟩
 generalize upd g7 o9 (some (.cells [I 4])) = g9 at x9 hr hD ⊢
 apply o_hbsG (cs := [.int .i32 5, .int .i32 3]) hD rfl rfl rfl
 intro o10 hn hD
 have x10 : Ext g9 (upd g9 o10 (some (.cells [.int .i32 5, .int .i32 3]))) := .upd hn
 have hs : Sl (RN .i32) 1 (upd g9 o10 (some (.cells [.int .i32 5, .int .i32 3]))) (.sl o10 0 2 1) [5, 3] := ⟨_, .sl o10 0 2 _ _ upd_same rfl, .cons (c := [_]) rfl rfl (.one rfl rfl)⟩
 generalize upd g9 o10 (some (.cells [.int .i32 5, .int .i32 3])) = g10 at x10 hs hD ⊢
 apply o_hbsG (cs := [.bool false, .bool true]) hD rfl rfl rfl
 intro o11 hn hD
 have x11 : Ext g10 (upd g10 o11 (some (.cells [.bool false, .bool true]))) := .upd hn
 have hf : Sl RB 1 (upd g10 o11 (some (.cells [.bool false, .bool true]))) (.sl o11 0 2 1) [false, true] := ⟨_, .sl o11 0 2 _ _ upd_same rfl, .cons (c := [_]) rfl rfl (.one rfl rfl)⟩
 generalize upd g10 o11 (some (.cells [.bool false, .bool true])) = g0 at x11 hf hD ⊢
 replace hs := hs.mono RN.mono x11
 replace hr := hr.mono RN.mono (x10.trans x11)
 replace hm := hm.mono RMth.mono (x9.trans (x10.trans x11))
 have hx : Ext h g0 := x5.trans (x7.trans (x9.trans (x10.trans x11)))
 clear x5 x7 x9 x10 x11 hn
 refine tW ?_
 apply o_alcL hD rfl
 intro b1 hD
 apply o_stL (v := .agg [.nil .sl, .sl o7 0 1 6, I 0, I (-1), .nil .sl, .sl o8 0 5 1, .sl o9 0 1 1, .sl o10 0 2 1, .sl o11 0 2 1]) (cs' := [.nil .sl, .sl o7 0 1 6, I 0, I (-1), .nil .sl, .sl o8 0 5 1, .sl o9 0 1 1, .sl o10 0 2 1, .sl o11 0 2 1]) 0 hD rfl rfl rfl rfl rfl rfl rfl (splice_full rfl)
 intro hD
 change Dis g0 (SmL b0 b1 o8 (.nil .sl) (.sl o7 0 1 6) (.nil .sl) (.sl o9 0 1 1) (.sl o10 0 2 1) (.sl o11 0 2 1) []) at hD
 generalize AV.sl o7 0 1 6 = vm at hm hD ⊢
 generalize AV.sl o9 0 1 1 = vr at hr hD ⊢
 generalize AV.sl o10 0 2 1 = vs at hs hD ⊢
 generalize AV.sl o11 0 2 1 = vf at hf hD ⊢
 show SOps _ _ _ _ _ _ _ _ [b1, b0] (hset g0 (SmL b0 b1 o8 (.nil .sl) vm (.nil .sl) vr vs vf [])) _
 refine tA ?_
 refine s_loopB (fun s : Nat × List (Nat × AObj) × AV × AV × List AV => [(0, .ptr b0 0), (1, .ptr b1 0), (2, I s.1)]) (fun s => s.2.1.map Prod.fst ++ [b1, b0]) (fun s h' => s.1 ≤ 11 ∧ ∃ g G, h' = hset G (SmL b0 b1 o8 s.2.2.1 vm s.2.2.2.1 vr vs vf s.2.1) ∧ Dis G (SmL b0 b1 o8 s.2.2.1 vm s.2.2.2.1 vr vs vf s.2.1) ∧ Ext g0 g ∧ SmO g G s.2.2.1 s.2.2.2.1 s.2.2.2.2 s.1) (fun s => 11 - s.1) (0, [], .nil .sl, .nil .sl, []) tU rfl ⟨by simp, g0, g0, rfl, hD, .refl, .nil .refl, .nil .refl, .nil, fun _ h => by cases h⟩ ?_
 clear hD
 rintro ⟨i, J, vc, vg, cs⟩ _ ⟨hi, g, G, rfl, hD, hgg, H⟩
 simp only at hi hD H ⊢
 refine tA ?_
 refine oI (i < 11) (fun H1 => ?_) (fun H1 => ?_)
 rotate_left
 ·obtain rfl : i = 11 := by omega
  have hgG := H.c.ext
  have hG := hgg.trans hgG
  have hR : RImg G [vc, vm, I 0, I (-1), vg, .nil .sl, vr, vs, vf] { small with words := [] } := ⟨_, _, _, _, _, _, _, rfl, ⟨_, H.c.view, H.k.imp fun c a => RCls.mono _ _ c a hgG⟩, hm.mono RMth.mono hG, ⟨_, H.d.view, by
   have : ∀ l : List Nat, Chunks (RN .i64 G) 1 (l.map fun k : Nat => I k) (l.map fun k : Nat => (k : Int)) := fun l => by
    induction l with
    | nil => exact .nil
    | cons a l ih => exact .cons (c := [I a]) rfl rfl ih
   exact this (List.range 10)⟩, .nil, hr.mono RN.mono hG, hs.mono RN.mono hG, hf.mono RB.mono hG⟩
  have hone := hR.one
  refine tA ?_
  apply o_ldnL 0 hD rfl rfl rfl rfl rfl
  apply o_stL (v := .agg [vc, vm, I 0, I (-1), vg, .sl o8 0 5 1, vr, vs, vf]) (cs' := [vc, vm, I 0, I (-1), vg, .sl o8 0 5 1, vr, vs, vf]) 2 hD rfl rfl rfl rfl rfl rfl (show _ = true from hone) (splice_full rfl)
  intro hD
  refine tA ?_
  refine hR_ret (vs := [.agg [vc, vm, I 0, I (-1), vg, .sl o8 0 5 1, vr, vs, vf]]) (.cells (m := 9) rfl (by kernel_rfl) (hset_get (k := 2) hD rfl) rfl .nil) rfl ?_ (fun ht => by simp [tupled, AV.tree, AV.trees] at ht)
  refine ⟨G, o8, vc, vm, vg, vr, vs, vf, rfl, hx.trans hG, dis_ids hD _ (.tail _ (.head _)), ?_, hR⟩
  change Dis G ((b1, .cells [vc, vm, I 0, I (-1), vg, .sl o8 0 5 1, vr, vs, vf]) :: (o8, .cells W5c) :: (b0, .cells [vc, vm, I 0, I (-1), vg, .sl o8 0 5 1, vr, vs, vf]) :: J) at hD
  show killL _ (hset G ((b1, .cells [vc, vm, I 0, I (-1), vg, .sl o8 0 5 1, vr, vs, vf]) :: (o8, .cells W5c) :: (b0, .cells [vc, vm, I 0, I (-1), vg, .sl o8 0 5 1, vr, vs, vf]) :: J)) = _
  obtain ⟨p1, p2⟩ := hset_perm (List.Perm.swap _ _ _) hD
  rw [p1]
  have hno := (List.nodup_cons.1 (dis_nodup p2)).1
  funext id
  show (if _ then none else upd _ o8 _ id) = upd G o8 _ id
  by_cases e : id = o8
  ·subst e
   rw [if_neg, upd_same, upd_same]
   intro hc
   exact hno (by simp at hc ⊢; rcases hc with h | h | h <;> simp [h])
  ·rw [upd_ne e, upd_ne e]
   by_cases hc : id ∈ ((b1, AObj.cells [vc, vm, I 0, I (-1), vg, .sl o8 0 5 1, vr, vs, vf]) :: (b0, AObj.cells [vc, vm, I 0, I (-1), vg, .sl o8 0 5 1, vr, vs, vf]) :: J).map Prod.fst
   ·rw [if_pos (by simp at hc ⊢; rcases hc with h | h | h <;> simp [h])]
    exact (dis_ids p2.2 _ hc).symm
   ·rw [if_neg fun h => hc (by simp at h ⊢; rcases h with h | h | h <;> simp [h])]
    exact hset_out hc
 refine tv ?_
 refine tv ?_
 refine tv ?_
 refine tv ?_
 refine tv ?_
 refine tv ?_
 refine tv ?_
 refine s_joinB (σ := Nat × Nat × Heap × Heap) (fun s => [(0, .ptr b0 0), (1, .ptr b1 0), (2, I i), (3, .ptr s.1 0)]) (fun s => s.1 :: (J.map Prod.fst ++ [b1, b0])) (fun s h' => h' = hset s.2.2.2 ((s.1, .cells (clsC i s.2.1 0 (-1))) :: SmL b0 b1 o8 vc vm vg vr vs vf J) ∧ Dis s.2.2.2 ((s.1, .cells (clsC i s.2.1 0 (-1))) :: SmL b0 b1 o8 vc vm vg vr vs vf J) ∧ Ext g0 s.2.2.1 ∧ SmO s.2.2.1 s.2.2.2 vc vg cs i ∧ s.2.2.1 s.2.1 = some (.cells [I i])) ?_ ?_
 ·refine tV ?_
  (refine tG ?_; (with_reducible apply o_addN (a := 97) (b := i)); exact rfl; exact rfl; exact rfl; exact w64 (by omega) (by omega))
  apply o_as rfl rfl trivial (cvb (97 + i))
  apply o_hbsG (cs := ubs [67, UInt8.ofNat (97 + i)]) hD rfl rfl rfl
  intro o20 hn hD
  have hg : Ext G (upd G o20 (some (.cells (ubs [67, UInt8.ofNat (97 + i)])))) := .upd hn
  have e20 : upd G o20 (some (.cells (ubs [67, UInt8.ofNat (97 + i)]))) o20 = some (.cells (ubs [67, UInt8.ofNat (97 + i)])) := upd_same
  replace H := H.up hg
  generalize upd G o20 (some (.cells (ubs [67, UInt8.ofNat (97 + i)]))) = Ga at e20 hD H ⊢
  apply o_b2sV (bs := [67, UInt8.ofNat (97 + i)]) rfl rfl (.sl o20 0 2 _ _ (ext_hsetD hD _ _ e20) rfl) (fun h => by omega)
  refine tV ?_
  apply o_hbsG (cs := [I i]) hD rfl rfl rfl
  intro q hn2 hD
  have hnq : g q = none := by
   cases e : g q with
   | none => rfl
   | some x => rw [H.c.ext _ _ e] at hn2; cases hn2
  replace H := H.add (o := .cells [I i]) hn2
  have hq : upd g q (some (.cells [I i])) q = some (.cells [I i]) := upd_same
  have hgq : Ext g0 (upd g q (some (.cells [I i]))) := hgg.trans (.upd hnq)
  refine tV ?_
  refine oI (0 < i) (fun H2 => ?_) (fun H2 => ?_)
  ·refine tV ?_
   refine oI (i < 10) (fun H3 => ?_) (fun H3 => ?_)
   ·refine tV ?_
    have hb : (decide (0 < i) && decide (i < 10)) = true := by simp; omega
    apply o_as (w := .agg (clsC i q 0 (-1))) rfl rfl trivial (by unfold clsC; rw [hb])
    apply o_alcL hD rfl
    intro b3 hD
    apply o_stL (v := .agg (clsC i q 0 (-1))) (cs' := clsC i q 0 (-1)) 0 hD rfl rfl rfl rfl rfl rfl rfl (splice_full rfl)
    intro hD
    refine tA ?_
    exact ⟨(b3, q, _, _), tU, rfl, rfl, hD, hgq, H, hq⟩
   ·refine tV ?_
    have hb : (decide (0 < i) && decide (i < 10)) = false := by simp; omega
    apply o_as (w := .agg (clsC i q 0 (-1))) rfl rfl trivial (by unfold clsC; rw [hb])
    apply o_alcL hD rfl
    intro b3 hD
    apply o_stL (v := .agg (clsC i q 0 (-1))) (cs' := clsC i q 0 (-1)) 0 hD rfl rfl rfl rfl rfl rfl rfl (splice_full rfl)
    intro hD
    refine tA ?_
    exact ⟨(b3, q, _, _), tU, rfl, rfl, hD, hgq, H, hq⟩
  ·refine tV ?_
   have hb : (decide (0 < i) && decide (i < 10)) = false := by simp; omega
   apply o_as (w := .agg (clsC i q 0 (-1))) rfl rfl trivial (by unfold clsC; rw [hb])
   apply o_alcL hD rfl
   intro b3 hD
   apply o_stL (v := .agg (clsC i q 0 (-1))) (cs' := clsC i q 0 (-1)) 0 hD rfl rfl rfl rfl rfl rfl rfl (splice_full rfl)
   intro hD
   refine tA ?_
   exact ⟨(b3, q, _, _), tU, rfl, rfl, hD, hgq, H, hq⟩
 clear hD H
 rintro ⟨b3, q, g, G⟩ _ ⟨rfl, hD, hgg, H, hq⟩
 simp only at hD hgg H hq ⊢
 have hcl : RCls g (clsC i q (if i = 10 then 2 else 0) (if i = 10 then 0 else -1)) (smallC i) := ⟨_, _, _, _, rfl, .nil, ⟨_, .sl q 0 1 _ _ hq rfl, .one rfl rfl⟩, .nil, .nil⟩
 refine s_joinB (σ := AV × Heap) (fun s => [(0, .ptr b0 0), (1, .ptr b1 0), (2, I i), (3, .ptr b3 0)]) (fun s => b3 :: (J.map Prod.fst ++ [b1, b0])) (fun s h' => h' = hset s.2 ((b3, .cells (clsC i q (if i = 10 then 2 else 0) (if i = 10 then 0 else -1))) :: SmL b0 b1 o8 vc vm s.1 vr vs vf J) ∧ Dis s.2 ((b3, .cells (clsC i q (if i = 10 then 2 else 0) (if i = 10 then 0 else -1))) :: SmL b0 b1 o8 vc vm s.1 vr vs vf J) ∧ OSl g 10 vc cs i s.2 ∧ OSl g 1 s.1 ((List.range (min (i + 1) 10)).map fun k : Nat => I k) (min (i + 1) 10) s.2 ∧ ∀ x ∈ slIds vc, x ∉ slIds s.1) ?_ ?_
 ·refine tA ?_
  refine oI (i = 10) (fun H2 => ?_) (fun H2 => ?_)
  ·subst H2
   refine tA ?_
   apply o_st1L 0 hD rfl rfl rfl rfl rfl rfl (show 0 + 7 < 10 by decide)
   intro hD
   refine tA ?_
   apply o_st1L 0 hD rfl rfl rfl rfl rfl rfl (show 0 + 8 < 10 by decide)
   intro hD
   refine tA ?_
   exact ⟨(vg, G), tU, rfl, rfl, hD, H.c, H.d, H.j⟩
  ·rw [if_neg H2, if_neg H2]
   refine tv ?_
   refine tv ?_
   refine tv ?_
   refine s_regL [.A, .B, .A, .A, .A, .A, .D] hD ?_
   refine tZ ?_
   apply x_ldL 1 hD rfl rfl rfl rfl
   refine tZ ?_
   apply x_v (v := .tsl [I i] 1) rfl rfl ⟨rfl, rfl⟩
   apply x_appL hD rfl rfl rfl H.d rfl rfl rfl (by omega)
   intro v G2 O hg2 hD
   refine tZ ?_
   apply x_st1L 1 hD rfl rfl rfl rfl O.ones (show 0 + 4 < 9 by decide)
   intro hD
   refine tZ ?_
   refine tA ?_
   have e : min i 10 + 1 = min (i + 1) 10 := by omega
   refine ⟨(v, G2), tU, rfl, rfl, hD, OSl.beside H.c hg2 O.ext H.j, ?_, OSl.fresh O H.c H.j⟩
   have : OSl g 1 v ((List.range (min i 10)).map (fun k : Nat => I k) ++ [I i]) (min i 10 + 1) G2 := O.weaken hg2
   rwa [show (List.map (fun k : Nat => I k) (List.range (min i 10)) ++ [I i]) = (List.range (min (i + 1) 10)).map fun k : Nat => I k by rw [← e, range_map_succ, show min i 10 = i by omega], e] at this
 have hk := H.k
 clear hD H hq
 rintro ⟨vg, G⟩ _ ⟨rfl, hD, Hc, Hd, hj⟩
 simp only at hD Hc Hd hj ⊢
 refine s_regL [.A, .B, .B, .A, .A, .A, .D] hD ?_
 refine tZ ?_
 apply x_ldL 1 hD rfl rfl rfl rfl
 apply x_ldnL 0 hD rfl rfl rfl rfl
 apply x_v (v := .tsl (clsC i q (if i = 10 then 2 else 0) (if i = 10 then 0 else -1)) 1) rfl rfl ⟨rfl, rfl⟩
 apply x_appL hD rfl rfl rfl Hc rfl rfl rfl (by omega)
 intro v G2 O hg2 hD
 refine tZ ?_
 apply x_st1L 1 hD rfl rfl rfl rfl O.ones (show 0 + 0 < 9 by decide)
 intro hD
 refine tZ ?_
 refine tA ?_
 apply o_as (w := I ((i + 1 : Nat) : Int)) rfl rfl trivial (by rw [w64 (by omega) (by omega)]; rfl)
 refine tA ?_
 obtain ⟨p1, p2⟩ := hset_perm (List.perm_middle (l₁ := [_, _, _])).symm hD
 refine ⟨(i + 1, _ :: J, v, vg, cs ++ clsC i q (if i = 10 then 2 else 0) (if i = 10 then 0 else -1)), by simp only; omega, tU, rfl, by simp only; omega, g, G2, p1, p2, hgg, O.weaken hg2, OSl.beside Hd hg2 O.ext fun x hx hy => hj x hy hx, ?_, fun x hx hy => OSl.fresh O Hd (fun y h1 h2 => hj y h2 h1) x hy hx⟩
 rw [range_map_succ]
 exact hk.append (.one rfl hcl)
theorem p27w {h : Heap} : HCallC Tryz.prog ann 27 [] h fun v h' => Ext h h' ∧ ∃ c o8, v = .agg c ∧ RImg h' c small ∧ c[5]? = some (.sl o8 0 5 1) ∧ h' o8 = some (.cells W5c) ∧ h o8 = none :=
 p27s.mono fun v h' ⟨G, o8, vc, vm, vg, vr, vs, vf, e, hx, hn, e', hR⟩ => by
  subst e e'
  have hy : Ext G (upd G o8 (some (.cells W5c))) := .upd hn
  refine ⟨hx.trans hy, _, o8, rfl, ?_, rfl, upd_same, ?_⟩
  ·obtain ⟨_, _, _, _, _, _, _, e, v1, v2, v3, _, v5, v6, v7⟩ := hR
   cases e
   exact ⟨_, _, _, _, _, _, _, rfl, v1.mono RCls.mono hy, v2.mono RMth.mono hy, v3.mono RN.mono hy, ⟨nums .i32 [0, 0, 10, 1, 1], .sl o8 0 5 _ _ upd_same rfl, Chunks.of_map⟩, v5.mono RN.mono hy, v6.mono RN.mono hy, v7.mono RB.mono hy⟩
  ·cases e : h o8 with
   | none => rfl
   | some o => rw [hx _ _ e] at hn; cases hn
theorem p27 {h : Heap} : HCallC Tryz.prog ann 27 [] h fun v h' => Ext h h' ∧ ∃ c, v = .agg c ∧ RImg h' c small :=
 p27w.mono fun _ _ ⟨e, c, _, e1, e2, _⟩ => ⟨e, c, e1, e2⟩
end Go.Proofs
