import Derived.Test.YtmnnmgfjlokmkaaGreatAbsTac
import Derived.Test.YtmnnmgfjlokmkaaGreatImEqM
import Derived.Test.YtmnnmgfjlokmkaaGreatAbsBeside
open Go Go.Abs Go.Proofs.SlimCode Go.Img
set_option maxRecDepth 100000
namespace Go.Proofs
def smallC (i : Nat) : Cls := ⟨[67, UInt8.ofNat (97 + i)], -1, -1, if i = 10 then 2 else 0, if i = 10 then 0 else -1, decide (0 < i) && decide (i < 10), [], [(i : Int)], [], []⟩
def small : Image := ⟨(List.range 11).map smallC, [⟨0, 0, 0, false, [(46, 0, 0, 0)], []⟩], 0, -1, (List.range 10).map (fun i : Nat => (i : Int)), [0, 0, 10, 1, 1], [4], [5, 3], [false, true]⟩
theorem i64_of {n : Int} (h1 : -9223372036854775808 ≤ n) (h2 : n ≤ 9223372036854775807) : I64 n := ⟨h1, h2⟩
theorem smallC_WF {i : Nat} (hi : i < 11) : (smallC i).WF := by
 have l : ∀ {α : Type}, Len ([] : List α) := Nat.zero_le _
 have m1 : I64 (-1) := i64_of (by decide) (by decide)
 refine ⟨by simp [smallC], m1, m1, ?_, ?_, l, ⟨by simp [smallC, Len], fun n h => ?_⟩, ⟨l, fun _ h => nomatch h⟩, ⟨l, fun _ h => nomatch h⟩⟩
 ·unfold smallC I64
  simp only
  split <;> omega
 ·unfold smallC I64
  simp only
  split <;> omega
 ·obtain rfl := List.mem_singleton.1 h
  exact i64_of (by omega) (by omega)
theorem small_WF : small.WF := by
 have l : ∀ {α : Type}, Len ([] : List α) := Nat.zero_le _
 refine ⟨⟨by simp [small, Len], fun c h => ?_⟩, ⟨by simp [small, Len], fun c h => ?_⟩, i64_of (by decide) (by decide), i64_of (by decide) (by decide), ⟨by simp [small, Len], fun n h => ?_⟩, ⟨by simp [small, Len], fun n h => ?_⟩, ⟨by simp [small, Len], fun n h => ?_⟩, ⟨by simp [small, Len], fun n h => ?_⟩, by simp [small, Len]⟩
 ·obtain ⟨i, hi, rfl⟩ := List.mem_map.1 h
  exact smallC_WF (List.mem_range.1 hi)
 ·obtain rfl := List.mem_singleton.1 h
  refine ⟨i64_of (by decide) (by decide), i64_of (by decide) (by decide), i64_of (by decide) (by decide), ⟨by simp [Len], fun p hp => ?_⟩, ⟨l, fun _ h => nomatch h⟩⟩
  obtain rfl := List.mem_singleton.1 hp
  exact ⟨i64_of (by decide) (by decide), i64_of (by decide) (by decide), i64_of (by decide) (by decide), i64_of (by decide) (by decide)⟩
 ·obtain ⟨i, hi, rfl⟩ := List.mem_map.1 h
  have := List.mem_range.1 hi
  exact i64_of (by omega) (by omega)
 ·have : n ∈ [(0 : Int), 0, 10, 1, 1] := h
  unfold I32
  simp only [List.mem_cons, List.not_mem_nil, or_false] at this
  omega
 ·have : n ∈ [(4 : Int)] := h
  obtain rfl := List.mem_singleton.1 this
  exact i64_of (by decide) (by decide)
 ·have : n ∈ [(5 : Int), 3] := h
  unfold I32
  simp only [List.mem_cons, List.not_mem_nil, or_false] at this
  omega
theorem range_map_succ {α : Type} {f : Nat → α} {k : Nat} : (List.range (k + 1)).map f = (List.range k).map f ++ [f k] := by rw [List.range_succ, List.map_append]; rfl
def SmI (G0 : Heap) (b0 b1 : Nat) (vm vw vr vs vf : AV) (i : Nat) (G : Heap) (L : List (Nat × AObj)) (bx : List Nat) : Prop := Dis G L ∧ Ext G0 G ∧ i ≤ 11 ∧ ∃ (S LB : List (Nat × AObj)) (vc vg : AV), L = S ++ ((b1, .cells [vc, vm, I 0, I (-1), vg, vw, vr, vs, vf]) :: (b0, .cells [.nil .sl, .nil .sl, I 0, I 0, .nil .sl, .nil .sl, .nil .sl, .nil .sl, .nil .sl]) :: LB) ∧ (∀ b ∈ bx, b = b1 ∨ b = b0 ∨ ∃ o, (b, o) ∈ LB) ∧
 ((i = 0 ∧ S = [] ∧ vc = .nil .sl ∧ vg = .nil .sl) ∨ (0 < i ∧ ∃ ic ig cs, S = [(ic, .cells cs), (ig, .cells ((List.range (min i 10)).map fun k : Nat => I k))] ∧ vc = .sl ic 0 i 10 ∧ vg = .sl ig 0 (min i 10) 1 ∧ Chunks (RCls G) 10 cs ((List.range i).map smallC)))
theorem p27w {h : Heap} : HCallC Tryz.prog ann 27 [] h fun v h' => Ext h h' ∧ ∃ c o8, v = .agg c ∧ RImg h' c small ∧ c[5]? = some (.sl o8 0 5 1) ∧ h' o8 = some (.cells [.int .i32 0, .int .i32 0, .int .i32 10, .int .i32 1, .int .i32 1]) ∧ h o8 = none := by
 refine s_call_R rfl Tryz.func27 (frc (by with_unfolding_all rfl)) rfl ?_
 refine tS ?_
 have hD : Dis h [] := trivial
 show SOps _ _ _ _ _ _ _ _ [] (hset h []) _
 apply o_alcL hD rfl
 intro b0 hD
 show SOps _ _ _ _ _ _ _ _ [b0] (hset h [(b0, .cells [.nil .sl, .nil .sl, I 0, I 0, .nil .sl, .nil .sl, .nil .sl, .nil .sl, .nil .sl])]) _
 have hx : Ext h h := .refl
 refine tW ?_
 apply o_hbsG (cs := [I 46, I 0, I 0, I 0]) hD rfl rfl rfl
 intro o5 hn hD
 have hg : Ext h (upd h o5 (some (.cells [I 46, I 0, I 0, I 0]))) := .upd hn
 have e_o5 : upd h o5 (some (.cells [I 46, I 0, I 0, I 0])) o5 = some (.cells [I 46, I 0, I 0, I 0]) := upd_same
 generalize upd h o5 (some (.cells [I 46, I 0, I 0, I 0])) = g5 at hg e_o5 hD ⊢
 replace hx := hx.trans hg
 clear hg
 clear hn
 refine tW ?_
 apply o_hbsG (cs := [I 0, I 0, I 0, .bool false, .sl o5 0 1 4, .nil .sl]) hD rfl rfl rfl
 intro o7 hn hD
 have hg : Ext g5 (upd g5 o7 (some (.cells [I 0, I 0, I 0, .bool false, .sl o5 0 1 4, .nil .sl]))) := .upd hn
 have e_o7 : upd g5 o7 (some (.cells [I 0, I 0, I 0, .bool false, .sl o5 0 1 4, .nil .sl])) o7 = some (.cells [I 0, I 0, I 0, .bool false, .sl o5 0 1 4, .nil .sl]) := upd_same
 generalize upd g5 o7 (some (.cells [I 0, I 0, I 0, .bool false, .sl o5 0 1 4, .nil .sl])) = g7 at hg e_o7 hD ⊢
 replace e_o5 := hg _ _ e_o5
 replace hx := hx.trans hg
 clear hg
 clear hn
 apply o_hbsG (cs := [.int .i32 0, .int .i32 0, .int .i32 10, .int .i32 1, .int .i32 1]) hD rfl rfl rfl
 intro o8 hn hD
 have hno8 : h o8 = none := by
  cases e : h o8 with
  | none => rfl
  | some o => rw [hx _ _ e] at hn; cases hn
 have hg : Ext g7 (upd g7 o8 (some (.cells [.int .i32 0, .int .i32 0, .int .i32 10, .int .i32 1, .int .i32 1]))) := .upd hn
 have e_o8 : upd g7 o8 (some (.cells [.int .i32 0, .int .i32 0, .int .i32 10, .int .i32 1, .int .i32 1])) o8 = some (.cells [.int .i32 0, .int .i32 0, .int .i32 10, .int .i32 1, .int .i32 1]) := upd_same
 generalize upd g7 o8 (some (.cells [.int .i32 0, .int .i32 0, .int .i32 10, .int .i32 1, .int .i32 1])) = g8 at hg e_o8 hD ⊢
 replace e_o5 := hg _ _ e_o5
 replace e_o7 := hg _ _ e_o7
 replace hx := hx.trans hg
 clear hg
 clear hn
 apply o_hbsG (cs := [I 4]) hD rfl rfl rfl
 intro o9 hn hD
 have hg : Ext g8 (upd g8 o9 (some (.cells [I 4]))) := .upd hn
 have e_o9 : upd g8 o9 (some (.cells [I 4])) o9 = some (.cells [I 4]) := upd_same
 generalize upd g8 o9 (some (.cells [I 4])) = g9 at hg e_o9 hD ⊢
 replace e_o5 := hg _ _ e_o5
 replace e_o7 := hg _ _ e_o7
 replace e_o8 := hg _ _ e_o8
 replace hx := hx.trans hg
 clear hg
 clear hn
 apply o_hbsG (cs := [.int .i32 5, .int .i32 3]) hD rfl rfl rfl
 intro o10 hn hD
 have hg : Ext g9 (upd g9 o10 (some (.cells [.int .i32 5, .int .i32 3]))) := .upd hn
 have e_o10 : upd g9 o10 (some (.cells [.int .i32 5, .int .i32 3])) o10 = some (.cells [.int .i32 5, .int .i32 3]) := upd_same
 generalize upd g9 o10 (some (.cells [.int .i32 5, .int .i32 3])) = g10 at hg e_o10 hD ⊢
 replace e_o5 := hg _ _ e_o5
 replace e_o7 := hg _ _ e_o7
 replace e_o8 := hg _ _ e_o8
 replace e_o9 := hg _ _ e_o9
 replace hx := hx.trans hg
 clear hg
 clear hn
 apply o_hbsG (cs := [.bool false, .bool true]) hD rfl rfl rfl
 intro o11 hn hD
 have hg : Ext g10 (upd g10 o11 (some (.cells [.bool false, .bool true]))) := .upd hn
 have e_o11 : upd g10 o11 (some (.cells [.bool false, .bool true])) o11 = some (.cells [.bool false, .bool true]) := upd_same
 generalize upd g10 o11 (some (.cells [.bool false, .bool true])) = G0 at hg e_o11 hD ⊢
 replace e_o5 := hg _ _ e_o5
 replace e_o7 := hg _ _ e_o7
 replace e_o8 := hg _ _ e_o8
 replace e_o9 := hg _ _ e_o9
 replace e_o10 := hg _ _ e_o10
 replace hx := hx.trans hg
 clear hg
 clear hn
 have hm : Sl RMth 6 G0 (.sl o7 0 1 6) [⟨0, 0, 0, false, [(46, 0, 0, 0)], []⟩] := ⟨_, .sl o7 0 1 _ _ e_o7 rfl, .one rfl ⟨_, _, rfl, ⟨_, .sl o5 0 1 _ _ e_o5 rfl, .one rfl rfl⟩, .nil⟩⟩
 have hw : Sl (RN .i32) 1 G0 (.sl o8 0 5 1) [0, 0, 10, 1, 1] := ⟨_, .sl o8 0 5 _ _ e_o8 rfl, .cons (c := [_]) rfl rfl (.cons (c := [_]) rfl rfl (.cons (c := [_]) rfl rfl (.cons (c := [_]) rfl rfl (.one rfl rfl))))⟩
 have hr : Sl (RN .i64) 1 G0 (.sl o9 0 1 1) [4] := ⟨_, .sl o9 0 1 _ _ e_o9 rfl, .one rfl rfl⟩
 have hs : Sl (RN .i32) 1 G0 (.sl o10 0 2 1) [5, 3] := ⟨_, .sl o10 0 2 _ _ e_o10 rfl, .cons (c := [_]) rfl rfl (.one rfl rfl)⟩
 have hf : Sl RB 1 G0 (.sl o11 0 2 1) [false, true] := ⟨_, .sl o11 0 2 _ _ e_o11 rfl, .cons (c := [_]) rfl rfl (.one rfl rfl)⟩
 clear e_o5 e_o7 e_o9 e_o10 e_o11
 refine tW ?_
 apply o_alcL hD rfl
 intro b1 hD
 show SOps _ _ _ _ _ _ _ _ [b1, b0] (hset G0 [(b1, .cells [.nil .sl, .nil .sl, I 0, I 0, .nil .sl, .nil .sl, .nil .sl, .nil .sl, .nil .sl]), (b0, .cells [.nil .sl, .nil .sl, I 0, I 0, .nil .sl, .nil .sl, .nil .sl, .nil .sl, .nil .sl])]) _
 (refine tG ?_; (with_reducible apply o_stL 0 hD); exact rfl; exact rfl; exact rfl; exact rfl; exact rfl; exact rfl; (exact rfl); exact rfl; clear hD; intro hD)
 replace hD : Dis G0 [(b1, .cells [.nil .sl, .sl o7 0 1 6, I 0, I (-1), .nil .sl, .sl o8 0 5 1, .sl o9 0 1 1, .sl o10 0 2 1, .sl o11 0 2 1]), (b0, .cells [.nil .sl, .nil .sl, I 0, I 0, .nil .sl, .nil .sl, .nil .sl, .nil .sl, .nil .sl])] := hD
 show SOps _ _ _ _ _ _ _ _ [b1, b0] (hset G0 [(b1, .cells [.nil .sl, .sl o7 0 1 6, I 0, I (-1), .nil .sl, .sl o8 0 5 1, .sl o9 0 1 1, .sl o10 0 2 1, .sl o11 0 2 1]), (b0, .cells [.nil .sl, .nil .sl, I 0, I 0, .nil .sl, .nil .sl, .nil .sl, .nil .sl, .nil .sl])]) _
 generalize AV.sl o7 0 1 6 = vm at hm hD ⊢
 generalize hvw : AV.sl o8 0 5 1 = vw at hw hD ⊢
 generalize AV.sl o9 0 1 1 = vr at hr hD ⊢
 generalize AV.sl o10 0 2 1 = vs at hs hD ⊢
 generalize AV.sl o11 0 2 1 = vf at hf hD ⊢
 refine tV ?_
 refine s_loopB (fun s : Nat × Heap × List (Nat × AObj) × List Nat => [(0, .ptr b0 0), (1, .ptr b1 0), (2, I s.1)]) (fun s => s.2.2.2) (fun s h' => h' = hset s.2.1 s.2.2.1 ∧ SmI G0 b0 b1 vm vw vr vs vf s.1 s.2.1 s.2.2.1 s.2.2.2) (fun s => 11 - s.1) (0, G0, _, [b1, b0])
  tU rfl ⟨rfl, hD, .refl, by omega, [], [], .nil .sl, .nil .sl, rfl, by simp, .inl ⟨rfl, rfl, rfl, rfl⟩⟩ ?_
 clear hD
 rintro ⟨i, G, L, bx⟩ h' ⟨hh, hD, hGG, hi, S, LB, vc, vg, hL, hbx, hS⟩
 simp only at hh hD hGG hi hbx hS ⊢
 subst hh
 subst hL
 refine tW ?_
 refine oB fun bb hbb => ?_
 cases bb
 case false =>
  have h11 : i = 11 := by simp at hbb; omega
  subst h11
  rcases hS with ⟨h0, _⟩ | ⟨_, ic, ig, cs, rfl, rfl, rfl, hcs⟩
  ·omega
  replace hD : Dis G ((ic, .cells cs) :: (ig, .cells (List.map (fun k : Nat => I k) (List.range 10))) :: (b1, .cells [.sl ic 0 11 10, vm, I 0, I (-1), .sl ig 0 10 1, vw, vr, vs, vf]) :: (b0, .cells [.nil .sl, .nil .sl, I 0, I 0, .nil .sl, .nil .sl, .nil .sl, .nil .sl, .nil .sl]) :: LB) := hD
  show SOps _ _ _ _ _ _ _ _ _ (hset G ((ic, .cells cs) :: (ig, .cells (List.map (fun k : Nat => I k) (List.range 10))) :: (b1, .cells [.sl ic 0 11 10, vm, I 0, I (-1), .sl ig 0 10 1, vw, vr, vs, vf]) :: (b0, .cells [.nil .sl, .nil .sl, I 0, I 0, .nil .sl, .nil .sl, .nil .sl, .nil .sl, .nil .sl]) :: LB)) _
  refine tW ?_
  apply o_ldnL (l := [.sl ic 0 11 10, vm, I 0, I (-1), .sl ig 0 10 1, vw, vr, vs, vf]) 2 hD rfl rfl rfl rfl rfl
  apply o_stL (v := .agg [.sl ic 0 11 10, vm, I 0, I (-1), .sl ig 0 10 1, vw, vr, vs, vf]) (cs' := [.sl ic 0 11 10, vm, I 0, I (-1), .sl ig 0 10 1, vw, vr, vs, vf]) 3 hD rfl rfl rfl rfl rfl rfl (by simp only [AV.cells, List.all_cons, hm.one, hw.one, hr.one, hs.one, hf.one]; rfl) rfl
  clear hD
  intro hD
  replace hD : Dis G ((ic, .cells cs) :: (ig, .cells (List.map (fun k : Nat => I k) (List.range 10))) :: (b1, .cells [.sl ic 0 11 10, vm, I 0, I (-1), .sl ig 0 10 1, vw, vr, vs, vf]) :: (b0, .cells [.sl ic 0 11 10, vm, I 0, I (-1), .sl ig 0 10 1, vw, vr, vs, vf]) :: LB) := hD
  refine tW ?_
  refine hR_ret (vs := [.agg [.sl ic 0 11 10, vm, I 0, I (-1), .sl ig 0 10 1, vw, vr, vs, vf]]) (.cells (m := 9) rfl (by kernel_rfl) (hset_get (k := 3) hD rfl) rfl .nil) rfl ?_ (fun ht => by cases ht)
  obtain ⟨g1, g2⟩ := hset_in (o := .cells (List.map (fun k : Nat => I k) (List.range 10))) hD.2.1
  have hD1 := g2 hD.2.2
  have hx1 : Ext G (upd G ig (some (.cells (List.map (fun k : Nat => I k) (List.range 10))))) := .upd (dis_none hD _ (.tail _ (.head _)))
  have e1 : upd G ig (some (.cells (List.map (fun k : Nat => I k) (List.range 10)))) ig = some (.cells (List.map (fun k : Nat => I k) (List.range 10))) := upd_same
  have hic := hD.1
  rw [show hset G ((ig, .cells (List.map (fun k : Nat => I k) (List.range 10))) :: (b1, .cells [.sl ic 0 11 10, vm, I 0, I (-1), .sl ig 0 10 1, vw, vr, vs, vf]) :: (b0, .cells [.sl ic 0 11 10, vm, I 0, I (-1), .sl ig 0 10 1, vw, vr, vs, vf]) :: LB) = _ from g1.symm] at hic
  obtain ⟨g3, g4⟩ := hset_in (o := .cells cs) hic
  have hD2 := g4 hD1
  have hx2 : Ext (upd G ig (some (.cells (List.map (fun k : Nat => I k) (List.range 10))))) (upd (upd G ig (some (.cells (List.map (fun k : Nat => I k) (List.range 10))))) ic (some (.cells cs))) := .upd (hset_none hic)
  have e2 : upd (upd G ig (some (.cells (List.map (fun k : Nat => I k) (List.range 10))))) ic (some (.cells cs)) ic = some (.cells cs) := upd_same
  replace e1 := hx2 _ _ e1
  have hall : hset G ((ic, .cells cs) :: (ig, .cells (List.map (fun k : Nat => I k) (List.range 10))) :: (b1, .cells [.sl ic 0 11 10, vm, I 0, I (-1), .sl ig 0 10 1, vw, vr, vs, vf]) :: (b0, .cells [.sl ic 0 11 10, vm, I 0, I (-1), .sl ig 0 10 1, vw, vr, vs, vf]) :: LB) = _ := (congrArg (fun z => upd z ic (some (AObj.cells cs))) g1.symm).trans g3.symm
  generalize upd (upd G ig (some (.cells (List.map (fun k : Nat => I k) (List.range 10))))) ic (some (.cells cs)) = G2 at hx2 e1 e2 hD2 hall
  have hGx := hx1.trans hx2
  have hk : Ext G2 (killL bx (hset G ((ic, .cells cs) :: (ig, .cells (List.map (fun k : Nat => I k) (List.range 10))) :: (b1, .cells [.sl ic 0 11 10, vm, I 0, I (-1), .sl ig 0 10 1, vw, vr, vs, vf]) :: (b0, .cells [.sl ic 0 11 10, vm, I 0, I (-1), .sl ig 0 10 1, vw, vr, vs, vf]) :: LB))) := by
   rw [hall]
   refine (ext_hset hD2).kill fun b hb => ?_
   rcases hbx b hb with rfl | rfl | ⟨o, h⟩
   ·exact dis_none hD2 _ (.head _)
   ·exact dis_none hD2 _ (.tail _ (.head _))
   ·exact dis_none hD2 _ (.tail _ (.tail _ h))
  have hG02 := hGG.trans hGx
  refine ⟨(hx.trans hG02).trans hk, _, o8, rfl, RImg.mono _ _ _ _ hk ⟨_, _, _, _, _, _, _, rfl, ⟨cs, .sl ic 0 _ cs _ e2 (sliceL_all (by rw [hcs.len]; rfl)), hcs.imp fun c a => RCls.mono _ _ c a hGx⟩, hm.mono RMth.mono hG02, ?_, hw.mono RN.mono hG02, hr.mono RN.mono hG02, hs.mono RN.mono hG02, hf.mono RB.mono hG02⟩, by rw [hvw]; rfl, hk _ _ (hG02 _ _ e_o8), hno8⟩
  refine ⟨_, .sl ig 0 10 _ _ e1 rfl, ?_⟩
  have : ∀ l : List Nat, Chunks (RN .i64 G2) 1 (l.map fun k : Nat => I k) (l.map fun k : Nat => (k : Int)) := fun l => by
   induction l with
   | nil => exact .nil
   | cons a l ih => exact .cons (c := [I a]) rfl rfl ih
  exact this (List.range 10)
 have hi11 : i < 11 := by simp at hbb; omega
 clear hbb
 rcases hS with ⟨hi0, rfl, rfl, rfl⟩ | ⟨hpos, ic, ig, cs, rfl, rfl, rfl, hcs⟩
 ·replace hD : Dis G ((b1, .cells [.nil .sl, vm, I 0, I (-1), .nil .sl, vw, vr, vs, vf]) :: (b0, .cells [.nil .sl, .nil .sl, I 0, I 0, .nil .sl, .nil .sl, .nil .sl, .nil .sl, .nil .sl]) :: LB) := hD
  show SOps _ _ _ _ _ _ _ _ _ (hset G ((b1, .cells [.nil .sl, vm, I 0, I (-1), .nil .sl, vw, vr, vs, vf]) :: (b0, .cells [.nil .sl, .nil .sl, I 0, I 0, .nil .sl, .nil .sl, .nil .sl, .nil .sl, .nil .sl]) :: LB)) _
  refine tV ?_
  (refine tG ?_; (with_reducible apply o_addN (a := 97) (b := i)); exact rfl; exact rfl; exact rfl; exact w64 (by omega) (by omega))
  apply o_as rfl rfl trivial (cvb (97 + i))
  apply o_hbsG (cs := ubs [67, UInt8.ofNat (97 + i)]) hD rfl rfl rfl
  intro o20 hn hD
  have hg : Ext G (upd G o20 (some (.cells (ubs [67, UInt8.ofNat (97 + i)])))) := .upd hn
  have e20 : upd G o20 (some (.cells (ubs [67, UInt8.ofNat (97 + i)]))) o20 = some (.cells (ubs [67, UInt8.ofNat (97 + i)])) := upd_same
  generalize upd G o20 (some (.cells (ubs [67, UInt8.ofNat (97 + i)]))) = Ga at hg e20 hD ⊢
  apply o_b2sV (bs := [67, UInt8.ofNat (97 + i)]) rfl rfl (.sl o20 0 2 _ _ (ext_hset hD _ _ e20) rfl) (fun h => by omega)
  refine tV ?_
  apply o_hbsG (cs := [I i]) hD rfl rfl rfl
  intro o23 hn2 hD
  have hg2 : Ext Ga (upd Ga o23 (some (.cells [I i]))) := .upd hn2
  have e23 : upd Ga o23 (some (.cells [I i])) o23 = some (.cells [I i]) := upd_same
  generalize upd Ga o23 (some (.cells [I i])) = Gb at hg2 e23 hD ⊢
  refine tV ?_
  (with_reducible apply o_bool)
  exact rfl
  exact rfl
  exact trivial
  intro bq hq
  obtain rfl : bq = false := by rw [hq]; exact decide_eq_false (by omega)
  refine tW ?_
  apply o_alcL hD rfl
  intro b3 hD
  apply o_stL (v := .agg [.str [67, UInt8.ofNat (97 + i)], I (-1), I (-1), .nil .sl, .sl o23 0 1 1, .nil .sl, .nil .sl, I 0, I (-1), .bool false]) (cs' := [.str [67, UInt8.ofNat (97 + i)], I (-1), I (-1), .nil .sl, .sl o23 0 1 1, .nil .sl, .nil .sl, I 0, I (-1), .bool false]) 0 hD rfl rfl rfl rfl rfl rfl rfl rfl
  clear hD
  intro hD
  replace hD : Dis Gb ((b3, .cells [.str [67, UInt8.ofNat (97 + i)], I (-1), I (-1), .nil .sl, .sl o23 0 1 1, .nil .sl, .nil .sl, I 0, I (-1), .bool false]) :: (b1, .cells [.nil .sl, vm, I 0, I (-1), .nil .sl, vw, vr, vs, vf]) :: (b0, .cells [.nil .sl, .nil .sl, I 0, I 0, .nil .sl, .nil .sl, .nil .sl, .nil .sl, .nil .sl]) :: LB) := hD
  show SOps _ _ _ _ _ _ _ _ _ (hset Gb ((b3, .cells [.str [67, UInt8.ofNat (97 + i)], I (-1), I (-1), .nil .sl, .sl o23 0 1 1, .nil .sl, .nil .sl, I 0, I (-1), .bool false]) :: (b1, .cells [.nil .sl, vm, I 0, I (-1), .nil .sl, vw, vr, vs, vf]) :: (b0, .cells [.nil .sl, .nil .sl, I 0, I 0, .nil .sl, .nil .sl, .nil .sl, .nil .sl, .nil .sl]) :: LB)) _
  refine tV ?_
  (with_reducible apply o_bool)
  exact rfl
  exact rfl
  exact trivial
  intro bq hq
  obtain rfl : bq = false := by rw [hq]; exact decide_eq_false (by omega)
  refine tV ?_
  apply o_ldL 1 hD rfl rfl rfl rfl rfl
  refine tV ?_
  apply o_val (v := .tsl [I i] 1) rfl rfl ⟨rfl, rfl⟩
  apply o_appB (old := []) (new := [I i]) (l := 0) (n := 1) rfl rfl rfl rfl ((b3, .cells [.str [67, UInt8.ofNat (97 + i)], I (-1), I (-1), .nil .sl, .sl o23 0 1 1, .nil .sl, .nil .sl, I 0, I (-1), .bool false]) :: (b1, .cells [.nil .sl, vm, I 0, I (-1), .nil .sl, vw, vr, vs, vf]) :: (b0, .cells [.nil .sl, .nil .sl, I 0, I 0, .nil .sl, .nil .sl, .nil .sl, .nil .sl, .nil .sl]) :: LB) (.inl ⟨rfl, rfl, rfl, rfl⟩) hD (srcOf_V (.tsl _ _ rfl)) rfl (by decide) rfl (by decide)
  clear hD
  intro jg hD
  refine tV ?_
  apply o_stL (v := .sl jg 0 (0 + 1) 1) (cs' := [.nil .sl, vm, I 0, I (-1), .sl jg 0 (0 + 1) 1, vw, vr, vs, vf]) 2 hD rfl rfl rfl rfl rfl rfl rfl rfl
  clear hD
  intro hD
  replace hD : Dis Gb ((jg, .cells ([] ++ [I i])) :: (b3, .cells [.str [67, UInt8.ofNat (97 + i)], I (-1), I (-1), .nil .sl, .sl o23 0 1 1, .nil .sl, .nil .sl, I 0, I (-1), .bool false]) :: (b1, .cells [.nil .sl, vm, I 0, I (-1), .sl jg 0 (0 + 1) 1, vw, vr, vs, vf]) :: (b0, .cells [.nil .sl, .nil .sl, I 0, I 0, .nil .sl, .nil .sl, .nil .sl, .nil .sl, .nil .sl]) :: LB) := hD
  show SOps _ _ _ _ _ _ _ _ _ (hset Gb ((jg, .cells ([] ++ [I i])) :: (b3, .cells [.str [67, UInt8.ofNat (97 + i)], I (-1), I (-1), .nil .sl, .sl o23 0 1 1, .nil .sl, .nil .sl, I 0, I (-1), .bool false]) :: (b1, .cells [.nil .sl, vm, I 0, I (-1), .sl jg 0 (0 + 1) 1, vw, vr, vs, vf]) :: (b0, .cells [.nil .sl, .nil .sl, I 0, I 0, .nil .sl, .nil .sl, .nil .sl, .nil .sl, .nil .sl]) :: LB)) _
  refine tV ?_
  apply o_ldL 2 hD rfl rfl rfl rfl rfl
  apply o_ldnL (l := [.str [67, UInt8.ofNat (97 + i)], I (-1), I (-1), .nil .sl, .sl o23 0 1 1, .nil .sl, .nil .sl, I 0, I (-1), .bool false]) 1 hD rfl rfl rfl rfl rfl
  apply o_val (p := [.str [67, UInt8.ofNat (97 + i)], I (-1), I (-1), .nil .sl, .sl o23 0 1 1, .nil .sl, .nil .sl, I 0, I (-1), .bool false].length = 1 * 10 ∧ [.str [67, UInt8.ofNat (97 + i)], I (-1), I (-1), .nil .sl, .sl o23 0 1 1, .nil .sl, .nil .sl, I 0, I (-1), .bool false].all AV.one = true) (v := .tsl [.str [67, UInt8.ofNat (97 + i)], I (-1), I (-1), .nil .sl, .sl o23 0 1 1, .nil .sl, .nil .sl, I 0, I (-1), .bool false] 1) rfl rfl ⟨rfl, rfl⟩
  apply o_appB (old := []) (new := [.str [67, UInt8.ofNat (97 + i)], I (-1), I (-1), .nil .sl, .sl o23 0 1 1, .nil .sl, .nil .sl, I 0, I (-1), .bool false]) (l := 0) (n := 1) rfl rfl rfl rfl ((jg, .cells ([] ++ [I i])) :: (b3, .cells [.str [67, UInt8.ofNat (97 + i)], I (-1), I (-1), .nil .sl, .sl o23 0 1 1, .nil .sl, .nil .sl, I 0, I (-1), .bool false]) :: (b1, .cells [.nil .sl, vm, I 0, I (-1), .sl jg 0 (0 + 1) 1, vw, vr, vs, vf]) :: (b0, .cells [.nil .sl, .nil .sl, I 0, I 0, .nil .sl, .nil .sl, .nil .sl, .nil .sl, .nil .sl]) :: LB) (.inl ⟨rfl, rfl, rfl, rfl⟩) hD (srcOf_V (.tsl _ _ rfl)) rfl (by decide) rfl (by decide)
  clear hD
  intro jc hD
  refine tV ?_
  apply o_stL (v := .sl jc 0 (0 + 1) 10) (cs' := [.sl jc 0 (0 + 1) 10, vm, I 0, I (-1), .sl jg 0 (0 + 1) 1, vw, vr, vs, vf]) 3 hD rfl rfl rfl rfl rfl rfl rfl rfl
  clear hD
  intro hD
  replace hD : Dis Gb ((jc, .cells ([] ++ [.str [67, UInt8.ofNat (97 + i)], I (-1), I (-1), .nil .sl, .sl o23 0 1 1, .nil .sl, .nil .sl, I 0, I (-1), .bool false])) :: (jg, .cells ([] ++ [I i])) :: (b3, .cells [.str [67, UInt8.ofNat (97 + i)], I (-1), I (-1), .nil .sl, .sl o23 0 1 1, .nil .sl, .nil .sl, I 0, I (-1), .bool false]) :: (b1, .cells [.sl jc 0 (0 + 1) 10, vm, I 0, I (-1), .sl jg 0 (0 + 1) 1, vw, vr, vs, vf]) :: (b0, .cells [.nil .sl, .nil .sl, I 0, I 0, .nil .sl, .nil .sl, .nil .sl, .nil .sl, .nil .sl]) :: LB) := hD
  show SOps _ _ _ _ _ _ _ _ _ (hset Gb ((jc, .cells ([] ++ [.str [67, UInt8.ofNat (97 + i)], I (-1), I (-1), .nil .sl, .sl o23 0 1 1, .nil .sl, .nil .sl, I 0, I (-1), .bool false])) :: (jg, .cells ([] ++ [I i])) :: (b3, .cells [.str [67, UInt8.ofNat (97 + i)], I (-1), I (-1), .nil .sl, .sl o23 0 1 1, .nil .sl, .nil .sl, I 0, I (-1), .bool false]) :: (b1, .cells [.sl jc 0 (0 + 1) 10, vm, I 0, I (-1), .sl jg 0 (0 + 1) 1, vw, vr, vs, vf]) :: (b0, .cells [.nil .sl, .nil .sl, I 0, I 0, .nil .sl, .nil .sl, .nil .sl, .nil .sl, .nil .sl]) :: LB)) _
  refine tW ?_
  rw [w64 (n := (i : Int) + 1) (by omega) (by omega)]
  obtain ⟨f0, hD0⟩ : hset Gb ((jc, .cells ([] ++ [.str [67, UInt8.ofNat (97 + i)], I (-1), I (-1), .nil .sl, .sl o23 0 1 1, .nil .sl, .nil .sl, I 0, I (-1), .bool false])) :: (jg, .cells ([] ++ [I i])) :: (b3, .cells [.str [67, UInt8.ofNat (97 + i)], I (-1), I (-1), .nil .sl, .sl o23 0 1 1, .nil .sl, .nil .sl, I 0, I (-1), .bool false]) :: (b1, .cells [.sl jc 0 (0 + 1) 10, vm, I 0, I (-1), .sl jg 0 (0 + 1) 1, vw, vr, vs, vf]) :: (b0, .cells [.nil .sl, .nil .sl, I 0, I 0, .nil .sl, .nil .sl, .nil .sl, .nil .sl, .nil .sl]) :: LB) = hset Gb ((b0, .cells [.nil .sl, .nil .sl, I 0, I 0, .nil .sl, .nil .sl, .nil .sl, .nil .sl, .nil .sl]) :: (jc, .cells ([] ++ [.str [67, UInt8.ofNat (97 + i)], I (-1), I (-1), .nil .sl, .sl o23 0 1 1, .nil .sl, .nil .sl, I 0, I (-1), .bool false])) :: (jg, .cells ([] ++ [I i])) :: (b3, .cells [.str [67, UInt8.ofNat (97 + i)], I (-1), I (-1), .nil .sl, .sl o23 0 1 1, .nil .sl, .nil .sl, I 0, I (-1), .bool false]) :: (b1, .cells [.sl jc 0 (0 + 1) 10, vm, I 0, I (-1), .sl jg 0 (0 + 1) 1, vw, vr, vs, vf]) :: LB) ∧ Dis Gb ((b0, .cells [.nil .sl, .nil .sl, I 0, I 0, .nil .sl, .nil .sl, .nil .sl, .nil .sl, .nil .sl]) :: (jc, .cells ([] ++ [.str [67, UInt8.ofNat (97 + i)], I (-1), I (-1), .nil .sl, .sl o23 0 1 1, .nil .sl, .nil .sl, I 0, I (-1), .bool false])) :: (jg, .cells ([] ++ [I i])) :: (b3, .cells [.str [67, UInt8.ofNat (97 + i)], I (-1), I (-1), .nil .sl, .sl o23 0 1 1, .nil .sl, .nil .sl, I 0, I (-1), .bool false]) :: (b1, .cells [.sl jc 0 (0 + 1) 10, vm, I 0, I (-1), .sl jg 0 (0 + 1) 1, vw, vr, vs, vf]) :: LB) := hset_front (k := 4) hD rfl
  obtain ⟨f1, hD1⟩ : hset Gb ((b0, .cells [.nil .sl, .nil .sl, I 0, I 0, .nil .sl, .nil .sl, .nil .sl, .nil .sl, .nil .sl]) :: (jc, .cells ([] ++ [.str [67, UInt8.ofNat (97 + i)], I (-1), I (-1), .nil .sl, .sl o23 0 1 1, .nil .sl, .nil .sl, I 0, I (-1), .bool false])) :: (jg, .cells ([] ++ [I i])) :: (b3, .cells [.str [67, UInt8.ofNat (97 + i)], I (-1), I (-1), .nil .sl, .sl o23 0 1 1, .nil .sl, .nil .sl, I 0, I (-1), .bool false]) :: (b1, .cells [.sl jc 0 (0 + 1) 10, vm, I 0, I (-1), .sl jg 0 (0 + 1) 1, vw, vr, vs, vf]) :: LB) = hset Gb ((b1, .cells [.sl jc 0 (0 + 1) 10, vm, I 0, I (-1), .sl jg 0 (0 + 1) 1, vw, vr, vs, vf]) :: (b0, .cells [.nil .sl, .nil .sl, I 0, I 0, .nil .sl, .nil .sl, .nil .sl, .nil .sl, .nil .sl]) :: (jc, .cells ([] ++ [.str [67, UInt8.ofNat (97 + i)], I (-1), I (-1), .nil .sl, .sl o23 0 1 1, .nil .sl, .nil .sl, I 0, I (-1), .bool false])) :: (jg, .cells ([] ++ [I i])) :: (b3, .cells [.str [67, UInt8.ofNat (97 + i)], I (-1), I (-1), .nil .sl, .sl o23 0 1 1, .nil .sl, .nil .sl, I 0, I (-1), .bool false]) :: LB) ∧ Dis Gb ((b1, .cells [.sl jc 0 (0 + 1) 10, vm, I 0, I (-1), .sl jg 0 (0 + 1) 1, vw, vr, vs, vf]) :: (b0, .cells [.nil .sl, .nil .sl, I 0, I 0, .nil .sl, .nil .sl, .nil .sl, .nil .sl, .nil .sl]) :: (jc, .cells ([] ++ [.str [67, UInt8.ofNat (97 + i)], I (-1), I (-1), .nil .sl, .sl o23 0 1 1, .nil .sl, .nil .sl, I 0, I (-1), .bool false])) :: (jg, .cells ([] ++ [I i])) :: (b3, .cells [.str [67, UInt8.ofNat (97 + i)], I (-1), I (-1), .nil .sl, .sl o23 0 1 1, .nil .sl, .nil .sl, I 0, I (-1), .bool false]) :: LB) := hset_front (k := 4) hD0 rfl
  obtain ⟨f2, hD2⟩ : hset Gb ((b1, .cells [.sl jc 0 (0 + 1) 10, vm, I 0, I (-1), .sl jg 0 (0 + 1) 1, vw, vr, vs, vf]) :: (b0, .cells [.nil .sl, .nil .sl, I 0, I 0, .nil .sl, .nil .sl, .nil .sl, .nil .sl, .nil .sl]) :: (jc, .cells ([] ++ [.str [67, UInt8.ofNat (97 + i)], I (-1), I (-1), .nil .sl, .sl o23 0 1 1, .nil .sl, .nil .sl, I 0, I (-1), .bool false])) :: (jg, .cells ([] ++ [I i])) :: (b3, .cells [.str [67, UInt8.ofNat (97 + i)], I (-1), I (-1), .nil .sl, .sl o23 0 1 1, .nil .sl, .nil .sl, I 0, I (-1), .bool false]) :: LB) = hset Gb ((jg, .cells ([] ++ [I i])) :: (b1, .cells [.sl jc 0 (0 + 1) 10, vm, I 0, I (-1), .sl jg 0 (0 + 1) 1, vw, vr, vs, vf]) :: (b0, .cells [.nil .sl, .nil .sl, I 0, I 0, .nil .sl, .nil .sl, .nil .sl, .nil .sl, .nil .sl]) :: (jc, .cells ([] ++ [.str [67, UInt8.ofNat (97 + i)], I (-1), I (-1), .nil .sl, .sl o23 0 1 1, .nil .sl, .nil .sl, I 0, I (-1), .bool false])) :: (b3, .cells [.str [67, UInt8.ofNat (97 + i)], I (-1), I (-1), .nil .sl, .sl o23 0 1 1, .nil .sl, .nil .sl, I 0, I (-1), .bool false]) :: LB) ∧ Dis Gb ((jg, .cells ([] ++ [I i])) :: (b1, .cells [.sl jc 0 (0 + 1) 10, vm, I 0, I (-1), .sl jg 0 (0 + 1) 1, vw, vr, vs, vf]) :: (b0, .cells [.nil .sl, .nil .sl, I 0, I 0, .nil .sl, .nil .sl, .nil .sl, .nil .sl, .nil .sl]) :: (jc, .cells ([] ++ [.str [67, UInt8.ofNat (97 + i)], I (-1), I (-1), .nil .sl, .sl o23 0 1 1, .nil .sl, .nil .sl, I 0, I (-1), .bool false])) :: (b3, .cells [.str [67, UInt8.ofNat (97 + i)], I (-1), I (-1), .nil .sl, .sl o23 0 1 1, .nil .sl, .nil .sl, I 0, I (-1), .bool false]) :: LB) := hset_front (k := 3) hD1 rfl
  obtain ⟨f3, hD3⟩ : hset Gb ((jg, .cells ([] ++ [I i])) :: (b1, .cells [.sl jc 0 (0 + 1) 10, vm, I 0, I (-1), .sl jg 0 (0 + 1) 1, vw, vr, vs, vf]) :: (b0, .cells [.nil .sl, .nil .sl, I 0, I 0, .nil .sl, .nil .sl, .nil .sl, .nil .sl, .nil .sl]) :: (jc, .cells ([] ++ [.str [67, UInt8.ofNat (97 + i)], I (-1), I (-1), .nil .sl, .sl o23 0 1 1, .nil .sl, .nil .sl, I 0, I (-1), .bool false])) :: (b3, .cells [.str [67, UInt8.ofNat (97 + i)], I (-1), I (-1), .nil .sl, .sl o23 0 1 1, .nil .sl, .nil .sl, I 0, I (-1), .bool false]) :: LB) = hset Gb ((jc, .cells ([] ++ [.str [67, UInt8.ofNat (97 + i)], I (-1), I (-1), .nil .sl, .sl o23 0 1 1, .nil .sl, .nil .sl, I 0, I (-1), .bool false])) :: (jg, .cells ([] ++ [I i])) :: (b1, .cells [.sl jc 0 (0 + 1) 10, vm, I 0, I (-1), .sl jg 0 (0 + 1) 1, vw, vr, vs, vf]) :: (b0, .cells [.nil .sl, .nil .sl, I 0, I 0, .nil .sl, .nil .sl, .nil .sl, .nil .sl, .nil .sl]) :: (b3, .cells [.str [67, UInt8.ofNat (97 + i)], I (-1), I (-1), .nil .sl, .sl o23 0 1 1, .nil .sl, .nil .sl, I 0, I (-1), .bool false]) :: LB) ∧ Dis Gb ((jc, .cells ([] ++ [.str [67, UInt8.ofNat (97 + i)], I (-1), I (-1), .nil .sl, .sl o23 0 1 1, .nil .sl, .nil .sl, I 0, I (-1), .bool false])) :: (jg, .cells ([] ++ [I i])) :: (b1, .cells [.sl jc 0 (0 + 1) 10, vm, I 0, I (-1), .sl jg 0 (0 + 1) 1, vw, vr, vs, vf]) :: (b0, .cells [.nil .sl, .nil .sl, I 0, I 0, .nil .sl, .nil .sl, .nil .sl, .nil .sl, .nil .sl]) :: (b3, .cells [.str [67, UInt8.ofNat (97 + i)], I (-1), I (-1), .nil .sl, .sl o23 0 1 1, .nil .sl, .nil .sl, I 0, I (-1), .bool false]) :: LB) := hset_front (k := 3) hD2 rfl
  have hcl : RCls Gb [.str [67, UInt8.ofNat (97 + i)], I (-1), I (-1), .nil .sl, .sl o23 0 1 1, .nil .sl, .nil .sl, I 0, I (-1), .bool false] (smallC i) := ⟨_, _, _, _, (by rw [hi0]; rfl), .nil, ⟨_, .sl o23 0 1 _ _ e23 rfl, .one rfl rfl⟩, .nil, .nil⟩
  rw [f0, f1, f2, f3]
  have hbx2 : ∀ b ∈ b3 :: bx, b = b1 ∨ b = b0 ∨ ∃ o, (b, o) ∈ (b3, .cells [.str [67, UInt8.ofNat (97 + i)], I (-1), I (-1), .nil .sl, .sl o23 0 1 1, .nil .sl, .nil .sl, I 0, I (-1), .bool false]) :: LB := fun b hb => by
   rcases List.mem_cons.1 hb with rfl | hb
   ·exact .inr (.inr ⟨_, .head _⟩)
   ·rcases hbx b hb with h | h | ⟨o, h⟩
    ·exact .inl h
    ·exact .inr (.inl h)
    ·exact .inr (.inr ⟨o, .tail _ h⟩)
  obtain rfl : i = 0 := hi0
  refine ⟨(0 + 1, Gb, _, b3 :: bx), ?_, tU, rfl, rfl, hD3, hGG.trans (hg.trans hg2), by omega, [_, _], _, _, _, rfl, hbx2, .inr ⟨by omega, jc, jg, [] ++ [.str [67, UInt8.ofNat (97 + 0)], I (-1), I (-1), .nil .sl, .sl o23 0 1 1, .nil .sl, .nil .sl, I 0, I (-1), .bool false], ?_, ?_, ?_, ?_⟩⟩
  ·simp only; omega
  ·rfl
  ·rfl
  ·rfl
  ·exact .one rfl hcl
 by_cases hi10 : i = 10
 ·have hm10 : min i 10 = 10 := by omega
  rw [hm10] at hD ⊢
  replace hD : Dis G ((ic, .cells cs) :: (ig, .cells (List.map (fun k : Nat => I k) (List.range 10))) :: (b1, .cells [.sl ic 0 i 10, vm, I 0, I (-1), .sl ig 0 10 1, vw, vr, vs, vf]) :: (b0, .cells [.nil .sl, .nil .sl, I 0, I 0, .nil .sl, .nil .sl, .nil .sl, .nil .sl, .nil .sl]) :: LB) := hD
  show SOps _ _ _ _ _ _ _ _ _ (hset G ((ic, .cells cs) :: (ig, .cells (List.map (fun k : Nat => I k) (List.range 10))) :: (b1, .cells [.sl ic 0 i 10, vm, I 0, I (-1), .sl ig 0 10 1, vw, vr, vs, vf]) :: (b0, .cells [.nil .sl, .nil .sl, I 0, I 0, .nil .sl, .nil .sl, .nil .sl, .nil .sl, .nil .sl]) :: LB)) _
  refine tV ?_
  (refine tG ?_; (with_reducible apply o_addN (a := 97) (b := i)); exact rfl; exact rfl; exact rfl; exact w64 (by omega) (by omega))
  apply o_as rfl rfl trivial (cvb (97 + i))
  apply o_hbsG (cs := ubs [67, UInt8.ofNat (97 + i)]) hD rfl rfl rfl
  intro o20 hn hD
  have hg : Ext G (upd G o20 (some (.cells (ubs [67, UInt8.ofNat (97 + i)])))) := .upd hn
  have e20 : upd G o20 (some (.cells (ubs [67, UInt8.ofNat (97 + i)]))) o20 = some (.cells (ubs [67, UInt8.ofNat (97 + i)])) := upd_same
  generalize upd G o20 (some (.cells (ubs [67, UInt8.ofNat (97 + i)]))) = Ga at hg e20 hD ⊢
  apply o_b2sV (bs := [67, UInt8.ofNat (97 + i)]) rfl rfl (.sl o20 0 2 _ _ (ext_hset hD _ _ e20) rfl) (fun h => by omega)
  refine tV ?_
  apply o_hbsG (cs := [I i]) hD rfl rfl rfl
  intro o23 hn2 hD
  have hg2 : Ext Ga (upd Ga o23 (some (.cells [I i]))) := .upd hn2
  have e23 : upd Ga o23 (some (.cells [I i])) o23 = some (.cells [I i]) := upd_same
  generalize upd Ga o23 (some (.cells [I i])) = Gb at hg2 e23 hD ⊢
  refine tV ?_
  (with_reducible apply o_bool)
  exact rfl
  exact rfl
  exact trivial
  intro bq hq
  obtain rfl : bq = true := by rw [hq]; exact decide_eq_true (by omega)
  refine tV ?_
  (with_reducible apply o_bool)
  exact rfl
  exact rfl
  exact trivial
  intro bq hq
  obtain rfl : bq = false := by rw [hq]; exact decide_eq_false (by omega)
  refine tW ?_
  apply o_alcL hD rfl
  intro b3 hD
  apply o_stL (v := .agg [.str [67, UInt8.ofNat (97 + i)], I (-1), I (-1), .nil .sl, .sl o23 0 1 1, .nil .sl, .nil .sl, I 0, I (-1), .bool false]) (cs' := [.str [67, UInt8.ofNat (97 + i)], I (-1), I (-1), .nil .sl, .sl o23 0 1 1, .nil .sl, .nil .sl, I 0, I (-1), .bool false]) 0 hD rfl rfl rfl rfl rfl rfl rfl rfl
  clear hD
  intro hD
  replace hD : Dis Gb ((b3, .cells [.str [67, UInt8.ofNat (97 + i)], I (-1), I (-1), .nil .sl, .sl o23 0 1 1, .nil .sl, .nil .sl, I 0, I (-1), .bool false]) :: (ic, .cells cs) :: (ig, .cells (List.map (fun k : Nat => I k) (List.range 10))) :: (b1, .cells [.sl ic 0 i 10, vm, I 0, I (-1), .sl ig 0 10 1, vw, vr, vs, vf]) :: (b0, .cells [.nil .sl, .nil .sl, I 0, I 0, .nil .sl, .nil .sl, .nil .sl, .nil .sl, .nil .sl]) :: LB) := hD
  show SOps _ _ _ _ _ _ _ _ _ (hset Gb ((b3, .cells [.str [67, UInt8.ofNat (97 + i)], I (-1), I (-1), .nil .sl, .sl o23 0 1 1, .nil .sl, .nil .sl, I 0, I (-1), .bool false]) :: (ic, .cells cs) :: (ig, .cells (List.map (fun k : Nat => I k) (List.range 10))) :: (b1, .cells [.sl ic 0 i 10, vm, I 0, I (-1), .sl ig 0 10 1, vw, vr, vs, vf]) :: (b0, .cells [.nil .sl, .nil .sl, I 0, I 0, .nil .sl, .nil .sl, .nil .sl, .nil .sl, .nil .sl]) :: LB)) _
  refine tV ?_
  (with_reducible apply o_bool)
  exact rfl
  exact rfl
  exact trivial
  intro bq hq
  obtain rfl : bq = true := by rw [hq]; exact decide_eq_true (by omega)
  refine tV ?_
  apply o_stL (v := I 2) (cs' := [.str [67, UInt8.ofNat (97 + i)], I (-1), I (-1), .nil .sl, .sl o23 0 1 1, .nil .sl, .nil .sl, I 2, I (-1), .bool false]) 0 hD rfl rfl rfl rfl rfl rfl rfl rfl
  clear hD
  intro hD
  replace hD : Dis Gb ((b3, .cells [.str [67, UInt8.ofNat (97 + i)], I (-1), I (-1), .nil .sl, .sl o23 0 1 1, .nil .sl, .nil .sl, I 2, I (-1), .bool false]) :: (ic, .cells cs) :: (ig, .cells (List.map (fun k : Nat => I k) (List.range 10))) :: (b1, .cells [.sl ic 0 i 10, vm, I 0, I (-1), .sl ig 0 10 1, vw, vr, vs, vf]) :: (b0, .cells [.nil .sl, .nil .sl, I 0, I 0, .nil .sl, .nil .sl, .nil .sl, .nil .sl, .nil .sl]) :: LB) := hD
  show SOps _ _ _ _ _ _ _ _ _ (hset Gb ((b3, .cells [.str [67, UInt8.ofNat (97 + i)], I (-1), I (-1), .nil .sl, .sl o23 0 1 1, .nil .sl, .nil .sl, I 2, I (-1), .bool false]) :: (ic, .cells cs) :: (ig, .cells (List.map (fun k : Nat => I k) (List.range 10))) :: (b1, .cells [.sl ic 0 i 10, vm, I 0, I (-1), .sl ig 0 10 1, vw, vr, vs, vf]) :: (b0, .cells [.nil .sl, .nil .sl, I 0, I 0, .nil .sl, .nil .sl, .nil .sl, .nil .sl, .nil .sl]) :: LB)) _
  refine tV ?_
  apply o_stL (v := I 0) (cs' := [.str [67, UInt8.ofNat (97 + i)], I (-1), I (-1), .nil .sl, .sl o23 0 1 1, .nil .sl, .nil .sl, I 2, I 0, .bool false]) 0 hD rfl rfl rfl rfl rfl rfl rfl rfl
  clear hD
  intro hD
  replace hD : Dis Gb ((b3, .cells [.str [67, UInt8.ofNat (97 + i)], I (-1), I (-1), .nil .sl, .sl o23 0 1 1, .nil .sl, .nil .sl, I 2, I 0, .bool false]) :: (ic, .cells cs) :: (ig, .cells (List.map (fun k : Nat => I k) (List.range 10))) :: (b1, .cells [.sl ic 0 i 10, vm, I 0, I (-1), .sl ig 0 10 1, vw, vr, vs, vf]) :: (b0, .cells [.nil .sl, .nil .sl, I 0, I 0, .nil .sl, .nil .sl, .nil .sl, .nil .sl, .nil .sl]) :: LB) := hD
  show SOps _ _ _ _ _ _ _ _ _ (hset Gb ((b3, .cells [.str [67, UInt8.ofNat (97 + i)], I (-1), I (-1), .nil .sl, .sl o23 0 1 1, .nil .sl, .nil .sl, I 2, I 0, .bool false]) :: (ic, .cells cs) :: (ig, .cells (List.map (fun k : Nat => I k) (List.range 10))) :: (b1, .cells [.sl ic 0 i 10, vm, I 0, I (-1), .sl ig 0 10 1, vw, vr, vs, vf]) :: (b0, .cells [.nil .sl, .nil .sl, I 0, I 0, .nil .sl, .nil .sl, .nil .sl, .nil .sl, .nil .sl]) :: LB)) _
  refine tV ?_
  apply o_ldL 3 hD rfl rfl rfl rfl rfl
  apply o_ldnL (l := [.str [67, UInt8.ofNat (97 + i)], I (-1), I (-1), .nil .sl, .sl o23 0 1 1, .nil .sl, .nil .sl, I 2, I 0, .bool false]) 0 hD rfl rfl rfl rfl rfl
  apply o_val (p := [.str [67, UInt8.ofNat (97 + i)], I (-1), I (-1), .nil .sl, .sl o23 0 1 1, .nil .sl, .nil .sl, I 2, I 0, .bool false].length = 1 * 10 ∧ [.str [67, UInt8.ofNat (97 + i)], I (-1), I (-1), .nil .sl, .sl o23 0 1 1, .nil .sl, .nil .sl, I 2, I 0, .bool false].all AV.one = true) (v := .tsl [.str [67, UInt8.ofNat (97 + i)], I (-1), I (-1), .nil .sl, .sl o23 0 1 1, .nil .sl, .nil .sl, I 2, I 0, .bool false] 1) rfl rfl ⟨rfl, rfl⟩
  apply o_appB (old := cs) (new := [.str [67, UInt8.ofNat (97 + i)], I (-1), I (-1), .nil .sl, .sl o23 0 1 1, .nil .sl, .nil .sl, I 2, I 0, .bool false]) (l := i) (n := 1) rfl rfl rfl rfl ((b3, .cells [.str [67, UInt8.ofNat (97 + i)], I (-1), I (-1), .nil .sl, .sl o23 0 1 1, .nil .sl, .nil .sl, I 2, I 0, .bool false]) :: (ig, .cells (List.map (fun k : Nat => I k) (List.range 10))) :: (b1, .cells [.sl ic 0 i 10, vm, I 0, I (-1), .sl ig 0 10 1, vw, vr, vs, vf]) :: (b0, .cells [.nil .sl, .nil .sl, I 0, I 0, .nil .sl, .nil .sl, .nil .sl, .nil .sl, .nil .sl]) :: LB) (.inr ⟨ic, rfl, by rw [hcs.len]; simp, hset_front (k := 1) hD rfl⟩) hD (srcOf_V (.tsl _ _ rfl)) rfl (by decide) rfl (by omega)
  clear hD
  intro jc hD
  refine tV ?_
  apply o_stL (v := .sl jc 0 (i + 1) 10) (cs' := [.sl jc 0 (i + 1) 10, vm, I 0, I (-1), .sl ig 0 10 1, vw, vr, vs, vf]) 3 hD rfl rfl rfl rfl rfl rfl rfl rfl
  clear hD
  intro hD
  replace hD : Dis Gb ((jc, .cells (cs ++ [.str [67, UInt8.ofNat (97 + i)], I (-1), I (-1), .nil .sl, .sl o23 0 1 1, .nil .sl, .nil .sl, I 2, I 0, .bool false])) :: (b3, .cells [.str [67, UInt8.ofNat (97 + i)], I (-1), I (-1), .nil .sl, .sl o23 0 1 1, .nil .sl, .nil .sl, I 2, I 0, .bool false]) :: (ig, .cells (List.map (fun k : Nat => I k) (List.range 10))) :: (b1, .cells [.sl jc 0 (i + 1) 10, vm, I 0, I (-1), .sl ig 0 10 1, vw, vr, vs, vf]) :: (b0, .cells [.nil .sl, .nil .sl, I 0, I 0, .nil .sl, .nil .sl, .nil .sl, .nil .sl, .nil .sl]) :: LB) := hD
  show SOps _ _ _ _ _ _ _ _ _ (hset Gb ((jc, .cells (cs ++ [.str [67, UInt8.ofNat (97 + i)], I (-1), I (-1), .nil .sl, .sl o23 0 1 1, .nil .sl, .nil .sl, I 2, I 0, .bool false])) :: (b3, .cells [.str [67, UInt8.ofNat (97 + i)], I (-1), I (-1), .nil .sl, .sl o23 0 1 1, .nil .sl, .nil .sl, I 2, I 0, .bool false]) :: (ig, .cells (List.map (fun k : Nat => I k) (List.range 10))) :: (b1, .cells [.sl jc 0 (i + 1) 10, vm, I 0, I (-1), .sl ig 0 10 1, vw, vr, vs, vf]) :: (b0, .cells [.nil .sl, .nil .sl, I 0, I 0, .nil .sl, .nil .sl, .nil .sl, .nil .sl, .nil .sl]) :: LB)) _
  refine tW ?_
  rw [w64 (n := (i : Int) + 1) (by omega) (by omega)]
  obtain ⟨f0, hD0⟩ : hset Gb ((jc, .cells (cs ++ [.str [67, UInt8.ofNat (97 + i)], I (-1), I (-1), .nil .sl, .sl o23 0 1 1, .nil .sl, .nil .sl, I 2, I 0, .bool false])) :: (b3, .cells [.str [67, UInt8.ofNat (97 + i)], I (-1), I (-1), .nil .sl, .sl o23 0 1 1, .nil .sl, .nil .sl, I 2, I 0, .bool false]) :: (ig, .cells (List.map (fun k : Nat => I k) (List.range 10))) :: (b1, .cells [.sl jc 0 (i + 1) 10, vm, I 0, I (-1), .sl ig 0 10 1, vw, vr, vs, vf]) :: (b0, .cells [.nil .sl, .nil .sl, I 0, I 0, .nil .sl, .nil .sl, .nil .sl, .nil .sl, .nil .sl]) :: LB) = hset Gb ((b0, .cells [.nil .sl, .nil .sl, I 0, I 0, .nil .sl, .nil .sl, .nil .sl, .nil .sl, .nil .sl]) :: (jc, .cells (cs ++ [.str [67, UInt8.ofNat (97 + i)], I (-1), I (-1), .nil .sl, .sl o23 0 1 1, .nil .sl, .nil .sl, I 2, I 0, .bool false])) :: (b3, .cells [.str [67, UInt8.ofNat (97 + i)], I (-1), I (-1), .nil .sl, .sl o23 0 1 1, .nil .sl, .nil .sl, I 2, I 0, .bool false]) :: (ig, .cells (List.map (fun k : Nat => I k) (List.range 10))) :: (b1, .cells [.sl jc 0 (i + 1) 10, vm, I 0, I (-1), .sl ig 0 10 1, vw, vr, vs, vf]) :: LB) ∧ Dis Gb ((b0, .cells [.nil .sl, .nil .sl, I 0, I 0, .nil .sl, .nil .sl, .nil .sl, .nil .sl, .nil .sl]) :: (jc, .cells (cs ++ [.str [67, UInt8.ofNat (97 + i)], I (-1), I (-1), .nil .sl, .sl o23 0 1 1, .nil .sl, .nil .sl, I 2, I 0, .bool false])) :: (b3, .cells [.str [67, UInt8.ofNat (97 + i)], I (-1), I (-1), .nil .sl, .sl o23 0 1 1, .nil .sl, .nil .sl, I 2, I 0, .bool false]) :: (ig, .cells (List.map (fun k : Nat => I k) (List.range 10))) :: (b1, .cells [.sl jc 0 (i + 1) 10, vm, I 0, I (-1), .sl ig 0 10 1, vw, vr, vs, vf]) :: LB) := hset_front (k := 4) hD rfl
  obtain ⟨f1, hD1⟩ : hset Gb ((b0, .cells [.nil .sl, .nil .sl, I 0, I 0, .nil .sl, .nil .sl, .nil .sl, .nil .sl, .nil .sl]) :: (jc, .cells (cs ++ [.str [67, UInt8.ofNat (97 + i)], I (-1), I (-1), .nil .sl, .sl o23 0 1 1, .nil .sl, .nil .sl, I 2, I 0, .bool false])) :: (b3, .cells [.str [67, UInt8.ofNat (97 + i)], I (-1), I (-1), .nil .sl, .sl o23 0 1 1, .nil .sl, .nil .sl, I 2, I 0, .bool false]) :: (ig, .cells (List.map (fun k : Nat => I k) (List.range 10))) :: (b1, .cells [.sl jc 0 (i + 1) 10, vm, I 0, I (-1), .sl ig 0 10 1, vw, vr, vs, vf]) :: LB) = hset Gb ((b1, .cells [.sl jc 0 (i + 1) 10, vm, I 0, I (-1), .sl ig 0 10 1, vw, vr, vs, vf]) :: (b0, .cells [.nil .sl, .nil .sl, I 0, I 0, .nil .sl, .nil .sl, .nil .sl, .nil .sl, .nil .sl]) :: (jc, .cells (cs ++ [.str [67, UInt8.ofNat (97 + i)], I (-1), I (-1), .nil .sl, .sl o23 0 1 1, .nil .sl, .nil .sl, I 2, I 0, .bool false])) :: (b3, .cells [.str [67, UInt8.ofNat (97 + i)], I (-1), I (-1), .nil .sl, .sl o23 0 1 1, .nil .sl, .nil .sl, I 2, I 0, .bool false]) :: (ig, .cells (List.map (fun k : Nat => I k) (List.range 10))) :: LB) ∧ Dis Gb ((b1, .cells [.sl jc 0 (i + 1) 10, vm, I 0, I (-1), .sl ig 0 10 1, vw, vr, vs, vf]) :: (b0, .cells [.nil .sl, .nil .sl, I 0, I 0, .nil .sl, .nil .sl, .nil .sl, .nil .sl, .nil .sl]) :: (jc, .cells (cs ++ [.str [67, UInt8.ofNat (97 + i)], I (-1), I (-1), .nil .sl, .sl o23 0 1 1, .nil .sl, .nil .sl, I 2, I 0, .bool false])) :: (b3, .cells [.str [67, UInt8.ofNat (97 + i)], I (-1), I (-1), .nil .sl, .sl o23 0 1 1, .nil .sl, .nil .sl, I 2, I 0, .bool false]) :: (ig, .cells (List.map (fun k : Nat => I k) (List.range 10))) :: LB) := hset_front (k := 4) hD0 rfl
  obtain ⟨f2, hD2⟩ : hset Gb ((b1, .cells [.sl jc 0 (i + 1) 10, vm, I 0, I (-1), .sl ig 0 10 1, vw, vr, vs, vf]) :: (b0, .cells [.nil .sl, .nil .sl, I 0, I 0, .nil .sl, .nil .sl, .nil .sl, .nil .sl, .nil .sl]) :: (jc, .cells (cs ++ [.str [67, UInt8.ofNat (97 + i)], I (-1), I (-1), .nil .sl, .sl o23 0 1 1, .nil .sl, .nil .sl, I 2, I 0, .bool false])) :: (b3, .cells [.str [67, UInt8.ofNat (97 + i)], I (-1), I (-1), .nil .sl, .sl o23 0 1 1, .nil .sl, .nil .sl, I 2, I 0, .bool false]) :: (ig, .cells (List.map (fun k : Nat => I k) (List.range 10))) :: LB) = hset Gb ((ig, .cells (List.map (fun k : Nat => I k) (List.range 10))) :: (b1, .cells [.sl jc 0 (i + 1) 10, vm, I 0, I (-1), .sl ig 0 10 1, vw, vr, vs, vf]) :: (b0, .cells [.nil .sl, .nil .sl, I 0, I 0, .nil .sl, .nil .sl, .nil .sl, .nil .sl, .nil .sl]) :: (jc, .cells (cs ++ [.str [67, UInt8.ofNat (97 + i)], I (-1), I (-1), .nil .sl, .sl o23 0 1 1, .nil .sl, .nil .sl, I 2, I 0, .bool false])) :: (b3, .cells [.str [67, UInt8.ofNat (97 + i)], I (-1), I (-1), .nil .sl, .sl o23 0 1 1, .nil .sl, .nil .sl, I 2, I 0, .bool false]) :: LB) ∧ Dis Gb ((ig, .cells (List.map (fun k : Nat => I k) (List.range 10))) :: (b1, .cells [.sl jc 0 (i + 1) 10, vm, I 0, I (-1), .sl ig 0 10 1, vw, vr, vs, vf]) :: (b0, .cells [.nil .sl, .nil .sl, I 0, I 0, .nil .sl, .nil .sl, .nil .sl, .nil .sl, .nil .sl]) :: (jc, .cells (cs ++ [.str [67, UInt8.ofNat (97 + i)], I (-1), I (-1), .nil .sl, .sl o23 0 1 1, .nil .sl, .nil .sl, I 2, I 0, .bool false])) :: (b3, .cells [.str [67, UInt8.ofNat (97 + i)], I (-1), I (-1), .nil .sl, .sl o23 0 1 1, .nil .sl, .nil .sl, I 2, I 0, .bool false]) :: LB) := hset_front (k := 4) hD1 rfl
  obtain ⟨f3, hD3⟩ : hset Gb ((ig, .cells (List.map (fun k : Nat => I k) (List.range 10))) :: (b1, .cells [.sl jc 0 (i + 1) 10, vm, I 0, I (-1), .sl ig 0 10 1, vw, vr, vs, vf]) :: (b0, .cells [.nil .sl, .nil .sl, I 0, I 0, .nil .sl, .nil .sl, .nil .sl, .nil .sl, .nil .sl]) :: (jc, .cells (cs ++ [.str [67, UInt8.ofNat (97 + i)], I (-1), I (-1), .nil .sl, .sl o23 0 1 1, .nil .sl, .nil .sl, I 2, I 0, .bool false])) :: (b3, .cells [.str [67, UInt8.ofNat (97 + i)], I (-1), I (-1), .nil .sl, .sl o23 0 1 1, .nil .sl, .nil .sl, I 2, I 0, .bool false]) :: LB) = hset Gb ((jc, .cells (cs ++ [.str [67, UInt8.ofNat (97 + i)], I (-1), I (-1), .nil .sl, .sl o23 0 1 1, .nil .sl, .nil .sl, I 2, I 0, .bool false])) :: (ig, .cells (List.map (fun k : Nat => I k) (List.range 10))) :: (b1, .cells [.sl jc 0 (i + 1) 10, vm, I 0, I (-1), .sl ig 0 10 1, vw, vr, vs, vf]) :: (b0, .cells [.nil .sl, .nil .sl, I 0, I 0, .nil .sl, .nil .sl, .nil .sl, .nil .sl, .nil .sl]) :: (b3, .cells [.str [67, UInt8.ofNat (97 + i)], I (-1), I (-1), .nil .sl, .sl o23 0 1 1, .nil .sl, .nil .sl, I 2, I 0, .bool false]) :: LB) ∧ Dis Gb ((jc, .cells (cs ++ [.str [67, UInt8.ofNat (97 + i)], I (-1), I (-1), .nil .sl, .sl o23 0 1 1, .nil .sl, .nil .sl, I 2, I 0, .bool false])) :: (ig, .cells (List.map (fun k : Nat => I k) (List.range 10))) :: (b1, .cells [.sl jc 0 (i + 1) 10, vm, I 0, I (-1), .sl ig 0 10 1, vw, vr, vs, vf]) :: (b0, .cells [.nil .sl, .nil .sl, I 0, I 0, .nil .sl, .nil .sl, .nil .sl, .nil .sl, .nil .sl]) :: (b3, .cells [.str [67, UInt8.ofNat (97 + i)], I (-1), I (-1), .nil .sl, .sl o23 0 1 1, .nil .sl, .nil .sl, I 2, I 0, .bool false]) :: LB) := hset_front (k := 3) hD2 rfl
  have hcl : RCls Gb [.str [67, UInt8.ofNat (97 + i)], I (-1), I (-1), .nil .sl, .sl o23 0 1 1, .nil .sl, .nil .sl, I 2, I 0, .bool false] (smallC i) := ⟨_, _, _, _, (by rw [hi10]; rfl), .nil, ⟨_, .sl o23 0 1 _ _ e23 rfl, .one rfl rfl⟩, .nil, .nil⟩
  rw [f0, f1, f2, f3]
  have hbx2 : ∀ b ∈ b3 :: bx, b = b1 ∨ b = b0 ∨ ∃ o, (b, o) ∈ (b3, .cells [.str [67, UInt8.ofNat (97 + i)], I (-1), I (-1), .nil .sl, .sl o23 0 1 1, .nil .sl, .nil .sl, I 2, I 0, .bool false]) :: LB := fun b hb => by
   rcases List.mem_cons.1 hb with rfl | hb
   ·exact .inr (.inr ⟨_, .head _⟩)
   ·rcases hbx b hb with h | h | ⟨o, h⟩
    ·exact .inl h
    ·exact .inr (.inl h)
    ·exact .inr (.inr ⟨o, .tail _ h⟩)
  obtain rfl : i = 10 := hi10
  refine ⟨(10 + 1, Gb, _, b3 :: bx), ?_, tU, rfl, rfl, hD3, hGG.trans (hg.trans hg2), by omega, [_, _], _, _, _, rfl, hbx2, .inr ⟨by omega, jc, ig, cs ++ [.str [67, UInt8.ofNat (97 + 10)], I (-1), I (-1), .nil .sl, .sl o23 0 1 1, .nil .sl, .nil .sl, I 2, I 0, .bool false], ?_, ?_, ?_, ?_⟩⟩
  ·simp only; omega
  ·rfl
  ·rfl
  ·rfl
  ·rw [range_map_succ]; exact (hcs.imp fun c a => RCls.mono _ _ c a (hg.trans hg2)).append (.one rfl hcl)
 have hm1 : min i 10 = i := by omega
 rw [hm1] at hD ⊢
 replace hD : Dis G ((ic, .cells cs) :: (ig, .cells (List.map (fun k : Nat => I k) (List.range i))) :: (b1, .cells [.sl ic 0 i 10, vm, I 0, I (-1), .sl ig 0 i 1, vw, vr, vs, vf]) :: (b0, .cells [.nil .sl, .nil .sl, I 0, I 0, .nil .sl, .nil .sl, .nil .sl, .nil .sl, .nil .sl]) :: LB) := hD
 show SOps _ _ _ _ _ _ _ _ _ (hset G ((ic, .cells cs) :: (ig, .cells (List.map (fun k : Nat => I k) (List.range i))) :: (b1, .cells [.sl ic 0 i 10, vm, I 0, I (-1), .sl ig 0 i 1, vw, vr, vs, vf]) :: (b0, .cells [.nil .sl, .nil .sl, I 0, I 0, .nil .sl, .nil .sl, .nil .sl, .nil .sl, .nil .sl]) :: LB)) _
 refine tV ?_
 (refine tG ?_; (with_reducible apply o_addN (a := 97) (b := i)); exact rfl; exact rfl; exact rfl; exact w64 (by omega) (by omega))
 apply o_as rfl rfl trivial (cvb (97 + i))
 apply o_hbsG (cs := ubs [67, UInt8.ofNat (97 + i)]) hD rfl rfl rfl
 intro o20 hn hD
 have hg : Ext G (upd G o20 (some (.cells (ubs [67, UInt8.ofNat (97 + i)])))) := .upd hn
 have e20 : upd G o20 (some (.cells (ubs [67, UInt8.ofNat (97 + i)]))) o20 = some (.cells (ubs [67, UInt8.ofNat (97 + i)])) := upd_same
 generalize upd G o20 (some (.cells (ubs [67, UInt8.ofNat (97 + i)]))) = Ga at hg e20 hD ⊢
 apply o_b2sV (bs := [67, UInt8.ofNat (97 + i)]) rfl rfl (.sl o20 0 2 _ _ (ext_hset hD _ _ e20) rfl) (fun h => by omega)
 refine tV ?_
 apply o_hbsG (cs := [I i]) hD rfl rfl rfl
 intro o23 hn2 hD
 have hg2 : Ext Ga (upd Ga o23 (some (.cells [I i]))) := .upd hn2
 have e23 : upd Ga o23 (some (.cells [I i])) o23 = some (.cells [I i]) := upd_same
 generalize upd Ga o23 (some (.cells [I i])) = Gb at hg2 e23 hD ⊢
 refine tV ?_
 (with_reducible apply o_bool)
 exact rfl
 exact rfl
 exact trivial
 intro bq hq
 obtain rfl : bq = true := by rw [hq]; exact decide_eq_true (by omega)
 refine tV ?_
 (with_reducible apply o_bool)
 exact rfl
 exact rfl
 exact trivial
 intro bq hq
 obtain rfl : bq = true := by rw [hq]; exact decide_eq_true (by omega)
 refine tW ?_
 apply o_alcL hD rfl
 intro b3 hD
 apply o_stL (v := .agg [.str [67, UInt8.ofNat (97 + i)], I (-1), I (-1), .nil .sl, .sl o23 0 1 1, .nil .sl, .nil .sl, I 0, I (-1), .bool true]) (cs' := [.str [67, UInt8.ofNat (97 + i)], I (-1), I (-1), .nil .sl, .sl o23 0 1 1, .nil .sl, .nil .sl, I 0, I (-1), .bool true]) 0 hD rfl rfl rfl rfl rfl rfl rfl rfl
 clear hD
 intro hD
 replace hD : Dis Gb ((b3, .cells [.str [67, UInt8.ofNat (97 + i)], I (-1), I (-1), .nil .sl, .sl o23 0 1 1, .nil .sl, .nil .sl, I 0, I (-1), .bool true]) :: (ic, .cells cs) :: (ig, .cells (List.map (fun k : Nat => I k) (List.range i))) :: (b1, .cells [.sl ic 0 i 10, vm, I 0, I (-1), .sl ig 0 i 1, vw, vr, vs, vf]) :: (b0, .cells [.nil .sl, .nil .sl, I 0, I 0, .nil .sl, .nil .sl, .nil .sl, .nil .sl, .nil .sl]) :: LB) := hD
 show SOps _ _ _ _ _ _ _ _ _ (hset Gb ((b3, .cells [.str [67, UInt8.ofNat (97 + i)], I (-1), I (-1), .nil .sl, .sl o23 0 1 1, .nil .sl, .nil .sl, I 0, I (-1), .bool true]) :: (ic, .cells cs) :: (ig, .cells (List.map (fun k : Nat => I k) (List.range i))) :: (b1, .cells [.sl ic 0 i 10, vm, I 0, I (-1), .sl ig 0 i 1, vw, vr, vs, vf]) :: (b0, .cells [.nil .sl, .nil .sl, I 0, I 0, .nil .sl, .nil .sl, .nil .sl, .nil .sl, .nil .sl]) :: LB)) _
 refine tV ?_
 (with_reducible apply o_bool)
 exact rfl
 exact rfl
 exact trivial
 intro bq hq
 obtain rfl : bq = false := by rw [hq]; exact decide_eq_false (by omega)
 refine tV ?_
 apply o_ldL 3 hD rfl rfl rfl rfl rfl
 refine tV ?_
 apply o_val (v := .tsl [I i] 1) rfl rfl ⟨rfl, rfl⟩
 apply o_appB (old := (List.map (fun k : Nat => I k) (List.range i))) (new := [I i]) (l := i) (n := 1) rfl rfl rfl rfl ((b3, .cells [.str [67, UInt8.ofNat (97 + i)], I (-1), I (-1), .nil .sl, .sl o23 0 1 1, .nil .sl, .nil .sl, I 0, I (-1), .bool true]) :: (ic, .cells cs) :: (b1, .cells [.sl ic 0 i 10, vm, I 0, I (-1), .sl ig 0 i 1, vw, vr, vs, vf]) :: (b0, .cells [.nil .sl, .nil .sl, I 0, I 0, .nil .sl, .nil .sl, .nil .sl, .nil .sl, .nil .sl]) :: LB) (.inr ⟨ig, rfl, by simp, hset_front (k := 2) hD rfl⟩) hD (srcOf_V (.tsl _ _ rfl)) rfl (by decide) rfl (by omega)
 clear hD
 intro jg hD
 refine tV ?_
 apply o_stL (v := .sl jg 0 (i + 1) 1) (cs' := [.sl ic 0 i 10, vm, I 0, I (-1), .sl jg 0 (i + 1) 1, vw, vr, vs, vf]) 3 hD rfl rfl rfl rfl rfl rfl rfl rfl
 clear hD
 intro hD
 replace hD : Dis Gb ((jg, .cells ((List.map (fun k : Nat => I k) (List.range i)) ++ [I i])) :: (b3, .cells [.str [67, UInt8.ofNat (97 + i)], I (-1), I (-1), .nil .sl, .sl o23 0 1 1, .nil .sl, .nil .sl, I 0, I (-1), .bool true]) :: (ic, .cells cs) :: (b1, .cells [.sl ic 0 i 10, vm, I 0, I (-1), .sl jg 0 (i + 1) 1, vw, vr, vs, vf]) :: (b0, .cells [.nil .sl, .nil .sl, I 0, I 0, .nil .sl, .nil .sl, .nil .sl, .nil .sl, .nil .sl]) :: LB) := hD
 show SOps _ _ _ _ _ _ _ _ _ (hset Gb ((jg, .cells ((List.map (fun k : Nat => I k) (List.range i)) ++ [I i])) :: (b3, .cells [.str [67, UInt8.ofNat (97 + i)], I (-1), I (-1), .nil .sl, .sl o23 0 1 1, .nil .sl, .nil .sl, I 0, I (-1), .bool true]) :: (ic, .cells cs) :: (b1, .cells [.sl ic 0 i 10, vm, I 0, I (-1), .sl jg 0 (i + 1) 1, vw, vr, vs, vf]) :: (b0, .cells [.nil .sl, .nil .sl, I 0, I 0, .nil .sl, .nil .sl, .nil .sl, .nil .sl, .nil .sl]) :: LB)) _
 refine tV ?_
 apply o_ldL 3 hD rfl rfl rfl rfl rfl
 apply o_ldnL (l := [.str [67, UInt8.ofNat (97 + i)], I (-1), I (-1), .nil .sl, .sl o23 0 1 1, .nil .sl, .nil .sl, I 0, I (-1), .bool true]) 1 hD rfl rfl rfl rfl rfl
 apply o_val (p := [.str [67, UInt8.ofNat (97 + i)], I (-1), I (-1), .nil .sl, .sl o23 0 1 1, .nil .sl, .nil .sl, I 0, I (-1), .bool true].length = 1 * 10 ∧ [.str [67, UInt8.ofNat (97 + i)], I (-1), I (-1), .nil .sl, .sl o23 0 1 1, .nil .sl, .nil .sl, I 0, I (-1), .bool true].all AV.one = true) (v := .tsl [.str [67, UInt8.ofNat (97 + i)], I (-1), I (-1), .nil .sl, .sl o23 0 1 1, .nil .sl, .nil .sl, I 0, I (-1), .bool true] 1) rfl rfl ⟨rfl, rfl⟩
 apply o_appB (old := cs) (new := [.str [67, UInt8.ofNat (97 + i)], I (-1), I (-1), .nil .sl, .sl o23 0 1 1, .nil .sl, .nil .sl, I 0, I (-1), .bool true]) (l := i) (n := 1) rfl rfl rfl rfl ((jg, .cells ((List.map (fun k : Nat => I k) (List.range i)) ++ [I i])) :: (b3, .cells [.str [67, UInt8.ofNat (97 + i)], I (-1), I (-1), .nil .sl, .sl o23 0 1 1, .nil .sl, .nil .sl, I 0, I (-1), .bool true]) :: (b1, .cells [.sl ic 0 i 10, vm, I 0, I (-1), .sl jg 0 (i + 1) 1, vw, vr, vs, vf]) :: (b0, .cells [.nil .sl, .nil .sl, I 0, I 0, .nil .sl, .nil .sl, .nil .sl, .nil .sl, .nil .sl]) :: LB) (.inr ⟨ic, rfl, by rw [hcs.len]; simp, hset_front (k := 2) hD rfl⟩) hD (srcOf_V (.tsl _ _ rfl)) rfl (by decide) rfl (by omega)
 clear hD
 intro jc hD
 refine tV ?_
 apply o_stL (v := .sl jc 0 (i + 1) 10) (cs' := [.sl jc 0 (i + 1) 10, vm, I 0, I (-1), .sl jg 0 (i + 1) 1, vw, vr, vs, vf]) 3 hD rfl rfl rfl rfl rfl rfl rfl rfl
 clear hD
 intro hD
 replace hD : Dis Gb ((jc, .cells (cs ++ [.str [67, UInt8.ofNat (97 + i)], I (-1), I (-1), .nil .sl, .sl o23 0 1 1, .nil .sl, .nil .sl, I 0, I (-1), .bool true])) :: (jg, .cells ((List.map (fun k : Nat => I k) (List.range i)) ++ [I i])) :: (b3, .cells [.str [67, UInt8.ofNat (97 + i)], I (-1), I (-1), .nil .sl, .sl o23 0 1 1, .nil .sl, .nil .sl, I 0, I (-1), .bool true]) :: (b1, .cells [.sl jc 0 (i + 1) 10, vm, I 0, I (-1), .sl jg 0 (i + 1) 1, vw, vr, vs, vf]) :: (b0, .cells [.nil .sl, .nil .sl, I 0, I 0, .nil .sl, .nil .sl, .nil .sl, .nil .sl, .nil .sl]) :: LB) := hD
 show SOps _ _ _ _ _ _ _ _ _ (hset Gb ((jc, .cells (cs ++ [.str [67, UInt8.ofNat (97 + i)], I (-1), I (-1), .nil .sl, .sl o23 0 1 1, .nil .sl, .nil .sl, I 0, I (-1), .bool true])) :: (jg, .cells ((List.map (fun k : Nat => I k) (List.range i)) ++ [I i])) :: (b3, .cells [.str [67, UInt8.ofNat (97 + i)], I (-1), I (-1), .nil .sl, .sl o23 0 1 1, .nil .sl, .nil .sl, I 0, I (-1), .bool true]) :: (b1, .cells [.sl jc 0 (i + 1) 10, vm, I 0, I (-1), .sl jg 0 (i + 1) 1, vw, vr, vs, vf]) :: (b0, .cells [.nil .sl, .nil .sl, I 0, I 0, .nil .sl, .nil .sl, .nil .sl, .nil .sl, .nil .sl]) :: LB)) _
 refine tW ?_
 rw [w64 (n := (i : Int) + 1) (by omega) (by omega)]
 obtain ⟨f0, hD0⟩ : hset Gb ((jc, .cells (cs ++ [.str [67, UInt8.ofNat (97 + i)], I (-1), I (-1), .nil .sl, .sl o23 0 1 1, .nil .sl, .nil .sl, I 0, I (-1), .bool true])) :: (jg, .cells ((List.map (fun k : Nat => I k) (List.range i)) ++ [I i])) :: (b3, .cells [.str [67, UInt8.ofNat (97 + i)], I (-1), I (-1), .nil .sl, .sl o23 0 1 1, .nil .sl, .nil .sl, I 0, I (-1), .bool true]) :: (b1, .cells [.sl jc 0 (i + 1) 10, vm, I 0, I (-1), .sl jg 0 (i + 1) 1, vw, vr, vs, vf]) :: (b0, .cells [.nil .sl, .nil .sl, I 0, I 0, .nil .sl, .nil .sl, .nil .sl, .nil .sl, .nil .sl]) :: LB) = hset Gb ((b0, .cells [.nil .sl, .nil .sl, I 0, I 0, .nil .sl, .nil .sl, .nil .sl, .nil .sl, .nil .sl]) :: (jc, .cells (cs ++ [.str [67, UInt8.ofNat (97 + i)], I (-1), I (-1), .nil .sl, .sl o23 0 1 1, .nil .sl, .nil .sl, I 0, I (-1), .bool true])) :: (jg, .cells ((List.map (fun k : Nat => I k) (List.range i)) ++ [I i])) :: (b3, .cells [.str [67, UInt8.ofNat (97 + i)], I (-1), I (-1), .nil .sl, .sl o23 0 1 1, .nil .sl, .nil .sl, I 0, I (-1), .bool true]) :: (b1, .cells [.sl jc 0 (i + 1) 10, vm, I 0, I (-1), .sl jg 0 (i + 1) 1, vw, vr, vs, vf]) :: LB) ∧ Dis Gb ((b0, .cells [.nil .sl, .nil .sl, I 0, I 0, .nil .sl, .nil .sl, .nil .sl, .nil .sl, .nil .sl]) :: (jc, .cells (cs ++ [.str [67, UInt8.ofNat (97 + i)], I (-1), I (-1), .nil .sl, .sl o23 0 1 1, .nil .sl, .nil .sl, I 0, I (-1), .bool true])) :: (jg, .cells ((List.map (fun k : Nat => I k) (List.range i)) ++ [I i])) :: (b3, .cells [.str [67, UInt8.ofNat (97 + i)], I (-1), I (-1), .nil .sl, .sl o23 0 1 1, .nil .sl, .nil .sl, I 0, I (-1), .bool true]) :: (b1, .cells [.sl jc 0 (i + 1) 10, vm, I 0, I (-1), .sl jg 0 (i + 1) 1, vw, vr, vs, vf]) :: LB) := hset_front (k := 4) hD rfl
 obtain ⟨f1, hD1⟩ : hset Gb ((b0, .cells [.nil .sl, .nil .sl, I 0, I 0, .nil .sl, .nil .sl, .nil .sl, .nil .sl, .nil .sl]) :: (jc, .cells (cs ++ [.str [67, UInt8.ofNat (97 + i)], I (-1), I (-1), .nil .sl, .sl o23 0 1 1, .nil .sl, .nil .sl, I 0, I (-1), .bool true])) :: (jg, .cells ((List.map (fun k : Nat => I k) (List.range i)) ++ [I i])) :: (b3, .cells [.str [67, UInt8.ofNat (97 + i)], I (-1), I (-1), .nil .sl, .sl o23 0 1 1, .nil .sl, .nil .sl, I 0, I (-1), .bool true]) :: (b1, .cells [.sl jc 0 (i + 1) 10, vm, I 0, I (-1), .sl jg 0 (i + 1) 1, vw, vr, vs, vf]) :: LB) = hset Gb ((b1, .cells [.sl jc 0 (i + 1) 10, vm, I 0, I (-1), .sl jg 0 (i + 1) 1, vw, vr, vs, vf]) :: (b0, .cells [.nil .sl, .nil .sl, I 0, I 0, .nil .sl, .nil .sl, .nil .sl, .nil .sl, .nil .sl]) :: (jc, .cells (cs ++ [.str [67, UInt8.ofNat (97 + i)], I (-1), I (-1), .nil .sl, .sl o23 0 1 1, .nil .sl, .nil .sl, I 0, I (-1), .bool true])) :: (jg, .cells ((List.map (fun k : Nat => I k) (List.range i)) ++ [I i])) :: (b3, .cells [.str [67, UInt8.ofNat (97 + i)], I (-1), I (-1), .nil .sl, .sl o23 0 1 1, .nil .sl, .nil .sl, I 0, I (-1), .bool true]) :: LB) ∧ Dis Gb ((b1, .cells [.sl jc 0 (i + 1) 10, vm, I 0, I (-1), .sl jg 0 (i + 1) 1, vw, vr, vs, vf]) :: (b0, .cells [.nil .sl, .nil .sl, I 0, I 0, .nil .sl, .nil .sl, .nil .sl, .nil .sl, .nil .sl]) :: (jc, .cells (cs ++ [.str [67, UInt8.ofNat (97 + i)], I (-1), I (-1), .nil .sl, .sl o23 0 1 1, .nil .sl, .nil .sl, I 0, I (-1), .bool true])) :: (jg, .cells ((List.map (fun k : Nat => I k) (List.range i)) ++ [I i])) :: (b3, .cells [.str [67, UInt8.ofNat (97 + i)], I (-1), I (-1), .nil .sl, .sl o23 0 1 1, .nil .sl, .nil .sl, I 0, I (-1), .bool true]) :: LB) := hset_front (k := 4) hD0 rfl
 obtain ⟨f2, hD2⟩ : hset Gb ((b1, .cells [.sl jc 0 (i + 1) 10, vm, I 0, I (-1), .sl jg 0 (i + 1) 1, vw, vr, vs, vf]) :: (b0, .cells [.nil .sl, .nil .sl, I 0, I 0, .nil .sl, .nil .sl, .nil .sl, .nil .sl, .nil .sl]) :: (jc, .cells (cs ++ [.str [67, UInt8.ofNat (97 + i)], I (-1), I (-1), .nil .sl, .sl o23 0 1 1, .nil .sl, .nil .sl, I 0, I (-1), .bool true])) :: (jg, .cells ((List.map (fun k : Nat => I k) (List.range i)) ++ [I i])) :: (b3, .cells [.str [67, UInt8.ofNat (97 + i)], I (-1), I (-1), .nil .sl, .sl o23 0 1 1, .nil .sl, .nil .sl, I 0, I (-1), .bool true]) :: LB) = hset Gb ((jg, .cells ((List.map (fun k : Nat => I k) (List.range i)) ++ [I i])) :: (b1, .cells [.sl jc 0 (i + 1) 10, vm, I 0, I (-1), .sl jg 0 (i + 1) 1, vw, vr, vs, vf]) :: (b0, .cells [.nil .sl, .nil .sl, I 0, I 0, .nil .sl, .nil .sl, .nil .sl, .nil .sl, .nil .sl]) :: (jc, .cells (cs ++ [.str [67, UInt8.ofNat (97 + i)], I (-1), I (-1), .nil .sl, .sl o23 0 1 1, .nil .sl, .nil .sl, I 0, I (-1), .bool true])) :: (b3, .cells [.str [67, UInt8.ofNat (97 + i)], I (-1), I (-1), .nil .sl, .sl o23 0 1 1, .nil .sl, .nil .sl, I 0, I (-1), .bool true]) :: LB) ∧ Dis Gb ((jg, .cells ((List.map (fun k : Nat => I k) (List.range i)) ++ [I i])) :: (b1, .cells [.sl jc 0 (i + 1) 10, vm, I 0, I (-1), .sl jg 0 (i + 1) 1, vw, vr, vs, vf]) :: (b0, .cells [.nil .sl, .nil .sl, I 0, I 0, .nil .sl, .nil .sl, .nil .sl, .nil .sl, .nil .sl]) :: (jc, .cells (cs ++ [.str [67, UInt8.ofNat (97 + i)], I (-1), I (-1), .nil .sl, .sl o23 0 1 1, .nil .sl, .nil .sl, I 0, I (-1), .bool true])) :: (b3, .cells [.str [67, UInt8.ofNat (97 + i)], I (-1), I (-1), .nil .sl, .sl o23 0 1 1, .nil .sl, .nil .sl, I 0, I (-1), .bool true]) :: LB) := hset_front (k := 3) hD1 rfl
 obtain ⟨f3, hD3⟩ : hset Gb ((jg, .cells ((List.map (fun k : Nat => I k) (List.range i)) ++ [I i])) :: (b1, .cells [.sl jc 0 (i + 1) 10, vm, I 0, I (-1), .sl jg 0 (i + 1) 1, vw, vr, vs, vf]) :: (b0, .cells [.nil .sl, .nil .sl, I 0, I 0, .nil .sl, .nil .sl, .nil .sl, .nil .sl, .nil .sl]) :: (jc, .cells (cs ++ [.str [67, UInt8.ofNat (97 + i)], I (-1), I (-1), .nil .sl, .sl o23 0 1 1, .nil .sl, .nil .sl, I 0, I (-1), .bool true])) :: (b3, .cells [.str [67, UInt8.ofNat (97 + i)], I (-1), I (-1), .nil .sl, .sl o23 0 1 1, .nil .sl, .nil .sl, I 0, I (-1), .bool true]) :: LB) = hset Gb ((jc, .cells (cs ++ [.str [67, UInt8.ofNat (97 + i)], I (-1), I (-1), .nil .sl, .sl o23 0 1 1, .nil .sl, .nil .sl, I 0, I (-1), .bool true])) :: (jg, .cells ((List.map (fun k : Nat => I k) (List.range i)) ++ [I i])) :: (b1, .cells [.sl jc 0 (i + 1) 10, vm, I 0, I (-1), .sl jg 0 (i + 1) 1, vw, vr, vs, vf]) :: (b0, .cells [.nil .sl, .nil .sl, I 0, I 0, .nil .sl, .nil .sl, .nil .sl, .nil .sl, .nil .sl]) :: (b3, .cells [.str [67, UInt8.ofNat (97 + i)], I (-1), I (-1), .nil .sl, .sl o23 0 1 1, .nil .sl, .nil .sl, I 0, I (-1), .bool true]) :: LB) ∧ Dis Gb ((jc, .cells (cs ++ [.str [67, UInt8.ofNat (97 + i)], I (-1), I (-1), .nil .sl, .sl o23 0 1 1, .nil .sl, .nil .sl, I 0, I (-1), .bool true])) :: (jg, .cells ((List.map (fun k : Nat => I k) (List.range i)) ++ [I i])) :: (b1, .cells [.sl jc 0 (i + 1) 10, vm, I 0, I (-1), .sl jg 0 (i + 1) 1, vw, vr, vs, vf]) :: (b0, .cells [.nil .sl, .nil .sl, I 0, I 0, .nil .sl, .nil .sl, .nil .sl, .nil .sl, .nil .sl]) :: (b3, .cells [.str [67, UInt8.ofNat (97 + i)], I (-1), I (-1), .nil .sl, .sl o23 0 1 1, .nil .sl, .nil .sl, I 0, I (-1), .bool true]) :: LB) := hset_front (k := 3) hD2 rfl
 have hcl : RCls Gb [.str [67, UInt8.ofNat (97 + i)], I (-1), I (-1), .nil .sl, .sl o23 0 1 1, .nil .sl, .nil .sl, I 0, I (-1), .bool true] (smallC i) := ⟨_, _, _, _, (by simp only [smallC]; rw [if_neg (by omega), if_neg (by omega), decide_eq_true (show 0 < i by omega), decide_eq_true (show i < 10 by omega)]; rfl), .nil, ⟨_, .sl o23 0 1 _ _ e23 rfl, .one rfl rfl⟩, .nil, .nil⟩
 rw [f0, f1, f2, f3]
 have hbx2 : ∀ b ∈ b3 :: bx, b = b1 ∨ b = b0 ∨ ∃ o, (b, o) ∈ (b3, .cells [.str [67, UInt8.ofNat (97 + i)], I (-1), I (-1), .nil .sl, .sl o23 0 1 1, .nil .sl, .nil .sl, I 0, I (-1), .bool true]) :: LB := fun b hb => by
  rcases List.mem_cons.1 hb with rfl | hb
  ·exact .inr (.inr ⟨_, .head _⟩)
  ·rcases hbx b hb with h | h | ⟨o, h⟩
   ·exact .inl h
   ·exact .inr (.inl h)
   ·exact .inr (.inr ⟨o, .tail _ h⟩)
 have hm2 : min (i + 1) 10 = i + 1 := by omega
 refine ⟨(i + 1, Gb, _, b3 :: bx), ?_, tU, rfl, rfl, hD3, hGG.trans (hg.trans hg2), by omega, [_, _], _, _, _, rfl, hbx2, .inr ⟨by omega, jc, jg, cs ++ [.str [67, UInt8.ofNat (97 + i)], I (-1), I (-1), .nil .sl, .sl o23 0 1 1, .nil .sl, .nil .sl, I 0, I (-1), .bool true], ?_, ?_, ?_, ?_⟩⟩
 ·simp only; omega
 ·rw [hm2, range_map_succ]
 ·rfl
 ·rw [hm2]
 ·rw [range_map_succ]; exact (hcs.imp fun c a => RCls.mono _ _ c a (hg.trans hg2)).append (.one rfl hcl)
theorem p27 {h : Heap} : HCallC Tryz.prog ann 27 [] h fun v h' => Ext h h' ∧ ∃ c, v = .agg c ∧ RImg h' c small :=
 p27w.mono fun _ _ ⟨e, c, _, e1, e2, _⟩ => ⟨e, c, e1, e2⟩
end Go.Proofs
