import Derived.Test.YtmnnmgfjlokmkaaGreatImBegin
import Derived.Test.YtmnnmgfjlokmkaaGreatAbsTac
import Derived.Test.YtmnnmgfjlokmkaaGreatImVal21
import Derived.Test.YtmnnmgfjlokmkaaGreatImCrc
import Derived.Test.YtmnnmgfjlokmkaaGreatImCut
import Derived.Test.YtmnnmgfjlokmkaaGreatAbsLaw
import Derived.Test.YtmnnmgfjlokmkaaGreatAbsTy
section
open Go Go.Abs Go.Proofs.SlimCode Go.Img
namespace Go.Proofs
theorem set_all {α : Type} {p : α → Prop} {l : List α} {k : Nat} {x : α} (h : ∀ a ∈ l, p a) (hx : p x) : ∀ a ∈ l.set k x, p a := fun a ha => (List.mem_or_eq_of_mem_set ha).elim (h a) fun e => e ▸ hx
theorem wf_cls {N : Image} {k : Nat} {x : Cls} (hw : N.WF) (hs : Image.Small N) (h1 : x.WF) (h2 : Cls.Small x) : Image.WF { N with classes := N.classes.set k x } ∧ Image.Small { N with classes := N.classes.set k x } :=
 ⟨{ hw with classes := ⟨by show (N.classes.set k x).length ≤ _; rw [List.length_set]; exact hw.classes.1, set_all hw.classes.2 h1⟩ }, { hs with classes := ⟨by show (N.classes.set k x).length ≤ _; rw [List.length_set]; exact hs.classes.1, set_all hs.classes.2 h2⟩ }⟩
theorem own_cls {vc : AV} {l : List Cls} {Lc : OL} (H : SlL LCls 10 vc l Lc) {k : Nat} (hk : k < l.length) : ∃ i cs L1 L2 vr vs vt vf Lr Ls Lt Lf, vc = .sl i 0 l.length 10 ∧ Lc = (i, .cells cs) :: (L1 ++ ((Lr ++ (Ls ++ (Lt ++ Lf))) ++ L2)) ∧ k * 10 + 10 ≤ cs.length ∧
  SlL (leaf RB) 1 vr l[k].refs Lr ∧ SlL (leaf (RN .i64)) 1 vs l[k].subs Ls ∧ SlL (leaf (RN .i64)) 1 vt l[k].slots Lt ∧ SlL (leaf RPair) 2 vf l[k].faces Lf ∧ (∀ o, o < 10 → cs[k * 10 + o]? = [AV.str l[k].name, I l[k].super, I l[k].init, vr, vs, vt, vf, I l[k].array, I l[k].elem, .bool l[k].thrown][o]?) ∧
  ∀ o v x' M, o < 10 → LCls ([AV.str l[k].name, I l[k].super, I l[k].init, vr, vs, vt, vf, I l[k].array, I l[k].elem, .bool l[k].thrown].set o v) x' M → SlL LCls 10 vc (l.set k x') ((i, .cells (cs.set (k * 10 + o) v)) :: (L1 ++ (M ++ L2))) := by
 obtain ⟨i, cs, L1, Lk, L2, e1, e2, hl, hc, _, hb⟩ := H.focus hk
 obtain ⟨vr, vs, vt, vf, Lr, Ls, Lt, Lf, ec, h1, h2, h3, h4, rfl⟩ := hc
 have hle : k * 10 + 10 ≤ cs.length := by omega
 refine ⟨i, cs, L1, L2, vr, vs, vt, vf, Lr, Ls, Lt, Lf, e1, e2, hle, h1, h2, h3, h4, fun o ho => ?_, fun o v x' M ho hx => ?_⟩
 ·rw [← ec, List.getElem?_take, List.getElem?_drop, if_pos ho]
 ·rw [set_chunk hle ho, ec]
  exact hb _ _ _ (by simp) hx
end Go.Proofs
end
section
open Go Go.Abs Go.Proofs.SlimCode Go.Img
set_option maxRecDepth 100000
namespace Go.Proofs
def vtM : Mth := ⟨0, 2, 2, false, [(3, 1, 0, 0), (37, 0, 3, -1), (40, 0, 1, 4), (20, 4, 0, 0), (46, 0, 0, 0)], [(0, 2, 4, 2)]⟩
def vt : Image := { small with methods := [vtM] }
theorem vt_T {n : Int} (h0 : 0 ≤ n) (h1 : n < 11) : IsT vt n := ⟨h0, by show n < ((small.classes.length : Nat) : Int); simp [small]; omega⟩
theorem valid_vt : ValidP vt := by
 have hv := valid_small
 have hA : IsArr vt 3 0 := ⟨vt_T (by omega) (by omega), rfl⟩
 refine ⟨⟨hv.first.sizes, hv.first.given, hv.first.supers, ⟨⟨⟨by decide, (by decide : (0 : Int) < 1)⟩, (by decide : 0 < 5)⟩, rfl, rfl⟩, .inl rfl⟩, fun i hi => ?_, fun x hx => ?_, (let ⟨l, e, H⟩ := hv.heap; ⟨l, e, ⟨H.1, H.2, H.3, H.4⟩⟩)⟩
 ·have e : vt.classes[i] = smallC i := by simp [vt, small]
  have hl : i < 11 := by have : i < small.classes.length := hi; simpa [small] using this
  rw [e]
  refine ⟨.inl rfl, by simp [smallC], ⟨fun s hs => ?_, fun j hj => ?_, by simp [smallC]⟩, ⟨by simp [smallC], fun s hs => ?_⟩, ⟨fun j hj => ?_, fun s hs => ?_⟩, ?_⟩
  ·obtain rfl : s = (i : Int) := by simpa [smallC] using hs
   exact vt_T (by omega) (by omega)
  ·simp [smallC] at hj
  ·simp [smallC] at hs
  ·simp [smallC] at hj
  ·simp [smallC] at hs
  ·unfold smallC ArrP ElemP
   simp only
   by_cases h : i = 10
   ·simp only [if_pos h]
    exact ⟨by omega, .inl ⟨trivial, vt_T (by omega) (by omega)⟩, .inr rfl⟩
   ·simp only [if_neg h]
    exact ⟨by omega, .inr ⟨by omega, trivial⟩, .inl trivial⟩
 ·obtain rfl : x = vtM := List.mem_singleton.1 hx
  refine ⟨by decide, by decide, by decide, fun _ => ⟨by decide, by decide, .inr (.inl rfl)⟩, fun t ht => ?_, fun i hi => ?_⟩
  ·obtain rfl := List.mem_singleton.1 ht
   exact ⟨by decide, by decide, by decide, .inr (vt_T (n := 2) (by omega) (by omega))⟩
  ·simp only [vtM, List.mem_cons, List.not_mem_nil, or_false] at hi
   rcases hi with rfl | rfl | rfl | rfl | rfl
   ·refine ⟨by decide, ?_, ?_, ?_, ?_, ?_, ?_, ?_, ?_, ?_, ?_, ?_, ?_⟩ <;> intro h <;> simp only [vtM] at h ⊢ <;> omega
   ·refine ⟨by decide, ?_, ?_, fun _ => ⟨hA, .inl rfl⟩, ?_, ?_, ?_, ?_, ?_, ?_, ?_, ?_, ?_⟩ <;> intro h <;> simp only [vtM] at h ⊢ <;> omega
   ·refine ⟨by decide, ?_, ?_, ?_, ?_, fun _ => ⟨by decide, .inr (vt_T (n := 4) (by omega) (by omega))⟩, ?_, ?_, ?_, ?_, ?_, ?_, ?_⟩ <;> intro h <;> simp only [vtM] at h ⊢ <;> omega
   ·refine ⟨by decide, ?_, ?_, ?_, ?_, ?_, ?_, ?_, ?_, ?_, ?_, ?_, ?_⟩ <;> intro h <;> simp only [vtM, List.length_cons, List.length_nil] at h ⊢ <;> omega
   ·refine ⟨by decide, ?_, ?_, ?_, ?_, ?_, ?_, ?_, ?_, ?_, ?_, ?_, ?_⟩ <;> intro h <;> simp only [vtM] at h ⊢ <;> omega
theorem own_one {vm : AV} {x : Mth} {Lm : OL} (H : SlL LMth 6 vm [x] Lm) : ∃ i vc vt Lc Lt, vm = .sl i 0 1 6 ∧ Lm = (i, .cells [I x.args, I x.locals, I x.stack, .bool x.gives, vc, vt]) :: (Lc ++ Lt) := by
 rcases H with ⟨_, h, _⟩ | ⟨i, cs, M, rfl, rfl, C⟩
 ·cases h
 ·cases C with
  | cons hl ha C =>
   cases C with
   | nil =>
    obtain ⟨vc, vt, Lc, Lt, rfl, _, _, rfl⟩ := ha
    exact ⟨i, vc, vt, Lc, Lt, rfl, by rw [List.append_nil, List.append_nil]⟩
theorem one_own {i : Nat} {x : Mth} {c : List AV} {L : OL} (h : LMth c x L) (hl : c.length = 6) : SlL LMth 6 (.sl i 0 1 6) [x] ((i, .cells c) :: L) :=
 .inr ⟨i, c, L, rfl, rfl, by have := ChunksL.cons hl h (.nil (R := LMth) (s := 6)); rwa [List.append_nil, List.append_nil] at this⟩
theorem own_nums {k : IntKind} {v : AV} {l : List Int} {L : OL} (H : SlL (leaf (RN k)) 1 v l L) (h0 : 0 < l.length) : ∃ i, v = .sl i 0 l.length 1 ∧ L = [(i, .cells (nums k l))] := by
 rcases H with ⟨_, rfl, _⟩ | ⟨i, cs, M, rfl, rfl, C⟩
 ·cases h0
 ·obtain rfl := C.leafs
  have := Chunks.map (C.view (leaf_sees (R := RN k)) (h := fun _ => none) fun _ h => nomatch h)
  rw [this]
  exact ⟨i, rfl, rfl⟩
theorem nums_own {k : IntKind} {i : Nat} {l : List Int} {n : Nat} (h : l.length = n) : SlL (leaf (RN k)) 1 (.sl i 0 n 1) l [(i, .cells (nums k l))] := by
 subst h
 exact .inr ⟨i, _, [], rfl, rfl, .of_leaf fun _ => Chunks.of_map⟩
theorem fours_own {i : Nat} {l : List Four} {n : Nat} (h : l.length = n) : SlL (leaf RFour) 4 (.sl i 0 n 4) l [(i, .cells (l.flatMap fun p => [I p.1, I p.2.1, I p.2.2.1, I p.2.2.2]))] := by
 subst h
 refine .inr ⟨i, _, [], rfl, rfl, .of_leaf fun _ => ?_⟩
 induction l with
 | nil => exact .nil
 | cons a l ih => exact .cons (c := [_, _, _, _]) rfl rfl ih
theorem perm4 {a c d : Nat × AObj} (b : Nat × AObj) {R : OL} : List.Perm (a :: b :: c :: d :: R) (c :: d :: b :: a :: R) :=
 ((List.perm_middle (l₁ := [a, b])).trans (.cons _ (List.perm_middle (l₁ := [a, b])))).trans (.cons _ (.cons _ (.swap _ _ _)))
theorem cut_small : small.cut = small := by kernel_rfl
def vtC : List AV := [I 3, I 1, I 0, I 0, I 37, I 0, I 3, I (-1), I 40, I 0, I 1, I 4, I 20, I 4, I 0, I 0, I 46, I 0, I 0, I 0]
abbrev vtW (b8 im oc ot : Nat) (c d e f : List AV) (R : OL) : OL := (b8, .cells c) :: (im, .cells d) :: (oc, .cells e) :: (ot, .cells f) :: R
theorem vt_wf : vt.WF ∧ Image.Small vt := by
 have f : ∀ {a b c d : Int}, I64 a → I64 b → I64 c → I64 d → F64 (a, b, c, d) := fun h1 h2 h3 h4 => ⟨h1, h2, h3, h4⟩
 have n : ∀ {a : Int}, -9223372036854775808 ≤ a → a ≤ 9223372036854775807 → I64 a := i64_of
 refine ⟨{ small_WF with methods := ⟨by simp [vt, Len], fun c h => ?_⟩ }, { small_Small with methods := ⟨by decide, fun c h => ?_⟩ }⟩
 ·obtain rfl := List.mem_singleton.1 h
  refine ⟨n (by decide) (by decide), n (by decide) (by decide), n (by decide) (by decide), ⟨by simp [vtM, Len], fun p hp => ?_⟩, ⟨by simp [vtM, Len], fun p hp => ?_⟩⟩
  ·simp only [vtM, List.mem_cons, List.not_mem_nil, or_false] at hp
   rcases hp with rfl | rfl | rfl | rfl | rfl <;> exact f (n (by decide) (by decide)) (n (by decide) (by decide)) (n (by decide) (by decide)) (n (by decide) (by decide))
  ·obtain rfl := List.mem_singleton.1 hp
   exact f (n (by decide) (by decide)) (n (by decide) (by decide)) (n (by decide) (by decide)) (n (by decide) (by decide))
 ·obtain rfl := List.mem_singleton.1 h
  exact ⟨by decide, by decide⟩
theorem nums_put {k : IntKind} {i r n : Nat} {l : List Int} {x : Int} (h : l.length = n) : SlL (leaf (RN k)) 1 (.sl i 0 n 1) (l.set r x) [(i, .cells ((nums k l).set r (.int k x)))] := by
 have : (nums k l).set r (.int k x) = nums k (l.set r x) := by unfold nums; rw [List.map_set]
 rw [this]
 exact nums_own (by rw [List.length_set]; exact h)
theorem vtM_WF : vtM.WF := vt_wf.1.methods.2 _ (List.mem_singleton.2 rfl)
theorem vt_m {x : Mth} (h : x.WF) (s : Mth.Small x) : Image.WF { vt with methods := [x] } ∧ Image.Small { vt with methods := [x] } :=
 ⟨{ vt_wf.1 with methods := ⟨by show 1 ≤ _; omega, fun c hc => by rw [List.mem_singleton.1 hc]; exact h⟩ }, { vt_wf.2 with methods := ⟨by show 1 ≤ _; omega, fun c hc => by rw [List.mem_singleton.1 hc]; exact s⟩ }⟩
theorem mth_own {im oc ot : Nat} (x : Mth) (hl : x.code.length = 5) (ht : x.traps.length = 1) : SlL LMth 6 (.sl im 0 1 6) [x] ((im, .cells [I x.args, I x.locals, I x.stack, .bool x.gives, .sl oc 0 5 4, .sl ot 0 1 4]) :: ([(oc, .cells (x.code.flatMap fun p => [I p.1, I p.2.1, I p.2.2.1, I p.2.2.2]))] ++ [(ot, .cells (x.traps.flatMap fun p => [I p.1, I p.2.1, I p.2.2.1, I p.2.2.2]))])) :=
 one_own ⟨_, _, _, _, rfl, fours_own hl, fours_own ht, rfl⟩ rfl
theorem vt_trap {r : Nat} {x : Int} (hr : r < 4) (hx : I64 x) : ∃ w : Four, F64 w ∧ sliceL [I x, I 2, I 4, I 0, I 0, I x, I 4, I 0, I 0, I 2, I x, I 0, I 0, I 2, I 4, I x] (r * 4) 4 = some [I w.1, I w.2.1, I w.2.2.1, I w.2.2.2] := by
 have n : ∀ {a : Int}, -9223372036854775808 ≤ a → a ≤ 9223372036854775807 → I64 a := i64_of
 have n0 : I64 0 := n (by decide) (by decide)
 have n2 : I64 2 := n (by decide) (by decide)
 have n4 : I64 4 := n (by decide) (by decide)
 match r, hr with
 | 0, _ => exact ⟨(x, 2, 4, 0), ⟨hx, n2, n4, n0⟩, rfl⟩
 | 1, _ => exact ⟨(0, x, 4, 0), ⟨n0, hx, n4, n0⟩, rfl⟩
 | 2, _ => exact ⟨(0, 2, x, 0), ⟨n0, n2, hx, n0⟩, rfl⟩
 | 3, _ => exact ⟨(0, 2, 4, x), ⟨n0, n2, n4, hx⟩, rfl⟩
theorem vt_poke {q k : Nat} {x : Int} (hq : q < 5) (hk : k < 4) (hx : I64 x) : ∃ l : List Four, l.length = 5 ∧ (∀ p ∈ l, F64 p) ∧ (l.flatMap fun p => [I p.1, I p.2.1, I p.2.2.1, I p.2.2.2]) = vtC.set (q * 4 + k) (I x) := by
 obtain ⟨f, hf⟩ : ∃ f : Nat → Int, f = fun j => if j = q * 4 + k then x else [3, 1, 0, 0, 37, 0, 3, -1, 40, 0, 1, 4, 20, 4, 0, 0, 46, 0, 0, 0].getD j 0 := ⟨_, rfl⟩
 have h64 : ∀ j, I64 (f j) := fun j => by
  rw [hf]
  simp only
  split
  ·exact hx
  ·have : ∀ a ∈ ([3, 1, 0, 0, 37, 0, 3, -1, 40, 0, 1, 4, 20, 4, 0, 0, 46, 0, 0, 0] : List Int), -9223372036854775808 ≤ a ∧ a ≤ 9223372036854775807 := by decide
   rw [List.getD_eq_getElem?_getD]
   cases e : ([3, 1, 0, 0, 37, 0, 3, -1, 40, 0, 1, 4, 20, 4, 0, 0, 46, 0, 0, 0] : List Int)[j]? with
   | none => exact i64_of (by decide) (by decide)
   | some a => exact this a (List.mem_of_getElem? e)
 refine ⟨(List.range 5).map fun i => (f (i * 4), f (i * 4 + 1), f (i * 4 + 2), f (i * 4 + 3)), by simp, fun p hp => ?_, ?_⟩
 ·obtain ⟨i, _, rfl⟩ := List.mem_map.1 hp
  exact ⟨h64 _, h64 _, h64 _, h64 _⟩
 ·rw [hf]
  match q, hq, k, hk with
  | 0, _, 0, _ => rfl
  | 0, _, 1, _ => rfl
  | 0, _, 2, _ => rfl
  | 0, _, 3, _ => rfl
  | 1, _, 0, _ => rfl
  | 1, _, 1, _ => rfl
  | 1, _, 2, _ => rfl
  | 1, _, 3, _ => rfl
  | 2, _, 0, _ => rfl
  | 2, _, 1, _ => rfl
  | 2, _, 2, _ => rfl
  | 2, _, 3, _ => rfl
  | 3, _, 0, _ => rfl
  | 3, _, 1, _ => rfl
  | 3, _, 2, _ => rfl
  | 3, _, 3, _ => rfl
  | 4, _, 0, _ => rfl
  | 4, _, 1, _ => rfl
  | 4, _, 2, _ => rfl
  | 4, _, 3, _ => rfl
set_option maxHeartbeats 4000000 in
theorem p9 {h : Heap} {wh at' x : Int} (_i1 : I64 wh) (i2 : I64 at') (i3 : I64 x) : HCallC Tryz.prog ann 9 [I wh, I at', I x] h fun v h' => v = .bool true ∧ Ext h h' := by
 refine (show Looks _ _ _ _ _ _ from ?_).go
 refine s_look_of rfl Tryz.func9 (frc (by with_unfolding_all rfl)) rfl ?_
 refine tA ?_
 (refine tG ?_; (with_reducible apply o_call); exact rfl; exact rfl; exact rfl; exact p24)
 refine tA ?_
 apply o_as (w := .bool false) rfl rfl trivial rfl
 refine tA ?_
 show SOps _ _ _ _ _ _ _ _ _ (hset h []) _
 apply o_callL dis_nil rfl rfl rfl rfl p27
 rintro _ g0 ⟨hx0, c, rfl, hM⟩ _
 apply o_callL dis_nil rfl rfl rfl rfl (p15s hM (img_wide small_WF))
 rintro _ _ ⟨vc, vm, vg, vw, vr, vs, vf, Lc, Lm, Lg, Lr, Lw, Ls, Lf, G, rfl, hO, hDn, rfl, hx1⟩ _
 rw [cut_small] at hO ⊢
 have hxG := hx0.trans hx1
 clear hM hx0 hx1
 refine tA ?_
 apply o_alcL dis_nil rfl
 intro b8 hD
 have hRN := hO.view (.of_dis hDn)
 apply o_stL (v := .agg (O9 vc vm small.entry small.need vg vw vr vs vf)) (cs' := O9 vc vm small.entry small.need vg vw vr vs vf) 0 hD rfl rfl rfl rfl rfl rfl hRN.one (splice_full rfl)
 intro hD
 obtain ⟨im, yc, yt, Kc, Ky, rfl, rfl⟩ := own_one (show SlL LMth 6 vm [⟨0, 0, 0, false, [(46, 0, 0, 0)], []⟩] Lm from hO.pm)
 obtain ⟨pB, hDm⟩ := hset_perm (show List.Perm (Lc ++ (((im, AObj.cells [I 0, I 0, I 0, .bool false, yc, yt]) :: (Kc ++ Ky)) ++ (Lg ++ (Lr ++ (Lw ++ (Ls ++ Lf)))))) ((im, AObj.cells [I 0, I 0, I 0, .bool false, yc, yt]) :: (Kc ++ (Ky ++ (Lc ++ (Lg ++ (Lr ++ (Lw ++ (Ls ++ Lf)))))))) from by
  have := List.perm_append_comm_assoc Lc ((im, AObj.cells [I 0, I 0, I 0, .bool false, yc, yt]) :: (Kc ++ Ky)) (Lg ++ (Lr ++ (Lw ++ (Ls ++ Lf))))
  simpa only [List.append_assoc, List.cons_append] using this) hDn
 rw [pB] at hD ⊢
 clear pB hDn hRN
 refine tv ?_
 refine tv ?_
 refine tv ?_
 refine s_regL [.A, .B, .A, .B, .A, .A, .A, .A, .A, .A] hD ?_
 refine tZ ?_
 apply x_ldL 0 hD rfl rfl rfl rfl
 refine tZ ?_
 apply x_ldL 0 hD rfl rfl rfl rfl
 apply x_v (v := .ptr im 0) rfl rfl ⟨rfl, by decide, by decide⟩
 refine tZ ?_
 refine x_AL (R := fun E' bx' q => E' = _ ∧ bx' = _ ∧ q = hset G ((im, .cells [I 0, I 2, I 0, .bool false, yc, yt]) :: (Kc ++ (Ky ++ (Lc ++ (Lg ++ (Lr ++ (Lw ++ (Ls ++ Lf)))))))) ∧ Dis G ((im, .cells [I 0, I 2, I 0, .bool false, yc, yt]) :: (Kc ++ (Ky ++ (Lc ++ (Lg ++ (Lr ++ (Lw ++ (Ls ++ Lf))))))))) hD (o_st1L 0 hDm rfl rfl rfl rfl rfl rfl (show 0 + 1 < 6 by decide) fun hDm => o_nil ⟨rfl, rfl, rfl, rfl, hDm⟩) ?_
 rintro _ _ _ ⟨rfl, rfl, rfl, hDm⟩ hD
 apply x_v (v := .ptr im 0) rfl rfl ⟨rfl, by decide, by decide⟩
 refine tZ ?_
 refine x_AL (R := fun E' bx' q => E' = _ ∧ bx' = _ ∧ q = hset G ((im, .cells [I 0, I 2, I 2, .bool false, yc, yt]) :: (Kc ++ (Ky ++ (Lc ++ (Lg ++ (Lr ++ (Lw ++ (Ls ++ Lf)))))))) ∧ Dis G ((im, .cells [I 0, I 2, I 2, .bool false, yc, yt]) :: (Kc ++ (Ky ++ (Lc ++ (Lg ++ (Lr ++ (Lw ++ (Ls ++ Lf))))))))) hD (o_st1L 0 hDm rfl rfl rfl rfl rfl rfl (show 0 + 2 < 6 by decide) fun hDm => o_nil ⟨rfl, rfl, rfl, rfl, hDm⟩) ?_
 rintro _ _ _ ⟨rfl, rfl, rfl, hDm⟩ hD
 refine tZ ?_
 have hA := dis_app.2 ⟨hD, hDm⟩
 rw [← hset_app]
 clear hD hDm
 refine tA ?_
 apply o_ldL 0 hA rfl rfl rfl rfl rfl
 apply o_val (v := .agg [I 3, I 1, I 0, I 0]) rfl rfl trivial
 apply o_val (v := .agg [I 37, I 0, I 3, I (-1)]) rfl rfl trivial
 apply o_val (v := .agg [I 40, I 0, I 1, I 4]) rfl rfl trivial
 apply o_val (v := .agg [I 20, I 4, I 0, I 0]) rfl rfl trivial
 apply o_val (v := .agg [I 46, I 0, I 0, I 0]) rfl rfl trivial
 apply o_hbsL (cs := vtC) hA rfl rfl rfl
 intro oc hA
 apply o_val (v := .ptr im 0) rfl rfl ⟨rfl, by decide, by decide⟩
 refine tA ?_
 apply o_st1L 2 hA rfl rfl rfl rfl rfl rfl (show 0 + 4 < 6 by decide)
 intro hA
 refine tA ?_
 apply o_ldL 1 hA rfl rfl rfl rfl rfl
 apply o_val (v := .agg [I 0, I 2, I 4, I 2]) rfl rfl trivial
 apply o_hbsL (cs := [I 0, I 2, I 4, I 2]) hA rfl rfl rfl
 intro ot hA
 apply o_val (v := .ptr im 0) rfl rfl ⟨rfl, by decide, by decide⟩
 refine tA ?_
 apply o_st1L 3 hA rfl rfl rfl rfl rfl rfl (show 0 + 5 < 6 by decide)
 intro hA
 have hO : Own vc (.sl im 0 1 6) vg vw vr vs vf vt Lc ((im, .cells [I 0, I 2, I 2, .bool false, .sl oc 0 5 4, .sl ot 0 1 4]) :: ([(oc, .cells vtC)] ++ [(ot, .cells [I 0, I 2, I 4, I 2])])) Lg Lr Lw Ls Lf :=
  ⟨hO.pc, one_own (x := vtM) ⟨_, _, _, _, rfl, fours_own rfl, fours_own rfl, rfl⟩ rfl, hO.pg, hO.pr, hO.pw, hO.ps, hO.pf⟩
 have pl : 0 < vt.classes.length := by simp [vt, small]
 change Dis G ((ot, .cells [I 0, I 2, I 4, I 2]) :: (oc, .cells vtC) :: (b8, .cells (O9 vc (.sl im 0 1 6) vt.entry vt.need vg vw vr vs vf)) :: (im, .cells [I 0, I 2, I 2, .bool false, .sl oc 0 5 4, .sl ot 0 1 4]) :: (Kc ++ (Ky ++ (Lc ++ (Lg ++ (Lr ++ (Lw ++ (Ls ++ Lf)))))))) at hA
 show SOps _ _ _ _ _ _ _ _ [b8] (hset G ((ot, .cells [I 0, I 2, I 4, I 2]) :: (oc, .cells vtC) :: (b8, .cells (O9 vc (.sl im 0 1 6) vt.entry vt.need vg vw vr vs vf)) :: (im, .cells [I 0, I 2, I 2, .bool false, .sl oc 0 5 4, .sl ot 0 1 4]) :: (Kc ++ (Ky ++ (Lc ++ (Lg ++ (Lr ++ (Lw ++ (Ls ++ Lf))))))))) _
 obtain ⟨pB, hB⟩ := hset_perm (perm4 (oc, AObj.cells vtC)) hA
 rw [pB]
 clear pB hA
 generalize hR : Kc ++ (Ky ++ (Lc ++ (Lg ++ (Lr ++ (Lw ++ (Ls ++ Lf)))))) = R at hB ⊢
 obtain ⟨hE, hEn⟩ := dis_app.1 (show Dis G ([(b8, .cells (O9 vc (.sl im 0 1 6) vt.entry vt.need vg vw vr vs vf))] ++ ((im, .cells [I 0, I 2, I 2, .bool false, .sl oc 0 5 4, .sl ot 0 1 4]) :: (oc, .cells vtC) :: (ot, .cells [I 0, I 2, I 4, I 2]) :: R)) from hB)
 rw [show hset G ((b8, .cells (O9 vc (.sl im 0 1 6) vt.entry vt.need vg vw vr vs vf)) :: (im, .cells [I 0, I 2, I 2, .bool false, .sl oc 0 5 4, .sl ot 0 1 4]) :: (oc, .cells vtC) :: (ot, .cells [I 0, I 2, I 4, I 2]) :: R) = hset (hset G ((im, .cells [I 0, I 2, I 2, .bool false, .sl oc 0 5 4, .sl ot 0 1 4]) :: (oc, .cells vtC) :: (ot, .cells [I 0, I 2, I 4, I 2]) :: R)) [(b8, .cells (O9 vc (.sl im 0 1 6) vt.entry vt.need vg vw vr vs vf))] from hset_app (L := [_])]
 have hv : ∀ H, Has H ((im, .cells [I 0, I 2, I 2, .bool false, .sl oc 0 5 4, .sl ot 0 1 4]) :: (oc, .cells vtC) :: (ot, .cells [I 0, I 2, I 4, I 2]) :: R) → RImg H (O9 vc (.sl im 0 1 6) vt.entry vt.need vg vw vr vs vf) vt := fun H hh => hO.view (by rw [← hR] at hh; simp only [has_app, has_cons, List.cons_append, List.nil_append] at hh ⊢; simp only [hh, and_self])
 clear hB
 refine tA ?_
 apply o_ldnL 0 hE rfl rfl rfl rfl rfl
 apply o_callL hE rfl rfl rfl rfl (p25 (hv _ (.of_dis hEn)) vt_wf.1 (fun x hx => by have := (vt_wf.2.classes.2 x hx).faces; omega)).go
 rintro _ g2 ⟨rfl, hx2⟩ hE
 rw [BP_true valid_vt]
 obtain ⟨G2, rfl, hEn, hx3⟩ := sep_end hEn hx2
 replace hxG := hxG.trans hx3
 clear hx2 hx3
 apply o_as (w := .bool false) rfl rfl trivial rfl
 refine tA ?_
 refine oI (at' < 0) (fun H3 => ?_) (fun H3 => ?_)
 ·refine tA ?_
  apply o_as (w := .bool true) rfl rfl trivial (by rw [decide_eq_true H3])
  refine tA ?_
  exact lret_ret (vs := [.bool true]) rfl rfl rfl (hxG.trans ((ext_hsetD hEn).trans (ext_hsetD hE))) (ids_none hE (hxG.trans (ext_hsetD hEn)))
 obtain ⟨p, rfl⟩ := Int.eq_ofNat_of_zero_le (Int.not_lt.1 H3)
 obtain ⟨k, hk⟩ : ∃ k, k = p % vt.classes.length := ⟨_, rfl⟩
 have hkl : k < vt.classes.length := by rw [hk]; exact Nat.mod_lt _ pl
 obtain ⟨q, hq⟩ : ∃ q, q = p % 5 := ⟨_, rfl⟩
 have hql : q < 5 := by omega
 obtain ⟨ic, cs, L1, L2, xr, xs, xt, xf, Kr, Ks, Kt, Kf, rfl, rfl, hcs, S1, S2, S3, S4, hcg, hcb⟩ := own_cls hO.pc hkl
 have hA := dis_app.2 ⟨hE, hEn⟩
 rw [← hset_app]
 clear hE hEn
 change Dis G2 (vtW b8 im oc ot (O9 (.sl ic 0 vt.classes.length 10) (.sl im 0 1 6) vt.entry vt.need vg vw vr vs vf) [I 0, I 2, I 2, .bool false, .sl oc 0 5 4, .sl ot 0 1 4] vtC [I 0, I 2, I 4, I 2] R) at hA
 show SOps _ _ _ _ _ _ _ _ [b8] (hset G2 (vtW b8 im oc ot (O9 (.sl ic 0 vt.classes.length 10) (.sl im 0 1 6) vt.entry vt.need vg vw vr vs vf) [I 0, I 2, I 2, .bool false, .sl oc 0 5 4, .sl ot 0 1 4] vtC [I 0, I 2, I 4, I 2] R)) _
 refine tA ?_
 refine s_regL [.A, .B, .A, .A, .B, .C, .A, .A, .A, .B, .A, .A, .B, .A, .A, .A, .A, .A] hA ?_
 refine tZ ?_
 apply x_ldL 0 hA rfl rfl rfl rfl
 refine tZ ?_
 apply x_ldL 0 hA rfl rfl rfl rfl
 apply x_vC rfl rfl rfl trivial
 apply x_as (w := I k) rfl rfl (by omega) (by rw [hk]; rfl)
 apply x_as (w := .ptr ic (k * 10)) rfl rfl ⟨rfl, by omega, by omega⟩ (by simp)
 refine tZ ?_
 apply x_ldL 0 hA rfl rfl rfl rfl
 apply x_v (v := .ptr im 0) rfl rfl ⟨rfl, by decide, by decide⟩
 refine tZ ?_
 apply x_ldL 1 hA rfl rfl rfl rfl
 refine tZ ?_
 apply x_as (w := I q) rfl rfl (by decide) (by rw [hq]; rfl)
 apply x_as (w := .ptr oc (q * 4)) rfl rfl ⟨rfl, by omega, by omega⟩ (by simp)
 refine tZ ?_
 refine tv ?_
 obtain ⟨R1, hR1⟩ : ∃ R : OL, R = Kc ++ (Ky ++ (L1 ++ (Kr ++ (Ks ++ (Kt ++ (Kf ++ (L2 ++ (Lg ++ (Lr ++ (Lw ++ (Ls ++ Lf))))))))))) := ⟨_, rfl⟩
 have hRp : List.Perm R ((ic, .cells cs) :: R1) := by
  have := List.perm_middle (a := (ic, AObj.cells cs)) (l₁ := Kc ++ Ky) (l₂ := L1 ++ (Kr ++ (Ks ++ (Kt ++ (Kf ++ (L2 ++ (Lg ++ (Lr ++ (Lw ++ (Ls ++ Lf))))))))))
  rw [← hR, hR1]
  simpa only [List.append_assoc, List.cons_append] using this
 obtain ⟨pB, hA⟩ := hset_perm (List.Perm.cons _ (.cons _ (.cons _ (.cons _ hRp)))) hA
 rw [pB]
 clear pB hRp hv
 have qc := vt_wf.1.classes.2 _ (List.getElem_mem hkl)
 have sc := vt_wf.2.classes.2 _ (List.getElem_mem hkl)
 obtain ⟨s1, s2, s3, s4⟩ : vt.classes[k].refs.length ≤ 10 ∧ vt.classes[k].subs.length ≤ 20 ∧ vt.classes[k].slots.length ≤ 10 ∧ vt.classes[k].faces.length ≤ 6 := by
  have := (img_sharp (m := small)).1
  rw [cut_small] at this
  exact this _ (List.getElem_mem hkl)
 refine s_join (σ := Image × List AV × OL × Heap) (fun _ => [(8, .ptr b8 0)]) (fun s h' => h' = hset s.2.2.2 ((b8, .cells s.2.1) :: s.2.2.1) ∧ Dis s.2.2.2 ((b8, .cells s.2.1) :: s.2.2.1) ∧ Ext h s.2.2.2 ∧ (∀ H, Has H s.2.2.1 → RImg H s.2.1 s.1) ∧ s.1.WF ∧ Image.Small s.1) ?_ ?_
 ·refine tA ?_
  obtain ⟨z, hz, hz9⟩ : ∃ z : Nat, (wh.tmod 22 + 22).tmod 22 = z ∧ z < 22 := by
   have h1 := Int.lt_tmod_of_pos wh (b := 22) (by omega)
   have h2 := Int.tmod_lt_of_pos wh (b := 22) (by omega)
   have h3 : (wh.tmod 22 + 22).tmod 22 = (wh.tmod 22 + 22) % 22 := Int.tmod_eq_emod_of_nonneg (by omega)
   exact ⟨((wh.tmod 22 + 22) % 22).toNat, by omega, by omega⟩
  have h1 := Int.lt_tmod_of_pos wh (b := 22) (by omega)
  have h2 := Int.tmod_lt_of_pos wh (b := 22) (by omega)
  apply o_as (w := I (wh.tmod 22)) rfl rfl (by decide) rfl
  apply o_as (w := I (wh.tmod 22 + 22)) rfl rfl trivial (by rw [w64 (by omega) (by omega)])
  apply o_as (w := I z) rfl rfl (by decide) (by rw [← hz])
  clear hz h1 h2
  refine tA ?_
  refine oI (z = 0) (fun Z => ?_) (fun Z => ?_)
  ·refine tA ?_
   apply o_st1L 4 hA rfl rfl rfl rfl rfl rfl (by omega)
   intro hA
   refine tA ?_
   exact ⟨({ vt with classes := vt.classes.set k { vt.classes[k] with super := x } }, _, _, _), tU, rfl, rfl, hA, hxG, fun H hh => Own.view (m := { vt with classes := vt.classes.set k { vt.classes[k] with super := x } }) ⟨hcb 1 _ { vt.classes[k] with super := x } _ (by decide) ⟨xr, xs, xt, xf, Kr, Ks, Kt, Kf, rfl, S1, S2, S3, S4, rfl⟩, hO.pm, hO.pg, hO.pr, hO.pw, hO.ps, hO.pf⟩ (by simp only [has_app, has_cons, List.cons_append, List.nil_append, List.set_cons_succ, List.set_cons_zero, hR1] at hh ⊢; simp only [hh, and_self]), wf_cls vt_wf.1 vt_wf.2 { qc with super := i3 } ⟨sc.name, sc.refs, sc.subs, sc.slots, sc.faces⟩⟩
  refine tA ?_
  refine oI (z = 1) (fun Z => ?_) (fun Z => ?_)
  ·refine tA ?_
   apply o_st1L 4 hA rfl rfl rfl rfl rfl rfl (by omega)
   intro hA
   refine tA ?_
   exact ⟨({ vt with classes := vt.classes.set k { vt.classes[k] with init := x } }, _, _, _), tU, rfl, rfl, hA, hxG, fun H hh => Own.view (m := { vt with classes := vt.classes.set k { vt.classes[k] with init := x } }) ⟨hcb 2 _ { vt.classes[k] with init := x } _ (by decide) ⟨xr, xs, xt, xf, Kr, Ks, Kt, Kf, rfl, S1, S2, S3, S4, rfl⟩, hO.pm, hO.pg, hO.pr, hO.pw, hO.ps, hO.pf⟩ (by simp only [has_app, has_cons, List.cons_append, List.nil_append, List.set_cons_succ, List.set_cons_zero, hR1] at hh ⊢; simp only [hh, and_self]), wf_cls vt_wf.1 vt_wf.2 { qc with init := i3 } ⟨sc.name, sc.refs, sc.subs, sc.slots, sc.faces⟩⟩
  refine tA ?_
  refine oI (z = 2) (fun Z => ?_) (fun Z => ?_)
  ·refine tA ?_
   apply o_ldL 4 hA rfl rfl rfl rfl (hcg 4 (by decide))
   refine tA ?_
   apply o_val (v := .tsl [I x] 1) rfl rfl ⟨rfl, rfl⟩
   obtain ⟨q1, hB, hK⟩ := pull_out (B := [_, _, _, _, _]) (K := Ks) (M := (Kc ++ (Ky ++ (L1 ++ (Kr)))) ++ (Kt ++ (Kf ++ (L2 ++ (Lg ++ (Lr ++ (Lw ++ (Ls ++ (Lf))))))))) (.cons _ (.cons _ (.cons _ (.cons _ (.cons _ (show R1.Perm (Ks ++ ((Kc ++ (Ky ++ (L1 ++ (Kr)))) ++ (Kt ++ (Kf ++ (L2 ++ (Lg ++ (Lr ++ (Lw ++ (Ls ++ (Lf)))))))))) by have := List.perm_append_comm_assoc (Kc ++ (Ky ++ (L1 ++ (Kr)))) Ks (Kt ++ (Kf ++ (L2 ++ (Lg ++ (Lr ++ (Lw ++ (Ls ++ (Lf)))))))); rw [hR1]; simpa only [List.append_assoc, List.cons_append] using this)))))) hA
   rw [q1]
   obtain ⟨d, O, C⟩ := S2.osl hK
   apply o_appL hB rfl rfl rfl rfl O rfl rfl rfl (by omega)
   intro v h1 O2 hg hB
   refine tA ?_
   apply o_st1L 4 hB rfl rfl rfl rfl rfl O2.ones (by omega)
   intro hB
   refine tA ?_
   obtain ⟨G', Kn, Sn, rfl, hK2, hx2⟩ := sep_back (m := vt.classes[k].subs ++ [x]) (dis_app.1 hK).2 (by rw [List.length_append]; exact O2.weaken hg) (C.snoc (M := []) rfl ⟨fun _ => rfl, rfl⟩)
   exact ⟨({ vt with classes := vt.classes.set k { vt.classes[k] with subs := vt.classes[k].subs ++ [x] } }, _, (im, .cells [I 0, I 2, I 2, .bool false, .sl oc 0 5 4, .sl ot 0 1 4]) :: (oc, .cells vtC) :: (ot, .cells [I 0, I 2, I 4, I 2]) :: (ic, .cells (cs.set (k * 10 + 4) v)) :: (Kn ++ ((Kc ++ (Ky ++ (L1 ++ (Kr)))) ++ (Kt ++ (Kf ++ (L2 ++ (Lg ++ (Lr ++ (Lw ++ (Ls ++ (Lf)))))))))), _), tU, rfl, hset_app.symm, dis_app.2 ⟨hB, hK2⟩, hxG.trans hx2, fun H hh => Own.view (m := { vt with classes := vt.classes.set k { vt.classes[k] with subs := vt.classes[k].subs ++ [x] } }) ⟨hcb 4 v { vt.classes[k] with subs := vt.classes[k].subs ++ [x] } (Kr ++ (Kn ++ (Kt ++ Kf))) (by decide) ⟨xr, v, xt, xf, Kr, Kn, Kt, Kf, rfl, S1, Sn, S3, S4, rfl⟩, hO.pm, hO.pg, hO.pr, hO.pw, hO.ps, hO.pf⟩ (by simp only [has_app, has_cons, List.cons_append, List.nil_append] at hh ⊢; simp only [hh, and_self]), wf_cls vt_wf.1 vt_wf.2 { qc with subs := ⟨by show (_ ++ [_]).length ≤ _; rw [List.length_append]; simp only [List.length_singleton]; omega, fun q hq => (List.mem_append.1 hq).elim (qc.subs.2 q) fun hq => by rw [List.mem_singleton.1 hq]; exact i3⟩ } ⟨sc.name, sc.refs, by show (_ ++ [_]).length ≤ _; rw [List.length_append]; simp only [List.length_singleton]; omega, sc.slots, sc.faces⟩⟩
  refine tA ?_
  refine oI (z = 3) (fun Z => ?_) (fun Z => ?_)
  ·refine tA ?_
   apply o_ldL 4 hA rfl rfl rfl rfl (hcg 5 (by decide))
   refine tA ?_
   apply o_val (v := .tsl [I x] 1) rfl rfl ⟨rfl, rfl⟩
   obtain ⟨q1, hB, hK⟩ := pull_out (B := [_, _, _, _, _]) (K := Kt) (M := (Kc ++ (Ky ++ (L1 ++ (Kr ++ (Ks))))) ++ (Kf ++ (L2 ++ (Lg ++ (Lr ++ (Lw ++ (Ls ++ (Lf)))))))) (.cons _ (.cons _ (.cons _ (.cons _ (.cons _ (show R1.Perm (Kt ++ ((Kc ++ (Ky ++ (L1 ++ (Kr ++ (Ks))))) ++ (Kf ++ (L2 ++ (Lg ++ (Lr ++ (Lw ++ (Ls ++ (Lf))))))))) by have := List.perm_append_comm_assoc (Kc ++ (Ky ++ (L1 ++ (Kr ++ (Ks))))) Kt (Kf ++ (L2 ++ (Lg ++ (Lr ++ (Lw ++ (Ls ++ (Lf))))))); rw [hR1]; simpa only [List.append_assoc, List.cons_append] using this)))))) hA
   rw [q1]
   obtain ⟨d, O, C⟩ := S3.osl hK
   apply o_appL hB rfl rfl rfl rfl O rfl rfl rfl (by omega)
   intro v h1 O2 hg hB
   refine tA ?_
   apply o_st1L 4 hB rfl rfl rfl rfl rfl O2.ones (by omega)
   intro hB
   refine tA ?_
   obtain ⟨G', Kn, Sn, rfl, hK2, hx2⟩ := sep_back (m := vt.classes[k].slots ++ [x]) (dis_app.1 hK).2 (by rw [List.length_append]; exact O2.weaken hg) (C.snoc (M := []) rfl ⟨fun _ => rfl, rfl⟩)
   exact ⟨({ vt with classes := vt.classes.set k { vt.classes[k] with slots := vt.classes[k].slots ++ [x] } }, _, (im, .cells [I 0, I 2, I 2, .bool false, .sl oc 0 5 4, .sl ot 0 1 4]) :: (oc, .cells vtC) :: (ot, .cells [I 0, I 2, I 4, I 2]) :: (ic, .cells (cs.set (k * 10 + 5) v)) :: (Kn ++ ((Kc ++ (Ky ++ (L1 ++ (Kr ++ (Ks))))) ++ (Kf ++ (L2 ++ (Lg ++ (Lr ++ (Lw ++ (Ls ++ (Lf))))))))), _), tU, rfl, hset_app.symm, dis_app.2 ⟨hB, hK2⟩, hxG.trans hx2, fun H hh => Own.view (m := { vt with classes := vt.classes.set k { vt.classes[k] with slots := vt.classes[k].slots ++ [x] } }) ⟨hcb 5 v { vt.classes[k] with slots := vt.classes[k].slots ++ [x] } (Kr ++ (Ks ++ (Kn ++ Kf))) (by decide) ⟨xr, xs, v, xf, Kr, Ks, Kn, Kf, rfl, S1, S2, Sn, S4, rfl⟩, hO.pm, hO.pg, hO.pr, hO.pw, hO.ps, hO.pf⟩ (by simp only [has_app, has_cons, List.cons_append, List.nil_append] at hh ⊢; simp only [hh, and_self]), wf_cls vt_wf.1 vt_wf.2 { qc with slots := ⟨by show (_ ++ [_]).length ≤ _; rw [List.length_append]; simp only [List.length_singleton]; omega, fun q hq => (List.mem_append.1 hq).elim (qc.slots.2 q) fun hq => by rw [List.mem_singleton.1 hq]; exact i3⟩ } ⟨sc.name, sc.refs, sc.subs, by show (_ ++ [_]).length ≤ _; rw [List.length_append]; simp only [List.length_singleton]; omega, sc.faces⟩⟩
  refine tA ?_
  refine oI (z = 4) (fun Z => ?_) (fun Z => ?_)
  ·refine tA ?_
   apply o_ldL 4 hA rfl rfl rfl rfl (hcg 6 (by decide))
   refine tA ?_
   apply o_val (v := .agg [I x, I 0]) rfl rfl trivial
   apply o_val (v := .tsl [I x, I 0] 1) rfl rfl ⟨rfl, rfl⟩
   obtain ⟨q1, hB, hK⟩ := pull_out (B := [_, _, _, _, _]) (K := Kf) (M := (Kc ++ (Ky ++ (L1 ++ (Kr ++ (Ks ++ (Kt)))))) ++ (L2 ++ (Lg ++ (Lr ++ (Lw ++ (Ls ++ (Lf))))))) (.cons _ (.cons _ (.cons _ (.cons _ (.cons _ (show R1.Perm (Kf ++ ((Kc ++ (Ky ++ (L1 ++ (Kr ++ (Ks ++ (Kt)))))) ++ (L2 ++ (Lg ++ (Lr ++ (Lw ++ (Ls ++ (Lf)))))))) by have := List.perm_append_comm_assoc (Kc ++ (Ky ++ (L1 ++ (Kr ++ (Ks ++ (Kt)))))) Kf (L2 ++ (Lg ++ (Lr ++ (Lw ++ (Ls ++ (Lf)))))); rw [hR1]; simpa only [List.append_assoc, List.cons_append] using this)))))) hA
   rw [q1]
   obtain ⟨d, O, C⟩ := S4.osl hK
   apply o_appL hB rfl rfl rfl rfl O rfl rfl rfl (by omega)
   intro v h1 O2 hg hB
   refine tA ?_
   apply o_st1L 4 hB rfl rfl rfl rfl rfl O2.ones (by omega)
   intro hB
   refine tA ?_
   obtain ⟨G', Kn, Sn, rfl, hK2, hx2⟩ := sep_back (m := vt.classes[k].faces ++ [(x, (0 : Int))]) (dis_app.1 hK).2 (by rw [List.length_append]; exact O2.weaken hg) (C.snoc (M := []) rfl ⟨fun _ => rfl, rfl⟩)
   exact ⟨({ vt with classes := vt.classes.set k { vt.classes[k] with faces := vt.classes[k].faces ++ [(x, (0 : Int))] } }, _, (im, .cells [I 0, I 2, I 2, .bool false, .sl oc 0 5 4, .sl ot 0 1 4]) :: (oc, .cells vtC) :: (ot, .cells [I 0, I 2, I 4, I 2]) :: (ic, .cells (cs.set (k * 10 + 6) v)) :: (Kn ++ ((Kc ++ (Ky ++ (L1 ++ (Kr ++ (Ks ++ (Kt)))))) ++ (L2 ++ (Lg ++ (Lr ++ (Lw ++ (Ls ++ (Lf)))))))), _), tU, rfl, hset_app.symm, dis_app.2 ⟨hB, hK2⟩, hxG.trans hx2, fun H hh => Own.view (m := { vt with classes := vt.classes.set k { vt.classes[k] with faces := vt.classes[k].faces ++ [(x, (0 : Int))] } }) ⟨hcb 6 v { vt.classes[k] with faces := vt.classes[k].faces ++ [(x, (0 : Int))] } (Kr ++ (Ks ++ (Kt ++ Kn))) (by decide) ⟨xr, xs, xt, v, Kr, Ks, Kt, Kn, rfl, S1, S2, S3, Sn, rfl⟩, hO.pm, hO.pg, hO.pr, hO.pw, hO.ps, hO.pf⟩ (by simp only [has_app, has_cons, List.cons_append, List.nil_append] at hh ⊢; simp only [hh, and_self]), wf_cls vt_wf.1 vt_wf.2 { qc with faces := ⟨by show (_ ++ [_]).length ≤ _; rw [List.length_append]; simp only [List.length_singleton]; omega, fun q hq => (List.mem_append.1 hq).elim (qc.faces.2 q) fun hq => by rw [List.mem_singleton.1 hq]; exact ⟨i3, show I64 0 from i64_of (by decide) (by decide)⟩⟩ } ⟨sc.name, sc.refs, sc.subs, sc.slots, by show (_ ++ [_]).length ≤ _; rw [List.length_append]; simp only [List.length_singleton]; omega⟩⟩
  refine tA ?_
  refine oI (z = 5) (fun Z => ?_) (fun Z => ?_)
  ·refine tA ?_
   apply o_st1L 4 hA rfl rfl rfl rfl rfl rfl (by omega)
   intro hA
   refine tA ?_
   exact ⟨({ vt with classes := vt.classes.set k { vt.classes[k] with array := x } }, _, _, _), tU, rfl, rfl, hA, hxG, fun H hh => Own.view (m := { vt with classes := vt.classes.set k { vt.classes[k] with array := x } }) ⟨hcb 7 _ { vt.classes[k] with array := x } _ (by decide) ⟨xr, xs, xt, xf, Kr, Ks, Kt, Kf, rfl, S1, S2, S3, S4, rfl⟩, hO.pm, hO.pg, hO.pr, hO.pw, hO.ps, hO.pf⟩ (by simp only [has_app, has_cons, List.cons_append, List.nil_append, List.set_cons_succ, List.set_cons_zero, hR1] at hh ⊢; simp only [hh, and_self]), wf_cls vt_wf.1 vt_wf.2 { qc with array := i3 } ⟨sc.name, sc.refs, sc.subs, sc.slots, sc.faces⟩⟩
  refine tA ?_
  refine oI (z = 6) (fun Z => ?_) (fun Z => ?_)
  ·refine tA ?_
   apply o_st1L 4 hA rfl rfl rfl rfl rfl rfl (by omega)
   intro hA
   refine tA ?_
   exact ⟨({ vt with classes := vt.classes.set k { vt.classes[k] with elem := x } }, _, _, _), tU, rfl, rfl, hA, hxG, fun H hh => Own.view (m := { vt with classes := vt.classes.set k { vt.classes[k] with elem := x } }) ⟨hcb 8 _ { vt.classes[k] with elem := x } _ (by decide) ⟨xr, xs, xt, xf, Kr, Ks, Kt, Kf, rfl, S1, S2, S3, S4, rfl⟩, hO.pm, hO.pg, hO.pr, hO.pw, hO.ps, hO.pf⟩ (by simp only [has_app, has_cons, List.cons_append, List.nil_append, List.set_cons_succ, List.set_cons_zero, hR1] at hh ⊢; simp only [hh, and_self]), wf_cls vt_wf.1 vt_wf.2 { qc with elem := i3 } ⟨sc.name, sc.refs, sc.subs, sc.slots, sc.faces⟩⟩
  refine tA ?_
  refine oI (z = 7) (fun Z => ?_) (fun Z => ?_)
  ·refine tA ?_
   apply o_ldL 4 hA rfl rfl rfl rfl (hcg 3 (by decide))
   refine tA ?_
   apply o_val rfl rfl trivial
   refine oB fun b _ => ?_
   apply o_val (v := .tsl [.bool b] 1) rfl rfl ⟨rfl, rfl⟩
   obtain ⟨q1, hB, hK⟩ := pull_out (B := [_, _, _, _, _]) (K := Kr) (M := (Kc ++ (Ky ++ L1)) ++ (Ks ++ (Kt ++ (Kf ++ (L2 ++ (Lg ++ (Lr ++ (Lw ++ (Ls ++ (Lf)))))))))) (.cons _ (.cons _ (.cons _ (.cons _ (.cons _ (show R1.Perm (Kr ++ ((Kc ++ (Ky ++ L1)) ++ (Ks ++ (Kt ++ (Kf ++ (L2 ++ (Lg ++ (Lr ++ (Lw ++ (Ls ++ (Lf))))))))))) by have := List.perm_append_comm_assoc (Kc ++ (Ky ++ L1)) Kr (Ks ++ (Kt ++ (Kf ++ (L2 ++ (Lg ++ (Lr ++ (Lw ++ (Ls ++ (Lf))))))))); rw [hR1]; simpa only [List.append_assoc, List.cons_append] using this)))))) hA
   rw [q1]
   obtain ⟨d, O, C⟩ := S1.osl hK
   apply o_appL hB rfl rfl rfl rfl O rfl rfl rfl (by omega)
   intro v h1 O2 hg hB
   refine tA ?_
   apply o_st1L 4 hB rfl rfl rfl rfl rfl O2.ones (by omega)
   intro hB
   refine tA ?_
   obtain ⟨G', Kn, Sn, rfl, hK2, hx2⟩ := sep_back (m := vt.classes[k].refs ++ [b]) (dis_app.1 hK).2 (by rw [List.length_append]; exact O2.weaken hg) (C.snoc (M := []) rfl ⟨fun _ => rfl, rfl⟩)
   exact ⟨({ vt with classes := vt.classes.set k { vt.classes[k] with refs := vt.classes[k].refs ++ [b] } }, _, (im, .cells [I 0, I 2, I 2, .bool false, .sl oc 0 5 4, .sl ot 0 1 4]) :: (oc, .cells vtC) :: (ot, .cells [I 0, I 2, I 4, I 2]) :: (ic, .cells (cs.set (k * 10 + 3) v)) :: (Kn ++ ((Kc ++ (Ky ++ L1)) ++ (Ks ++ (Kt ++ (Kf ++ (L2 ++ (Lg ++ (Lr ++ (Lw ++ (Ls ++ (Lf))))))))))), _), tU, rfl, hset_app.symm, dis_app.2 ⟨hB, hK2⟩, hxG.trans hx2, fun H hh => Own.view (m := { vt with classes := vt.classes.set k { vt.classes[k] with refs := vt.classes[k].refs ++ [b] } }) ⟨hcb 3 v { vt.classes[k] with refs := vt.classes[k].refs ++ [b] } (Kn ++ (Ks ++ (Kt ++ Kf))) (by decide) ⟨v, xs, xt, xf, Kn, Ks, Kt, Kf, rfl, Sn, S2, S3, S4, rfl⟩, hO.pm, hO.pg, hO.pr, hO.pw, hO.ps, hO.pf⟩ (by simp only [has_app, has_cons, List.cons_append, List.nil_append] at hh ⊢; simp only [hh, and_self]), wf_cls vt_wf.1 vt_wf.2 { qc with refs := by show (_ ++ [_]).length ≤ _; rw [List.length_append]; simp only [List.length_singleton]; omega } ⟨sc.name, by show (_ ++ [_]).length ≤ _; rw [List.length_append]; simp only [List.length_singleton]; omega, sc.subs, sc.slots, sc.faces⟩⟩
  refine tA ?_
  refine oI (z = 8) (fun Z => ?_) (fun Z => ?_)
  ·refine tA ?_
   apply o_ldL 4 hA rfl rfl rfl rfl (hcg 9 (by decide))
   apply o_val rfl rfl trivial
   refine tA ?_
   apply o_st1L 4 hA rfl rfl rfl rfl rfl rfl (by omega)
   intro hA
   refine tA ?_
   exact ⟨({ vt with classes := vt.classes.set k { vt.classes[k] with thrown := !vt.classes[k].thrown } }, _, _, _), tU, rfl, rfl, hA, hxG, fun H hh => Own.view (m := { vt with classes := vt.classes.set k { vt.classes[k] with thrown := !vt.classes[k].thrown } }) ⟨hcb 9 _ { vt.classes[k] with thrown := !vt.classes[k].thrown } _ (by decide) ⟨xr, xs, xt, xf, Kr, Ks, Kt, Kf, rfl, S1, S2, S3, S4, rfl⟩, hO.pm, hO.pg, hO.pr, hO.pw, hO.ps, hO.pf⟩ (by simp only [has_app, has_cons, List.cons_append, List.nil_append, List.set_cons_succ, List.set_cons_zero, hR1] at hh ⊢; simp only [hh, and_self]), wf_cls vt_wf.1 vt_wf.2 { qc with } ⟨sc.name, sc.refs, sc.subs, sc.slots, sc.faces⟩⟩
  refine tA ?_
  refine oI (z = 9) (fun Z => ?_) (fun Z => ?_)
  ·refine tA ?_
   apply o_ldL 0 hA rfl rfl rfl rfl rfl
   refine tA ?_
   apply o_val (v := .ptr im 0) rfl rfl ⟨rfl, by decide, by decide⟩
   refine tA ?_
   apply o_st1L 1 hA rfl rfl rfl rfl rfl rfl (show 0 + 0 < 6 by decide)
   intro hA
   refine tA ?_
   exact ⟨({ vt with methods := [{ vtM with args := x }] }, _, _, _), tU, rfl, rfl, hA, hxG, fun H hh => Own.view (m := { vt with methods := [{ vtM with args := x }] }) ⟨hO.pc, (show SlL LMth 6 (.sl im 0 1 6) [{ vtM with args := x }] ((im, .cells ([I 0, I 2, I 2, .bool false, .sl oc 0 5 4, .sl ot 0 1 4].set (0 + 0) (I x))) :: ([(oc, .cells vtC)] ++ [(ot, .cells [I 0, I 2, I 4, I 2])])) from mth_own { vtM with args := x } rfl rfl), hO.pg, hO.pr, hO.pw, hO.ps, hO.pf⟩ (by simp only [has_app, has_cons, List.cons_append, List.nil_append, hR1] at hh ⊢; simp only [hh, and_self]), vt_m { vtM_WF with args := i3 } ⟨(by decide : 5 ≤ 31), (by decide : 1 ≤ 4)⟩⟩
  refine tA ?_
  refine oI (z = 10) (fun Z => ?_) (fun Z => ?_)
  ·refine tA ?_
   apply o_ldL 0 hA rfl rfl rfl rfl rfl
   refine tA ?_
   apply o_val (v := .ptr im 0) rfl rfl ⟨rfl, by decide, by decide⟩
   refine tA ?_
   apply o_st1L 1 hA rfl rfl rfl rfl rfl rfl (show 0 + 1 < 6 by decide)
   intro hA
   refine tA ?_
   exact ⟨({ vt with methods := [{ vtM with locals := x }] }, _, _, _), tU, rfl, rfl, hA, hxG, fun H hh => Own.view (m := { vt with methods := [{ vtM with locals := x }] }) ⟨hO.pc, (show SlL LMth 6 (.sl im 0 1 6) [{ vtM with locals := x }] ((im, .cells ([I 0, I 2, I 2, .bool false, .sl oc 0 5 4, .sl ot 0 1 4].set (0 + 1) (I x))) :: ([(oc, .cells vtC)] ++ [(ot, .cells [I 0, I 2, I 4, I 2])])) from mth_own { vtM with locals := x } rfl rfl), hO.pg, hO.pr, hO.pw, hO.ps, hO.pf⟩ (by simp only [has_app, has_cons, List.cons_append, List.nil_append, List.set_cons_succ, List.set_cons_zero, hR1] at hh ⊢; simp only [hh, and_self]), vt_m { vtM_WF with locals := i3 } ⟨(by decide : 5 ≤ 31), (by decide : 1 ≤ 4)⟩⟩
  refine tA ?_
  refine oI (z = 11) (fun Z => ?_) (fun Z => ?_)
  ·refine tA ?_
   apply o_ldL 0 hA rfl rfl rfl rfl rfl
   refine tA ?_
   apply o_val (v := .ptr im 0) rfl rfl ⟨rfl, by decide, by decide⟩
   refine tA ?_
   apply o_st1L 1 hA rfl rfl rfl rfl rfl rfl (show 0 + 2 < 6 by decide)
   intro hA
   refine tA ?_
   exact ⟨({ vt with methods := [{ vtM with stack := x }] }, _, _, _), tU, rfl, rfl, hA, hxG, fun H hh => Own.view (m := { vt with methods := [{ vtM with stack := x }] }) ⟨hO.pc, (show SlL LMth 6 (.sl im 0 1 6) [{ vtM with stack := x }] ((im, .cells ([I 0, I 2, I 2, .bool false, .sl oc 0 5 4, .sl ot 0 1 4].set (0 + 2) (I x))) :: ([(oc, .cells vtC)] ++ [(ot, .cells [I 0, I 2, I 4, I 2])])) from mth_own { vtM with stack := x } rfl rfl), hO.pg, hO.pr, hO.pw, hO.ps, hO.pf⟩ (by simp only [has_app, has_cons, List.cons_append, List.nil_append, List.set_cons_succ, List.set_cons_zero, hR1] at hh ⊢; simp only [hh, and_self]), vt_m { vtM_WF with stack := i3 } ⟨(by decide : 5 ≤ 31), (by decide : 1 ≤ 4)⟩⟩
  refine tA ?_
  refine oI (z = 12) (fun Z => ?_) (fun Z => ?_)
  ·refine tA ?_
   refine s_regL [.A, .B, .A, .B, .A, .A, .B, .A, .A, .A, .D] hA ?_
   refine tZ ?_
   apply x_ldL 0 hA rfl rfl rfl rfl
   refine tZ ?_
   apply x_ldL 0 hA rfl rfl rfl rfl
   apply x_v (v := .ptr im 0) rfl rfl ⟨rfl, by decide, by decide⟩
   refine tZ ?_
   apply x_ldL 1 hA rfl rfl rfl rfl
   apply x_v rfl rfl trivial
   apply x_v (v := .ptr im 0) rfl rfl ⟨rfl, by decide, by decide⟩
   refine tZ ?_
   apply x_st1L 1 hA rfl rfl rfl rfl rfl (show 0 + 3 < 6 by decide)
   intro hA
   refine tZ ?_
   refine tA ?_
   exact ⟨({ vt with methods := [{ vtM with gives := true }] }, _, _, _), tU, rfl, rfl, hA, hxG, fun H hh => Own.view (m := { vt with methods := [{ vtM with gives := true }] }) ⟨hO.pc, (show SlL LMth 6 (.sl im 0 1 6) [{ vtM with gives := true }] ((im, .cells ([I 0, I 2, I 2, .bool false, .sl oc 0 5 4, .sl ot 0 1 4].set (0 + 3) (.bool (!false)))) :: ([(oc, .cells vtC)] ++ [(ot, .cells [I 0, I 2, I 4, I 2])])) from mth_own { vtM with gives := true } rfl rfl), hO.pg, hO.pr, hO.pw, hO.ps, hO.pf⟩ (by simp only [has_app, has_cons, List.cons_append, List.nil_append, List.set_cons_succ, List.set_cons_zero, hR1] at hh ⊢; simp only [hh, and_self]), vt_m { vtM_WF with } ⟨(by decide : 5 ≤ 31), (by decide : 1 ≤ 4)⟩⟩
  refine tA ?_
  refine oI (z = 13) (fun Z => ?_) (fun Z => ?_)
  ·refine tA ?_
   apply o_st1L 2 hA rfl rfl rfl rfl rfl rfl (show q * 4 + 0 < vtC.length by show _ < 20; omega)
   intro hA
   refine tA ?_
   obtain ⟨l, hl, hF, e⟩ := vt_poke hql (show 0 < 4 by decide) i3
   exact ⟨({ vt with methods := [{ vtM with code := l }] }, _, _, _), tU, rfl, rfl, hA, hxG, fun H hh => Own.view (m := { vt with methods := [{ vtM with code := l }] }) ⟨hO.pc, (show SlL LMth 6 (.sl im 0 1 6) [{ vtM with code := l }] ((im, .cells [I 0, I 2, I 2, .bool false, .sl oc 0 5 4, .sl ot 0 1 4]) :: ([(oc, .cells (vtC.set (q * 4 + 0) (I x)))] ++ [(ot, .cells [I 0, I 2, I 4, I 2])])) from by rw [← e]; exact mth_own { vtM with code := l } hl rfl), hO.pg, hO.pr, hO.pw, hO.ps, hO.pf⟩ (by simp only [has_app, has_cons, List.cons_append, List.nil_append, List.set_cons_zero, hR1] at hh ⊢; simp only [hh, and_self]), vt_m { vtM_WF with code := ⟨by show l.length ≤ _; omega, hF⟩ } ⟨by show l.length ≤ _; omega, (by decide : 1 ≤ 4)⟩⟩
  refine tA ?_
  refine oI (z = 14) (fun Z => ?_) (fun Z => ?_)
  ·refine tA ?_
   apply o_st1L 2 hA rfl rfl rfl rfl rfl rfl (show q * 4 + 1 < vtC.length by show _ < 20; omega)
   intro hA
   refine tA ?_
   obtain ⟨l, hl, hF, e⟩ := vt_poke hql (show 1 < 4 by decide) i3
   exact ⟨({ vt with methods := [{ vtM with code := l }] }, _, _, _), tU, rfl, rfl, hA, hxG, fun H hh => Own.view (m := { vt with methods := [{ vtM with code := l }] }) ⟨hO.pc, (show SlL LMth 6 (.sl im 0 1 6) [{ vtM with code := l }] ((im, .cells [I 0, I 2, I 2, .bool false, .sl oc 0 5 4, .sl ot 0 1 4]) :: ([(oc, .cells (vtC.set (q * 4 + 1) (I x)))] ++ [(ot, .cells [I 0, I 2, I 4, I 2])])) from by rw [← e]; exact mth_own { vtM with code := l } hl rfl), hO.pg, hO.pr, hO.pw, hO.ps, hO.pf⟩ (by simp only [has_app, has_cons, List.cons_append, List.nil_append, List.set_cons_zero, hR1] at hh ⊢; simp only [hh, and_self]), vt_m { vtM_WF with code := ⟨by show l.length ≤ _; omega, hF⟩ } ⟨by show l.length ≤ _; omega, (by decide : 1 ≤ 4)⟩⟩
  refine tA ?_
  refine oI (z = 15) (fun Z => ?_) (fun Z => ?_)
  ·refine tA ?_
   apply o_st1L 2 hA rfl rfl rfl rfl rfl rfl (show q * 4 + 2 < vtC.length by show _ < 20; omega)
   intro hA
   refine tA ?_
   obtain ⟨l, hl, hF, e⟩ := vt_poke hql (show 2 < 4 by decide) i3
   exact ⟨({ vt with methods := [{ vtM with code := l }] }, _, _, _), tU, rfl, rfl, hA, hxG, fun H hh => Own.view (m := { vt with methods := [{ vtM with code := l }] }) ⟨hO.pc, (show SlL LMth 6 (.sl im 0 1 6) [{ vtM with code := l }] ((im, .cells [I 0, I 2, I 2, .bool false, .sl oc 0 5 4, .sl ot 0 1 4]) :: ([(oc, .cells (vtC.set (q * 4 + 2) (I x)))] ++ [(ot, .cells [I 0, I 2, I 4, I 2])])) from by rw [← e]; exact mth_own { vtM with code := l } hl rfl), hO.pg, hO.pr, hO.pw, hO.ps, hO.pf⟩ (by simp only [has_app, has_cons, List.cons_append, List.nil_append, List.set_cons_zero, hR1] at hh ⊢; simp only [hh, and_self]), vt_m { vtM_WF with code := ⟨by show l.length ≤ _; omega, hF⟩ } ⟨by show l.length ≤ _; omega, (by decide : 1 ≤ 4)⟩⟩
  refine tA ?_
  refine oI (z = 16) (fun Z => ?_) (fun Z => ?_)
  ·refine tA ?_
   apply o_st1L 2 hA rfl rfl rfl rfl rfl rfl (show q * 4 + 3 < vtC.length by show _ < 20; omega)
   intro hA
   refine tA ?_
   obtain ⟨l, hl, hF, e⟩ := vt_poke hql (show 3 < 4 by decide) i3
   exact ⟨({ vt with methods := [{ vtM with code := l }] }, _, _, _), tU, rfl, rfl, hA, hxG, fun H hh => Own.view (m := { vt with methods := [{ vtM with code := l }] }) ⟨hO.pc, (show SlL LMth 6 (.sl im 0 1 6) [{ vtM with code := l }] ((im, .cells [I 0, I 2, I 2, .bool false, .sl oc 0 5 4, .sl ot 0 1 4]) :: ([(oc, .cells (vtC.set (q * 4 + 3) (I x)))] ++ [(ot, .cells [I 0, I 2, I 4, I 2])])) from by rw [← e]; exact mth_own { vtM with code := l } hl rfl), hO.pg, hO.pr, hO.pw, hO.ps, hO.pf⟩ (by simp only [has_app, has_cons, List.cons_append, List.nil_append, List.set_cons_zero, hR1] at hh ⊢; simp only [hh, and_self]), vt_m { vtM_WF with code := ⟨by show l.length ≤ _; omega, hF⟩ } ⟨by show l.length ≤ _; omega, (by decide : 1 ≤ 4)⟩⟩
  refine tA ?_
  refine oI (z = 17) (fun Z => ?_) (fun Z => ?_)
  ·refine tA ?_
   refine s_regL [.A, .B, .A, .A, .B, .A, .C, .A, .C, .A, .C, .A, .C, .A, .A, .A, .A, .A, .A, .D] hA ?_
   refine tZ ?_
   apply x_ldL 0 hA rfl rfl rfl rfl
   apply x_v (v := .ptr im 0) rfl rfl ⟨rfl, by decide, by decide⟩
   refine tZ ?_
   apply x_ldL 1 hA rfl rfl rfl rfl
   refine tZ ?_
   apply x_vC (v := .agg [I x, I 2, I 4, I 0]) rfl rfl rfl trivial
   refine tZ ?_
   apply x_vC (v := .agg [I 0, I x, I 4, I 0]) rfl rfl rfl trivial
   refine tZ ?_
   apply x_vC (v := .agg [I 0, I 2, I x, I 0]) rfl rfl rfl trivial
   refine tZ ?_
   apply x_vC (v := .agg [I 0, I 2, I 4, I x]) rfl rfl rfl trivial
   apply x_v (v := .tsl [I x, I 2, I 4, I 0, I 0, I x, I 4, I 0, I 0, I 2, I x, I 0, I 0, I 2, I 4, I x] 4) rfl rfl ⟨rfl, rfl⟩
   obtain ⟨r, hr⟩ : ∃ r, r = p % 4 := ⟨_, rfl⟩
   refine tZ ?_
   apply x_as (w := I r) rfl rfl (by decide) (by rw [hr]; rfl)
   apply x_as (w := .tptr [I x, I 2, I 4, I 0, I 0, I x, I 4, I 0, I 0, I 2, I x, I 0, I 0, I 2, I 4, I x] (r * 4)) rfl rfl ⟨by omega, by omega⟩ (by simp)
   obtain ⟨w, hF, hw⟩ := vt_trap (r := r) (by omega) i3
   apply x_ldA rfl rfl (.t _ [I w.1, I w.2.1, I w.2.2.1, I w.2.2.2] (r * 4) hw) (.many rfl rfl)
   apply x_v (v := .ptr ot 0) rfl rfl ⟨rfl, by decide, by decide⟩
   refine tZ ?_
   apply x_stL (v := .agg [I w.1, I w.2.1, I w.2.2.1, I w.2.2.2]) (cs' := [I w.1, I w.2.1, I w.2.2.1, I w.2.2.2]) 3 hA rfl rfl rfl rfl rfl rfl (splice_full rfl)
   intro hA
   refine tZ ?_
   refine tA ?_
   exact ⟨({ vt with methods := [{ vtM with traps := [w] }] }, _, _, _), tU, rfl, rfl, hA, hxG, fun H hh => Own.view (m := { vt with methods := [{ vtM with traps := [w] }] }) ⟨hO.pc, (show SlL LMth 6 (.sl im 0 1 6) [{ vtM with traps := [w] }] ((im, .cells [I 0, I 2, I 2, .bool false, .sl oc 0 5 4, .sl ot 0 1 4]) :: ([(oc, .cells vtC)] ++ [(ot, .cells [I w.1, I w.2.1, I w.2.2.1, I w.2.2.2])])) from mth_own { vtM with traps := [w] } rfl rfl), hO.pg, hO.pr, hO.pw, hO.ps, hO.pf⟩ (by simp only [has_app, has_cons, List.cons_append, List.nil_append, List.set_cons_succ, List.set_cons_zero, hR1] at hh ⊢; simp only [hh, and_self]), vt_m { vtM_WF with traps := ⟨by show 1 ≤ _; omega, fun t ht => by rw [List.mem_singleton.1 ht]; exact hF⟩ } ⟨(by decide : 5 ≤ 31), (by decide : 1 ≤ 4)⟩⟩
  refine tA ?_
  refine oI (z = 18) (fun Z => ?_) (fun Z => ?_)
  ·refine tA ?_
   have hW := hA
   obtain ⟨ig, rfl, rfl⟩ := own_nums hO.pg (by decide)
   apply o_ldL 0 hW rfl rfl rfl rfl rfl
   obtain ⟨r, hr⟩ : ∃ r, r = p % 10 := ⟨_, rfl⟩
   refine tA ?_
   apply o_as (w := I r) rfl rfl (by decide) (by rw [hr]; rfl)
   refine tA ?_
   apply o_as (w := .ptr ig r) rfl rfl ⟨rfl, by omega, by show (r : Int) < 10; omega⟩ (by simp)
   have hp : List.Perm ((im, AObj.cells [I 0, I 2, I 2, .bool false, .sl oc 0 5 4, .sl ot 0 1 4]) :: (oc, .cells vtC) :: (ot, .cells [I 0, I 2, I 4, I 2]) :: (ic, .cells cs) :: R1) ((ig, .cells (nums .i64 vt.given)) :: (im, .cells [I 0, I 2, I 2, .bool false, .sl oc 0 5 4, .sl ot 0 1 4]) :: (oc, .cells vtC) :: (ot, .cells [I 0, I 2, I 4, I 2]) :: (ic, .cells cs) :: ((Kc ++ (Ky ++ (L1 ++ (Kr ++ (Ks ++ (Kt ++ (Kf ++ (L2)))))))) ++ (Lr ++ (Lw ++ (Ls ++ Lf))))) := by
    have := List.perm_middle (a := (ig, AObj.cells (nums .i64 vt.given))) (l₁ := (im, AObj.cells [I 0, I 2, I 2, .bool false, .sl oc 0 5 4, .sl ot 0 1 4]) :: (oc, .cells vtC) :: (ot, .cells [I 0, I 2, I 4, I 2]) :: (ic, .cells cs) :: (Kc ++ (Ky ++ (L1 ++ (Kr ++ (Ks ++ (Kt ++ (Kf ++ (L2))))))))) (l₂ := Lr ++ (Lw ++ (Ls ++ Lf)))
    rw [hR1]
    simpa only [List.append_assoc, List.cons_append, List.nil_append] using this
   obtain ⟨q1, hB⟩ := hset_perm (List.Perm.cons _ hp) hW
   rw [q1]
   apply o_st1L 1 hB rfl rfl rfl rfl rfl rfl (by show r < (nums _ _).length; rw [show (nums _ vt.given).length = 10 from rfl]; omega)
   intro hB
   refine tA ?_
   exact ⟨({ vt with given := vt.given.set r x }, _, _, _), tU, rfl, rfl, hB, hxG, fun H hh => Own.view (m := { vt with given := vt.given.set r x }) ⟨hO.pc, hO.pm, nums_put rfl, hO.pr, hO.pw, hO.ps, hO.pf⟩ (by simp only [has_app, has_cons, List.cons_append, List.nil_append] at hh ⊢; simp only [hh, and_self]), { vt_wf.1 with given := ⟨by show (List.set _ _ _).length ≤ _; rw [List.length_set]; exact vt_wf.1.given.1, set_all vt_wf.1.given.2 i3⟩ }, { vt_wf.2 with given := by show (List.set _ _ _).length ≤ _; rw [List.length_set]; exact vt_wf.2.given }⟩
  refine tA ?_
  refine oI (z = 19) (fun Z => ?_) (fun Z => ?_)
  ·refine tA ?_
   apply o_st1L 0 hA rfl rfl rfl rfl rfl rfl (show 0 + 2 < 9 by decide)
   intro hA
   refine tA ?_
   apply o_val rfl rfl trivial
   refine oB fun b _ => ?_
   cases b
   ·refine tA ?_
    exact ⟨({ vt with entry := x }, _, _, _), tU, rfl, rfl, hA, hxG, fun H hh => Own.view (m := { vt with entry := x }) ⟨hO.pc, hO.pm, hO.pg, hO.pr, hO.pw, hO.ps, hO.pf⟩ (by simp only [has_app, has_cons, List.cons_append, List.nil_append, hR1] at hh ⊢; simp only [hh, and_self]), { vt_wf.1 with entry := i3 }, { vt_wf.2 with }⟩
   ·refine tA ?_
    apply o_st1L 0 hA rfl rfl rfl rfl rfl rfl (show 0 + 2 < 9 by decide)
    intro hA
    refine tA ?_
    apply o_st1L 0 hA rfl rfl rfl rfl rfl rfl (show 0 + 3 < 9 by decide)
    intro hA
    refine tA ?_
    exact ⟨({ vt with entry := 0, need := x }, _, _, _), tU, rfl, rfl, hA, hxG, fun H hh => Own.view (m := { vt with entry := 0, need := x }) ⟨hO.pc, hO.pm, hO.pg, hO.pr, hO.pw, hO.ps, hO.pf⟩ (by simp only [has_app, has_cons, List.cons_append, List.nil_append, hR1] at hh ⊢; simp only [hh, and_self]), { vt_wf.1 with entry := show I64 0 from i64_of (by decide) (by decide), need := i3 }, { vt_wf.2 with }⟩
  refine tA ?_
  refine oI (z = 20) (fun Z => ?_) (fun Z => ?_)
  ·refine tA ?_
   have hW := hA
   obtain ⟨ig, rfl, rfl⟩ := own_nums hO.pw (by decide)
   apply o_ldL 0 hW rfl rfl rfl rfl rfl
   obtain ⟨r, hr⟩ : ∃ r, r = p % 5 := ⟨_, rfl⟩
   refine tA ?_
   apply o_as (w := I r) rfl rfl (by decide) (by rw [hr]; rfl)
   refine tA ?_
   obtain ⟨y, hy, i4⟩ : ∃ y, IntKind.wrap .i32 x = y ∧ I32 y := ⟨_, rfl, by simp [IntKind.wrap, IntKind.bits, IntKind.signed, I32]; omega⟩
   apply o_as (w := .int .i32 y) rfl rfl trivial (by rw [← hy])
   apply o_as (w := .ptr ig r) rfl rfl ⟨rfl, by omega, by show (r : Int) < 5; omega⟩ (by simp)
   have hp : List.Perm ((im, AObj.cells [I 0, I 2, I 2, .bool false, .sl oc 0 5 4, .sl ot 0 1 4]) :: (oc, .cells vtC) :: (ot, .cells [I 0, I 2, I 4, I 2]) :: (ic, .cells cs) :: R1) ((ig, .cells (nums .i32 vt.words)) :: (im, .cells [I 0, I 2, I 2, .bool false, .sl oc 0 5 4, .sl ot 0 1 4]) :: (oc, .cells vtC) :: (ot, .cells [I 0, I 2, I 4, I 2]) :: (ic, .cells cs) :: ((Kc ++ (Ky ++ (L1 ++ (Kr ++ (Ks ++ (Kt ++ (Kf ++ (L2 ++ (Lg ++ Lr))))))))) ++ (Ls ++ Lf))) := by
    have := List.perm_middle (a := (ig, AObj.cells (nums .i32 vt.words))) (l₁ := (im, AObj.cells [I 0, I 2, I 2, .bool false, .sl oc 0 5 4, .sl ot 0 1 4]) :: (oc, .cells vtC) :: (ot, .cells [I 0, I 2, I 4, I 2]) :: (ic, .cells cs) :: (Kc ++ (Ky ++ (L1 ++ (Kr ++ (Ks ++ (Kt ++ (Kf ++ (L2 ++ (Lg ++ Lr)))))))))) (l₂ := Ls ++ Lf)
    rw [hR1]
    simpa only [List.append_assoc, List.cons_append, List.nil_append] using this
   obtain ⟨q1, hB⟩ := hset_perm (List.Perm.cons _ hp) hW
   rw [q1]
   apply o_st1L 1 hB rfl rfl rfl rfl rfl rfl (by show r < (nums _ _).length; rw [show (nums _ vt.words).length = 5 from rfl]; omega)
   intro hB
   refine tA ?_
   exact ⟨({ vt with words := vt.words.set r y }, _, _, _), tU, rfl, rfl, hB, hxG, fun H hh => Own.view (m := { vt with words := vt.words.set r y }) ⟨hO.pc, hO.pm, hO.pg, hO.pr, nums_put rfl, hO.ps, hO.pf⟩ (by simp only [has_app, has_cons, List.cons_append, List.nil_append] at hh ⊢; simp only [hh, and_self]), { vt_wf.1 with words := ⟨by show (List.set _ _ _).length ≤ _; rw [List.length_set]; exact vt_wf.1.words.1, set_all vt_wf.1.words.2 i4⟩ }, { vt_wf.2 with words := by show (List.set _ _ _).length ≤ _; rw [List.length_set]; exact vt_wf.2.words }⟩
  refine tA ?_
  have hW := hA
  obtain ⟨ig, rfl, rfl⟩ := own_nums hO.ps (by decide)
  apply o_ldL 0 hW rfl rfl rfl rfl rfl
  obtain ⟨r, hr⟩ : ∃ r, r = p % 2 := ⟨_, rfl⟩
  refine tA ?_
  apply o_as (w := I r) rfl rfl (by decide) (by rw [hr]; rfl)
  refine tA ?_
  obtain ⟨y, hy, i4⟩ : ∃ y, IntKind.wrap .i32 x = y ∧ I32 y := ⟨_, rfl, by simp [IntKind.wrap, IntKind.bits, IntKind.signed, I32]; omega⟩
  apply o_as (w := .int .i32 y) rfl rfl trivial (by rw [← hy])
  apply o_as (w := .ptr ig r) rfl rfl ⟨rfl, by omega, by show (r : Int) < 2; omega⟩ (by simp)
  have hp : List.Perm ((im, AObj.cells [I 0, I 2, I 2, .bool false, .sl oc 0 5 4, .sl ot 0 1 4]) :: (oc, .cells vtC) :: (ot, .cells [I 0, I 2, I 4, I 2]) :: (ic, .cells cs) :: R1) ((ig, .cells (nums .i32 vt.stat)) :: (im, .cells [I 0, I 2, I 2, .bool false, .sl oc 0 5 4, .sl ot 0 1 4]) :: (oc, .cells vtC) :: (ot, .cells [I 0, I 2, I 4, I 2]) :: (ic, .cells cs) :: ((Kc ++ (Ky ++ (L1 ++ (Kr ++ (Ks ++ (Kt ++ (Kf ++ (L2 ++ (Lg ++ (Lr ++ Lw)))))))))) ++ (Lf))) := by
   have := List.perm_middle (a := (ig, AObj.cells (nums .i32 vt.stat))) (l₁ := (im, AObj.cells [I 0, I 2, I 2, .bool false, .sl oc 0 5 4, .sl ot 0 1 4]) :: (oc, .cells vtC) :: (ot, .cells [I 0, I 2, I 4, I 2]) :: (ic, .cells cs) :: (Kc ++ (Ky ++ (L1 ++ (Kr ++ (Ks ++ (Kt ++ (Kf ++ (L2 ++ (Lg ++ (Lr ++ Lw))))))))))) (l₂ := Lf)
   rw [hR1]
   simpa only [List.append_assoc, List.cons_append, List.nil_append] using this
  obtain ⟨q1, hB⟩ := hset_perm (List.Perm.cons _ hp) hW
  rw [q1]
  apply o_st1L 1 hB rfl rfl rfl rfl rfl rfl (by show r < (nums _ _).length; rw [show (nums _ vt.stat).length = 2 from rfl]; omega)
  intro hB
  refine tA ?_
  exact ⟨({ vt with stat := vt.stat.set r y }, _, _, _), tU, rfl, rfl, hB, hxG, fun H hh => Own.view (m := { vt with stat := vt.stat.set r y }) ⟨hO.pc, hO.pm, hO.pg, hO.pr, hO.pw, nums_put rfl, hO.pf⟩ (by simp only [has_app, has_cons, List.cons_append, List.nil_append] at hh ⊢; simp only [hh, and_self]), { vt_wf.1 with stat := ⟨by show (List.set _ _ _).length ≤ _; rw [List.length_set]; exact vt_wf.1.stat.1, set_all vt_wf.1.stat.2 i4⟩ }, { vt_wf.2 with stat := by show (List.set _ _ _).length ≤ _; rw [List.length_set]; exact vt_wf.2.stat }⟩
 clear hA hR1 hO S1 S2 S3 S4 hcg hcb qc sc s1 s2 s3 s4 hxG hk hq hkl hql hcs
 rintro ⟨n, cn, Ln, G⟩ _ ⟨rfl, hD, hxG, hv, hwn, hsn⟩
 simp only at hD hxG hv hwn hsn ⊢
 obtain ⟨hE, hEn⟩ := dis_app.1 (show Dis G ([(b8, .cells cn)] ++ Ln) from hD)
 have hRn := hv _ (.of_dis hEn)
 have hR0 := hRn
 obtain ⟨wc, wm, wg, ww, wr, ws, wf, rfl, _⟩ := hR0
 rw [show hset G ((b8, .cells [wc, wm, I n.entry, I n.need, wg, ww, wr, ws, wf]) :: Ln) = hset (hset G Ln) [(b8, .cells [wc, wm, I n.entry, I n.need, wg, ww, wr, ws, wf])] from hset_app (L := [_])]
 replace hxG := hxG.trans (ext_hsetD hEn)
 clear hD hEn
 refine tA ?_
 refine s_regL [.B, .A, .B, .A, .A, .A] hE ?_
 apply x_ldnL 0 hE rfl rfl rfl rfl
 apply x_callL hE rfl rfl rfl (p25 hRn hwn (fun x hx => by have := (hsn.classes.2 x hx).faces; omega)).go
 rintro _ G2 ⟨rfl, hy⟩ hE
 apply x_ldnL 0 hE rfl rfl rfl rfl
 apply x_callL hE rfl rfl rfl (p26 (RImg.mono _ _ _ _ hy hRn) hwn).go
 rintro _ G3 ⟨rfl, hz⟩ hE
 apply x_as (w := .bool true) rfl rfl trivial (by simp)
 refine tZ ?_
 refine tA ?_
 exact lret_ret (vs := [.bool true]) rfl rfl rfl ((hxG.trans (hy.trans hz)).trans (ext_hsetD hE)) (ids_none hE (hxG.trans (hy.trans hz)))
end Go.Proofs
end
section
open Go Go.Abs Go.Img
namespace Go.Proofs
set_option maxRecDepth 100000
theorem wf_i64 {n : Int} (h : (Lit.int .i64 n).wf = true) : I64 n := by
 simp [Lit.wf, IntKind.min, IntKind.max, IntKind.bits, IntKind.signed] at h
 unfold I64
 omega
theorem extok : ExtOK Tryz.prog SlimCode.ann := by
 intro f e h
 cases h
end Go.Proofs
end
section
open Go Go.Abs Go.Proofs.SlimCode Go.Img
namespace Go.Proofs
set_option maxRecDepth 100000
theorem run_of_h {A : Ann} {P : Program} {f : Nat} {vs : List AV} {Q : Heap → Prop} (h : HCallC P A f vs (fun _ => none) fun v h' => v = .bool true ∧ Q h') : ∃ n h' n' lg, callN P A n f vs (fun _ => none) 0 = some (.bool true, h', n', lg) := by
 obtain ⟨k, v, h', n', lg, e, rfl, _⟩ := h 0 (fun _ _ => rfl)
 exact ⟨k, h', n', lg, e⟩
theorem law_run (ps : List AV) (h : TyVs Tryz.prog 6 Tryz.f9.params.toList ps) : ∃ n h' n' lg, callN Tryz.prog ann n 9 ps (fun _ => none) 0 = some (.bool true, h', n', lg) := by
 obtain ⟨b, _, rfl, hb, c, _, rfl, hc, d, _, rfl, hd, rfl⟩ := h
 obtain ⟨x, rfl, hx⟩ := ty_int (i := .i64) (by kernel_rfl) hb
 obtain ⟨y, rfl, hy⟩ := ty_int (i := .i64) (by kernel_rfl) hc
 obtain ⟨z, rfl, hz⟩ := ty_int (i := .i64) (by kernel_rfl) hd
 exact run_of_h (p9 (wf_i64 hx) (wf_i64 hy) (wf_i64 hz))
end Go.Proofs
end
