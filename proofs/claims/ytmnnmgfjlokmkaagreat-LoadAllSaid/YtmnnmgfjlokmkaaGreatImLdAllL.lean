import Derived.Test.YtmnnmgfjlokmkaaGreatAbsTac
import Derived.Test.YtmnnmgfjlokmkaaGreatImVal21
import Derived.Test.YtmnnmgfjlokmkaaGreatAbsLs
import Derived.Test.YtmnnmgfjlokmkaaGreatImCrc
import Derived.Test.YtmnnmgfjlokmkaaGreatImCut
import Derived.Test.YtmnnmgfjlokmkaaGreatAbsLaw
import Derived.Test.YtmnnmgfjlokmkaaGreatAbsTy
section
open Go Go.Abs Go.Proofs.SlimCode Go.Img
namespace Go.Img
def mvC (by' x : Int) : Int := if x = 0 then 0 else w32 (x + by')
def mvG (fr x : Int) : Bool := decide (x = 0) || decide (fr < x)
def mvStep (fr by' : Int) (s : List Int × Bool) (r : Nat) : List Int × Bool := (s.1.set r (mvC by' (s.1.getD r 0)), s.2 && mvG fr (s.1.getD r 0))
def stStep (fr by' : Int) (f : List Bool) (s : List Int × Bool) (i : Nat) : List Int × Bool := if f.getD i false = true then mvStep fr by' s i else s
def mvW (fr by' : Int) (m : Image) (k : Nat) : List Int × Bool := (m.rel.take k).foldl (fun s r => mvStep fr by' s r.toNat) (m.words, true)
def mvS (fr by' : Int) (m : Image) (g : Bool) (k : Nat) : List Int × Bool := (List.range k).foldl (stStep fr by' m.statref) (m.stat, g)
def mvd (fr by' : Int) (m : Image) : Image := { m with words := (mvW fr by' m m.rel.length).1, stat := (mvS fr by' m (mvW fr by' m m.rel.length).2 m.stat.length).1 }
def mvOk (fr by' : Int) (m : Image) : Bool := (mvS fr by' m (mvW fr by' m m.rel.length).2 m.stat.length).2
theorem mvW_succ {fr by' : Int} {m : Image} {k : Nat} (hk : k < m.rel.length) : mvW fr by' m (k + 1) = mvStep fr by' (mvW fr by' m k) m.rel[k].toNat := by
 unfold mvW
 rw [List.take_add_one, List.getElem?_eq_getElem hk, List.foldl_append]
 rfl
theorem mvS_succ {fr by' : Int} {m : Image} {g : Bool} {k : Nat} : mvS fr by' m g (k + 1) = stStep fr by' m.statref (mvS fr by' m g k) k := by
 unfold mvS
 rw [List.range_succ, List.foldl_append]
 rfl
theorem mvW_len {fr by' : Int} {m : Image} : ∀ k, (mvW fr by' m k).1.length = m.words.length := by
 intro k
 unfold mvW
 generalize m.rel.take k = l
 suffices h : ∀ (s : List Int × Bool), (l.foldl (fun s r => mvStep fr by' s r.toNat) s).1.length = s.1.length from h _
 induction l with
 | nil => exact fun _ => rfl
 | cons r l ih => exact fun s => (ih _).trans (by simp [mvStep])
theorem mvS_len {fr by' : Int} {m : Image} {g : Bool} : ∀ k, (mvS fr by' m g k).1.length = m.stat.length := by
 intro k
 induction k with
 | zero => rfl
 | succ k ih =>
  rw [mvS_succ]
  unfold stStep
  split
  ·simpa [mvStep] using ih
  ·exact ih
theorem w32_I (n : Int) : I32 (w32 n) := by unfold I32 w32; omega
theorem mvC_I {by' x : Int} : I32 (mvC by' x) := by
 unfold mvC
 split
 ·unfold I32; omega
 ·exact w32_I _
theorem mvStep_I {fr by' : Int} {s : List Int × Bool} {r : Nat} (h : ∀ x ∈ s.1, I32 x) : ∀ x ∈ (mvStep fr by' s r).1, I32 x := by
 intro x hx
 rcases List.mem_or_eq_of_mem_set hx with h1 | rfl
 ·exact h x h1
 ·exact mvC_I
theorem mvW_I {fr by' : Int} {m : Image} (hw : m.WF) (k : Nat) : ∀ x ∈ (mvW fr by' m k).1, I32 x := by
 unfold mvW
 generalize m.rel.take k = l
 suffices h : ∀ (s : List Int × Bool), (∀ x ∈ s.1, I32 x) → ∀ x ∈ (l.foldl (fun s r => mvStep fr by' s r.toNat) s).1, I32 x from h _ hw.words.2
 induction l with
 | nil => exact fun _ h => h
 | cons r l ih => exact fun s h => ih _ (mvStep_I h)
theorem mvS_I {fr by' : Int} {m : Image} {g : Bool} (hw : m.WF) (k : Nat) : ∀ x ∈ (mvS fr by' m g k).1, I32 x := by
 induction k with
 | zero => exact hw.stat.2
 | succ k ih =>
  rw [mvS_succ]
  unfold stStep
  split
  ·exact mvStep_I ih
  ·exact ih
theorem mvd_WF {fr by' : Int} {m : Image} (hw : m.WF) : (mvd fr by' m).WF := { hw with
 words := ⟨by have := hw.words.1; unfold Len at *; rw [show (mvd fr by' m).words.length = _ from mvW_len _]; exact this, mvW_I hw _⟩
 stat := ⟨by have := hw.stat.1; unfold Len at *; rw [show (mvd fr by' m).stat.length = _ from mvS_len _]; exact this, mvS_I hw _⟩ }
end Go.Img
set_option maxRecDepth 100000
namespace Go.Proofs
theorem upd2_or {K : Heap} {b i : Nat} {o o' O O' : AObj} (hb : K b = some o') (hi : K i = some O') : upd (upd K b (some o)) i (some O) = K ∨ ∃ id, K id ≠ none ∧ upd (upd K b (some o)) i (some O) id ≠ K id := by
 by_cases e : upd (upd K b (some o)) i (some O) = K
 ·exact .inl e
 ·right
  obtain ⟨id, h⟩ : ∃ id, upd (upd K b (some o)) i (some O) id ≠ K id := Classical.byContradiction fun h => e (funext fun id => Classical.byContradiction fun h' => h ⟨id, h'⟩)
  refine ⟨id, fun h0 => h ?_, h⟩
  have e1 : id ≠ i := fun e => by rw [e, hi] at h0; cases h0
  have e2 : id ≠ b := fun e => by rw [e, hb] at h0; cases h0
  rw [upd_ne e1, upd_ne e2]
theorem wrapC (x b : Int) : IntKind.wrap .i32 (x + IntKind.wrap .i32 b) = Img.w32 (x + b) := by
 simp [IntKind.wrap, IntKind.bits, IntKind.signed, Img.w32]
 omega
theorem p144 {K : Heap} {i j b8 b4 b5 : Nat} {cs : List AV} {x fr by' : Int} {g : Bool} (hi : K i = some (.cells cs)) (hx : cs[j]? = some (.int .i32 x)) (h8 : K b8 = some (.cells [.bool g])) (h4 : K b4 = some (.cells [I fr])) (h5 : K b5 = some (.cells [I by']))
  (hn : i ≠ b8) (h32 : I32 x) : HCallC Tryz.prog ann 144 [.ptr i j, .ptr b8 0, .ptr b4 0, .ptr b5 0] K fun v K' => v = .tup [] ∧ K' = upd (upd K b8 (some (.cells [.bool (g && mvG fr x)]))) i (some (.cells (cs.set j (.int .i32 (mvC by' x))))) := by
 have n5 : b5 ≠ b8 := fun e => by rw [e, h8] at h5; cases h5
 have hj := (List.getElem?_eq_some_iff.1 hx).1
 refine s_call_x rfl Tryz.func144 (frc (by with_unfolding_all rfl)) rfl ?_
 refine tV ?_
 apply o_ldh rfl rfl hi (fun h => by omega) hx
 refine oI (x ≠ 0) (fun H => ?_) (fun H => ?_)
 rotate_left
 ·obtain rfl : x = 0 := by omega
  refine tW ?_
  have e : upd (upd K b8 (some (.cells [.bool (g && mvG fr 0)]))) i (some (.cells (cs.set j (.int .i32 (mvC by' 0))))) = K := by
   have e1 : cs.set j (.int .i32 (mvC by' 0)) = cs := by
    apply List.ext_getElem?
    intro n
    rw [List.getElem?_set]
    split
    ·rename_i e; subst e; exact hx.symm
    ·rfl
   rw [e1, show (g && mvG fr 0) = g by simp [mvG], upd_self h8, upd_self hi]
  (first | apply hx_ret | apply hx_norm)
  ·exact (rfl : resE _ [] = some [])
  ·exact rfl
  ·rw [killL_nil]; exact ⟨rfl, e.symm⟩
  ·exact fun _ => .inl ⟨rfl, e.symm⟩
 have hg : mvG fr x = decide (fr < x) := by simp [mvG, H]
 have hc : mvC by' x = Img.w32 (x + by') := if_neg H
 unfold I32 at h32
 ((with_reducible apply o_nil); (with_reducible apply ssq_norm))
 (with_reducible apply s_condT)
 exact rfl
 refine s_join (σ := Unit) (fun _ => [(0, .ptr i j), (3, .ptr b5 0)]) (fun _ h' => h' = upd K b8 (some (.cells [.bool (g && mvG fr x)]))) ?_ ?_
 ·refine tV ?_
  apply o_ldh rfl rfl h8 (fun _ => by rw [h8]; simp) rfl
  rw [hg]
  cases g with
  | false =>
   refine tW ?_
   apply o_st1 rfl rfl rfl rfl rfl h8 (by decide)
   refine tW ?_
   exact ⟨(), tU, rfl, rfl⟩
  | true =>
   refine tW ?_
   apply o_ldh rfl rfl hi (fun _ => by rw [hi]; simp) hx
   refine tV ?_
   apply o_as (w := I x) rfl rfl trivial (by rw [w64 (by omega) (by omega)])
   refine tV ?_
   apply o_ldh rfl rfl h4 (fun _ => by rw [h4]; simp) rfl
   refine tV ?_
   apply o_val rfl rfl trivial
   apply o_val rfl rfl trivial
   apply o_st1 rfl rfl rfl rfl rfl h8 (by decide)
   refine tW ?_
   exact ⟨(), tU, rfl, rfl⟩
 rintro _ _ rfl
 have hi' : upd K b8 (some (.cells [.bool (g && mvG fr x)])) i = some (.cells cs) := (upd_ne hn).trans hi
 have h5' : upd K b8 (some (.cells [.bool (g && mvG fr x)])) b5 = some (.cells [I by']) := (upd_ne n5).trans h5
 refine tV ?_
 apply o_ldh rfl rfl hi' (fun _ => by rw [hi']; simp) hx
 apply o_ldh rfl rfl h5' (fun _ => by rw [h5']; simp) rfl
 apply o_val rfl rfl trivial
 apply o_as (w := .int .i32 (mvC by' x)) rfl rfl trivial (by rw [wrapC, hc])
 refine tV ?_
 apply o_st1 rfl rfl rfl rfl rfl hi' hj
 refine tW ?_
 (first | apply hx_ret | apply hx_norm)
 ·exact (rfl : resE _ [] = some [])
 ·exact rfl
 ·rw [killL_nil]; exact ⟨rfl, rfl⟩
 ·intro _
  rcases upd2_or (o := .cells [.bool (g && mvG fr x)]) (O := .cells (cs.set j (.int .i32 (mvC by' x)))) h8 hi with e | e
  ·exact .inl ⟨rfl, e.symm⟩
  ·exact .inr e
theorem p90 {h : Heap} {n : Int} : Looks Tryz.prog ann 90 [I n] h (.bool (BP (0 ≤ n ∧ n ≤ 1048576))) := by
 refine s_look_of rfl Tryz.func90 (frc (by with_unfolding_all rfl)) rfl ?_
 refine tV ?_
 refine oI (0 ≤ n) (fun H => ?_) (fun H => ?_)
 rotate_left
 ·refine tW ?_
  exact noB rfl (fun h => H h.1) .refl (by simp)
 refine tV ?_
 refine oI (n ≤ 1048576) (fun H2 => ?_) (fun H2 => ?_)
 ·refine tW ?_
  exact yesB rfl ⟨H, H2⟩ .refl (by simp)
 ·refine tW ?_
  exact noB rfl (fun h => H2 h.2) .refl (by simp)
end Go.Proofs
end
section
open Go Go.Abs Go.Proofs.SlimCode Go.Img
set_option maxRecDepth 100000
namespace Go.Proofs
structure Own2 (h : Heap) (w s : AV) (a b : List Int) (G : Heap) : Prop where
 o1 : OSl h 1 w (nums .i32 a) a.length G
 o2 : OSl h 1 s (nums .i32 b) b.length G
 dj : ∀ i ∈ slIds w, i ∉ slIds s
theorem own2_of {h G1 G : Heap} {w s : AV} {a b : List Int} (O1 : OSl h 1 w (nums .i32 a) a.length G1) (O2 : OSl G1 1 s (nums .i32 b) b.length G) : Own2 h w s a b G := ⟨O1.upE O2.ext, O2.weaken O1.ext, fun i h1 h2 => by
 rcases O1.own with ⟨rfl, _⟩ | ⟨j, rfl, g1, g2, g3⟩
 ·cases h1
 rcases O2.own with ⟨rfl, _⟩ | ⟨k, rfl, k1, k2, k3⟩
 ·cases h2
 obtain rfl := List.mem_singleton.1 h1
 obtain rfl := List.mem_singleton.1 h2
 rw [g2] at k1
 cases k1⟩
theorem Own2.symm {h G : Heap} {w s : AV} {a b : List Int} (H : Own2 h w s a b G) : Own2 h s w b a G := ⟨H.o2, H.o1, fun i h1 h2 => H.dj i h2 h1⟩
theorem nums_set {k : IntKind} {l : List Int} {r : Nat} {x : Int} : (nums k l).set r (.int k x) = nums k (l.set r x) := by unfold nums; rw [List.map_set]
theorem Own2.poke {h G : Heap} {w s : AV} {a b : List Int} (H : Own2 h w s a b G) {r : Nat} (hr : r < a.length) : ∃ i, w = .sl i 0 a.length 1 ∧ G i = some (.cells (nums .i32 a)) ∧ ∀ x, Own2 h w s (a.set r x) b (upd G i (some (.cells ((nums .i32 a).set r (.int .i32 x))))) := by
 rcases H.o1.own with ⟨_, _, e⟩ | ⟨i, rfl, h1, h2, h3⟩
 ·omega
 refine ⟨i, rfl, h2, fun x => ?_⟩
 have hx : Ext h (upd G i (some (.cells ((nums .i32 a).set r (.int .i32 x))))) := fun id o e => by
  rw [upd_ne fun e' => by rw [e', h1] at e; cases e]
  exact H.o1.ext _ _ e
 refine ⟨⟨hx, .inr ⟨i, by rw [List.length_set], h1, by rw [upd_same, nums_set], by simp [nums]⟩⟩, ⟨hx, ?_⟩, H.dj⟩
 rcases H.o2.own with h0 | ⟨j, rfl, g1, g2, g3⟩
 ·exact .inl h0
 ·have : j ≠ i := fun e => H.dj i (.head _) (by rw [e]; exact .head _)
  exact .inr ⟨j, rfl, g1, by rw [upd_ne this]; exact g2, g3⟩
theorem nums_at {k : IntKind} {l : List Int} {r : Nat} (hr : r < l.length) : (nums k l)[r]? = some (.int k (l.getD r 0)) := by
 unfold nums
 rw [List.getElem?_map, List.getElem?_eq_getElem hr, List.getD_eq_getElem?_getD, List.getElem?_eq_getElem hr]
 rfl
abbrev LdL (b3 b4 b5 b6 b8 : Nat) (g : Bool) (c : List AV) (fr by' : Int) : List (Nat × AObj) := [(b8, .cells [.bool g]), (b6, .cells Z9), (b5, .cells [I by']), (b4, .cells [I fr]), (b3, .cells c)]
theorem ld_poke {b3 b4 b5 b6 b8 i : Nat} {g g' : Bool} {c : List AV} {fr by' : Int} {G : Heap} {o : AObj} (hD : Dis G (LdL b3 b4 b5 b6 b8 g c fr by')) (hi : G i ≠ none) :
  upd (upd (hset G (LdL b3 b4 b5 b6 b8 g c fr by')) b8 (some (.cells [.bool g']))) i (some o) = hset (upd G i (some o)) (LdL b3 b4 b5 b6 b8 g' c fr by') ∧ Dis (upd G i (some o)) (LdL b3 b4 b5 b6 b8 g' c fr by') := by
 have hni : i ∉ (LdL b3 b4 b5 b6 b8 g' c fr by').map Prod.fst := fun h => hi (dis_ids hD i h)
 refine ⟨?_, dis_of (dis_nodup hD) fun id hid => ?_⟩
 ·rw [hset_upd hni]
  show upd (upd (upd _ b8 _) b8 _) i _ = _
  rw [upd_upd]
  rfl
 ·rw [upd_ne fun e => hni (by rw [← e]; exact hid)]
  exact dis_ids hD id hid
set_option maxHeartbeats 1000000 in
theorem p91 {h : Heap} {c : List AV} {m : Image} {fr by' : Int} (hc : RImg h c m) (hw : m.WF) (hr : ∀ r ∈ m.rel, 0 ≤ r ∧ r.toNat < m.words.length) (hl : m.words.length ≤ 1048576) (hs : m.stat.length ≤ 1048576) :
  HCallC Tryz.prog ann 91 [.agg c, I fr, I by'] h fun v h' => Ext h h' ∧ ∃ c', v = .tup [.agg c', .bool (mvOk fr by' m)] ∧ RImg h' c' (mvd fr by' m) := by
 have hR := hc
 have hone := hc.one
 have lr : Len m.rel := hw.rel.1
 have lf : Len m.statref := hw.statref
 unfold Len at lr lf
 obtain ⟨vc, vm, vg, vw, vr, vs, vf, rfl, v1, v2, v3, v4, v5, v6, v7⟩ := hc
 refine s_call_R rfl Tryz.func91 (frc (by with_unfolding_all rfl)) rfl ?_
 refine tS ?_
 show SOps _ _ _ _ _ _ _ _ _ (hset h []) _
 apply o_hboxL (v := .agg [vc, vm, I m.entry, I m.need, vg, vw, vr, vs, vf]) dis_nil rfl rfl hone
 intro b3 hD
 apply o_hboxL (v := I fr) hD rfl rfl rfl
 intro b4 hD
 apply o_hboxL (v := I by') hD rfl rfl rfl
 intro b5 hD
 apply o_alcL hD rfl
 intro b6 hD
 refine tA ?_
 apply o_alcL hD rfl
 intro b8 hD
 apply o_st1L 0 hD rfl rfl rfl rfl rfl rfl (by decide)
 intro hD
 show SOps _ _ _ _ _ _ _ _ [b8, b6, b5, b4, b3] (hset h (LdL b3 b4 b5 b6 b8 true [vc, vm, I m.entry, I m.need, vg, vw, vr, vs, vf] fr by')) _
 change Dis h (LdL b3 b4 b5 b6 b8 true [vc, vm, I m.entry, I m.need, vg, vw, vr, vs, vf] fr by') at hD
 refine tA ?_
 refine s_regL (L := LdL b3 b4 b5 b6 b8 true [vc, vm, I m.entry, I m.need, vg, vw, vr, vs, vf] fr by') [.A, .B, .A, .A, .B, .A, .A, .D, .A, .D] hD ?_
 apply x_v rfl rfl trivial
 apply x_ldL 4 hD rfl rfl rfl rfl
 apply x_callL hD rfl rfl rfl (p145o v4 hl)
 intro w G1 O1 hD
 apply x_v rfl rfl trivial
 apply x_ldL 4 hD rfl rfl rfl rfl
 apply x_callL hD rfl rfl rfl (p145o (v6.mono RN.mono O1.ext) hs)
 intro s G O2 hD
 apply x_v rfl rfl trivial
 apply x_st1L 4 hD rfl rfl rfl rfl O1.ones (show 5 < 9 by decide)
 intro hD
 apply x_v rfl rfl trivial
 apply x_st1L 4 hD rfl rfl rfl rfl O2.ones (show 7 < 9 by decide)
 intro hD
 apply x_nil
 change Dis G (LdL b3 b4 b5 b6 b8 true [vc, vm, I m.entry, I m.need, vg, w, vr, s, vf] fr by') at hD
 show ssq _ _ _ _ _ _ _ _ _ (hset G (LdL b3 b4 b5 b6 b8 true [vc, vm, I m.entry, I m.need, vg, w, vr, s, vf] fr by'))
 have O : Own2 h w s m.words m.stat G := own2_of O1 O2
 clear O1 O2
 refine tA ?_
 apply o_ldL 4 hD rfl rfl rfl rfl rfl
 apply o_lenS rfl rfl (v5.mono RN.mono (O.o1.ext.trans (ext_hsetD hD)))
 refine tA ?_
 have hn0 : (LdL b3 b4 b5 b6 b8 true [vc, vm, I m.entry, I m.need, vg, w, vr, s, vf] fr by').map Prod.fst = [b8, b6, b5, b4, b3] := rfl
 refine s_loop (fun k : Nat => [(3, .ptr b3 0), (6, .ptr b6 0), (8, .ptr b8 0), (9, .fn 144 [] [.ptr b8 0, .ptr b4 0, .ptr b5 0]), (23, vr), (24, I m.rel.length), (25, I (k : Int))]) (fun k h' => k ≤ m.rel.length ∧ ∃ G, h' = hset G (LdL b3 b4 b5 b6 b8 (mvW fr by' m k).2 [vc, vm, I m.entry, I m.need, vg, w, vr, s, vf] fr by') ∧ Dis G (LdL b3 b4 b5 b6 b8 (mvW fr by' m k).2 [vc, vm, I m.entry, I m.need, vg, w, vr, s, vf] fr by') ∧ Own2 h w s (mvW fr by' m k).1 m.stat G) (fun k => m.rel.length - k) 0 tU ⟨by omega, G, rfl, hD, O⟩ ?_
 clear hD O
 rintro k _ ⟨hk, G, rfl, hD, O⟩
 refine tA ?_
 refine oI (k < m.rel.length) (fun H => ?_) (fun H => ?_)
 ·have hsucc := mvW_succ (fr := fr) (by' := by') H
  have hwl := mvW_len (fr := fr) (by' := by') (m := m) k
  have hwI := mvW_I (fr := fr) (by' := by') hw k
  have hr' := hr _ (List.getElem_mem H)
  refine tA ?_
  apply o_iaS rfl rfl rfl (v5.mono RN.mono (O.o1.ext.trans (ext_hsetD hD))) H
  intro p d hp hd _
  obtain rfl : d = [I m.rel[k]] := hd
  apply o_ldG rfl rfl hp (.one rfl) (fun h => by omega)
  generalize m.rel[k] = r at hsucc hr'
  generalize mvW fr by' m k = st at hsucc hwl hwI hD O ⊢
  obtain ⟨a, g⟩ := st
  simp only at hwl hwI hD O ⊢
  obtain ⟨i, rfl, hi, hup⟩ := O.poke (r := r.toNat) (by rw [hwl]; exact hr'.2)
  have hv : (nums .i32 a)[r.toNat]? = some (.int .i32 (a.getD r.toNat 0)) := nums_at (by rw [hwl]; exact hr'.2)
  have hI : I32 (a.getD r.toNat 0) := by
   rw [List.getD_eq_getElem?_getD, List.getElem?_eq_getElem (by rw [hwl]; exact hr'.2)]
   exact hwI _ (List.getElem_mem _)
  refine tA ?_
  apply o_as (w := .bool false) rfl rfl trivial (by simp; omega)
  refine tA ?_
  apply o_ldL 4 hD rfl rfl rfl rfl rfl
  refine tA ?_
  apply o_as (w := .bool false) rfl rfl trivial (by simp; omega)
  refine tA ?_
  apply o_ldL 4 hD rfl rfl rfl rfl rfl
  refine tA ?_
  apply o_as (w := .ptr i r.toNat) rfl rfl ⟨rfl, hr'.1, by omega⟩ (by simp)
  refine tA ?_
  have hni : i ∉ (LdL b3 b4 b5 b6 b8 g [vc, vm, I m.entry, I m.need, vg, .sl i 0 a.length 1, vr, s, vf] fr by').map Prod.fst := fun e => by rw [dis_ids hD i e] at hi; cases hi
  apply o_hcall rfl rfl rfl rfl (p144 (g := g) (fr := fr) (by' := by') ((hset_out hni).trans hi) hv (hset_get (k := 0) hD rfl) (hset_get (k := 3) hD rfl) (hset_get (k := 2) hD rfl) (fun e => hni (by rw [e]; exact .head _)) hI)
  rintro _ _ ⟨rfl, rfl⟩
  obtain ⟨e1, e2⟩ := ld_poke (g' := g && mvG fr (a.getD r.toNat 0)) (o := .cells ((nums .i32 a).set r.toNat (.int .i32 (mvC by' (a.getD r.toNat 0))))) hD (by rw [hi]; simp)
  rw [e1]
  refine tA ?_
  apply o_as (w := I ((k + 1 : Nat) : Int)) rfl rfl trivial (by rw [w64 (by omega) (by omega)]; rfl)
  refine tA ?_
  refine ⟨k + 1, by simp only; omega, tU, rfl, by omega, upd G i (some (.cells ((nums .i32 a).set r.toNat (.int .i32 (mvC by' (a.getD r.toNat 0)))))), ?_, ?_, ?_⟩
  ·rw [hsucc]; rfl
  ·rw [hsucc]; exact e2
  ·rw [hsucc]; exact hup _
 obtain rfl : k = m.rel.length := by omega
 clear hk H
 have ea : (mvW fr by' m m.rel.length).1 = (mvd fr by' m).words := rfl
 have hok : mvOk fr by' m = (mvS fr by' m (mvW fr by' m m.rel.length).2 m.stat.length).2 := rfl
 have eb : (mvd fr by' m).stat = (mvS fr by' m (mvW fr by' m m.rel.length).2 m.stat.length).1 := rfl
 rw [ea] at O
 generalize mvW fr by' m m.rel.length = st at hD O hok eb ⊢
 obtain ⟨a0, g0⟩ := st
 simp only at hD O hok eb ⊢
 refine tA ?_
 apply o_ldL 4 hD rfl rfl rfl rfl rfl
 apply o_lenV rfl rfl (O.o2.upE (ext_hsetD hD)).view
 refine tA ?_
 refine s_loop (fun k : Nat => [(3, .ptr b3 0), (6, .ptr b6 0), (8, .ptr b8 0), (9, .fn 144 [] [.ptr b8 0, .ptr b4 0, .ptr b5 0]), (48, I m.stat.length), (49, I (k : Int))]) (fun k h' => k ≤ m.stat.length ∧ ∃ G, h' = hset G (LdL b3 b4 b5 b6 b8 (mvS fr by' m g0 k).2 [vc, vm, I m.entry, I m.need, vg, w, vr, s, vf] fr by') ∧ Dis G (LdL b3 b4 b5 b6 b8 (mvS fr by' m g0 k).2 [vc, vm, I m.entry, I m.need, vg, w, vr, s, vf] fr by') ∧ Own2 h w s (mvd fr by' m).words (mvS fr by' m g0 k).1 G) (fun k => m.stat.length - k) 0 tU ⟨by omega, G, rfl, hD, O⟩ ?_
 clear hD O
 rintro k _ ⟨hk, G, rfl, hD, O⟩
 refine tA ?_
 refine oI (k < m.stat.length) (fun H => ?_) (fun H => ?_)
 ·have hsucc := mvS_succ (fr := fr) (by' := by') (m := m) (g := g0) (k := k)
  have hwl := mvS_len (fr := fr) (by' := by') (m := m) (g := g0) k
  have hwI := mvS_I (fr := fr) (by' := by') (g := g0) hw k
  generalize mvS fr by' m g0 k = st at hsucc hwl hwI hD O ⊢
  obtain ⟨b, g⟩ := st
  simp only at hwl hwI hD O ⊢
  refine tA ?_
  apply o_ldL 4 hD rfl rfl rfl rfl rfl
  apply o_lenS rfl rfl (v7.mono RB.mono (O.o1.ext.trans (ext_hsetD hD)))
  unfold stStep at hsucc
  refine oI (k < m.statref.length) (fun H2 => ?_) (fun H2 => ?_)
  rotate_left
  ·rw [show m.statref.getD k false = false by rw [List.getD_eq_getElem?_getD, List.getElem?_eq_none (by omega)]; rfl] at hsucc
   simp only [Bool.false_eq_true, if_false] at hsucc
   refine tA ?_
   apply o_as (w := I ((k + 1 : Nat) : Int)) rfl rfl trivial (by rw [w64 (by omega) (by omega)]; rfl)
   refine tA ?_
   exact ⟨k + 1, by simp only; omega, tU, rfl, by omega, G, by rw [hsucc], by rw [hsucc]; exact hD, by rw [hsucc]; exact O⟩
  refine tA ?_
  apply o_ldL 4 hD rfl rfl rfl rfl rfl
  refine tA ?_
  apply o_iaS rfl rfl rfl (v7.mono RB.mono (O.o1.ext.trans (ext_hsetD hD))) H2
  intro p d hp hd _
  obtain rfl : d = [.bool m.statref[k]] := hd
  refine tA ?_
  apply o_ldG rfl rfl hp (.one rfl) (fun h => by omega)
  rw [show m.statref.getD k false = m.statref[k] by rw [List.getD_eq_getElem?_getD, List.getElem?_eq_getElem H2]; rfl] at hsucc
  generalize m.statref[k] = f at hsucc
  cases f with
  | false =>
   simp only [Bool.false_eq_true, if_false] at hsucc
   refine tA ?_
   apply o_as (w := I ((k + 1 : Nat) : Int)) rfl rfl trivial (by rw [w64 (by omega) (by omega)]; rfl)
   refine tA ?_
   exact ⟨k + 1, by simp only; omega, tU, rfl, by omega, G, by rw [hsucc], by rw [hsucc]; exact hD, by rw [hsucc]; exact O⟩
  | true =>
   simp only [if_true] at hsucc
   obtain ⟨i, rfl, hi, hup⟩ := O.symm.poke (r := k) (by rw [hwl]; exact H)
   have hv : (nums .i32 b)[k]? = some (.int .i32 (b.getD k 0)) := nums_at (by rw [hwl]; exact H)
   have hI : I32 (b.getD k 0) := by
    rw [List.getD_eq_getElem?_getD, List.getElem?_eq_getElem (by rw [hwl]; exact H)]
    exact hwI _ (List.getElem_mem _)
   refine tA ?_
   apply o_ldL 4 hD rfl rfl rfl rfl rfl
   refine tA ?_
   apply o_as (w := .ptr i k) rfl rfl ⟨rfl, by omega, by omega⟩ (by simp)
   refine tA ?_
   have hni : i ∉ (LdL b3 b4 b5 b6 b8 g [vc, vm, I m.entry, I m.need, vg, w, vr, .sl i 0 b.length 1, vf] fr by').map Prod.fst := fun e => by rw [dis_ids hD i e] at hi; cases hi
   apply o_hcall rfl rfl rfl rfl (p144 (g := g) (fr := fr) (by' := by') ((hset_out hni).trans hi) hv (hset_get (k := 0) hD rfl) (hset_get (k := 3) hD rfl) (hset_get (k := 2) hD rfl) (fun e => hni (by rw [e]; exact .head _)) hI)
   rintro _ _ ⟨rfl, rfl⟩
   obtain ⟨e1, e2⟩ := ld_poke (g' := g && mvG fr (b.getD k 0)) (o := .cells ((nums .i32 b).set k (.int .i32 (mvC by' (b.getD k 0))))) hD (by rw [hi]; simp)
   rw [e1]
   refine tA ?_
   apply o_as (w := I ((k + 1 : Nat) : Int)) rfl rfl trivial (by rw [w64 (by omega) (by omega)]; rfl)
   refine tA ?_
   refine ⟨k + 1, by simp only; omega, tU, rfl, by omega, upd G i (some (.cells ((nums .i32 b).set k (.int .i32 (mvC by' (b.getD k 0)))))), ?_, ?_, ?_⟩
   ·rw [hsucc]; rfl
   ·rw [hsucc]; exact e2
   ·rw [hsucc]; exact (hup _).symm
 obtain rfl : k = m.stat.length := by omega
 rw [← eb] at O
 rw [← hok] at hD ⊢
 have hx : Ext h G := O.o1.ext
 have hcy : RImg G [vc, vm, I m.entry, I m.need, vg, w, vr, s, vf] (mvd fr by' m) := ⟨vc, vm, vg, w, vr, s, vf, rfl, v1.mono RCls.mono hx, v2.mono RMth.mono hx, v3.mono RN.mono hx, ⟨_, O.o1.view, Chunks.of_map⟩, v5.mono RN.mono hx, ⟨_, O.o2.view, Chunks.of_map⟩, v7.mono RB.mono hx⟩
 refine tA ?_
 have hn := dis_nodup hD
 have g3 := hset_get (k := 4) hD rfl
 have g6 := hset_get (k := 1) hD rfl
 have g8 := hset_get (k := 0) hD rfl
 refine s_regX [b6] [.F, .G, .E, .A] (fun id hid => by obtain rfl := List.mem_singleton.1 hid; rw [g6]; simp) rfl ?_
 apply x_ldF (v := .agg [vc, vm, I m.entry, I m.need, vg, w, vr, s, vf]) rfl rfl (.p b3 0 _ _ g3 (sliceL_all rfl)) (.many rfl rfl)
 apply x_ldO rfl rfl g8 (fun h => by obtain rfl := List.mem_singleton.1 h; exact absurd (.head _) (List.nodup_cons.1 hn).1) rfl
 apply x_stE (v := .agg [vc, vm, I m.entry, I m.need, vg, w, vr, s, vf]) (cs' := [vc, vm, I m.entry, I m.need, vg, w, vr, s, vf]) rfl rfl rfl rfl hcy.one g6 (.head _) (splice_full rfl)
 rw [(hset_set (k := 1) hD rfl).1]
 replace hD := (hset_set (k := 1) (o' := .cells [vc, vm, I m.entry, I m.need, vg, w, vr, s, vf]) hD rfl).2
 apply x_v rfl rfl trivial
 apply x_nil
 refine tA ?_
 refine hR_ret (vs := [.agg [vc, vm, I m.entry, I m.need, vg, w, vr, s, vf], .bool (mvOk fr by' m)]) (.cells (m := 9) rfl (by kernel_rfl) (hset_get (k := 1) hD rfl) rfl (.tmp rfl .nil)) rfl ?_ ?_
 ·have ek := kill_hset hD
  rw [show killL [b8, b6, b5, b4, b3] _ = G from ek]
  exact ⟨hx, _, rfl, hcy⟩
 ·intro ht
  exact .inl ⟨.refl, _, rfl, tr_i _ _ _ _ (by simpa [tupled, AV.tree, AV.trees] using ht) hcy⟩
end Go.Proofs
end
section
open Go Go.Abs Go.Proofs.SlimCode Go.Img
namespace Go.Img
theorem flat_mem {α : Type} {e : α → B} {a : α} : ∀ {l : List α}, a ∈ l → (e a).length ≤ (l.flatMap e).length
 | b :: l, h => by
  rw [List.flatMap_cons, List.length_append]
  rcases List.mem_cons.1 h with rfl | h
  ·omega
  ·have := flat_mem (e := e) h
   omega
theorem faces_le {m : Image} (h : size m ≤ 1048576) : ∀ x ∈ m.classes, x.faces.length ≤ 1048577 := by
 intro x hx
 have h1 := flat_mem (e := eCls) hx
 have h2 : x.faces.length ≤ (x.faces.flatMap ePair).length := Proofs.flat_ge (fun a => by unfold ePair; rw [List.length_append]; have := Proofs.put_ge a.1; omega) _
 have h3 : (x.faces.flatMap ePair).length ≤ (eCls x).length := by
  unfold eCls eList
  simp only [List.length_append]
  omega
 have h4 : (m.classes.flatMap eCls).length ≤ size m := by
  unfold size body
  rw [List.length_append]
  unfold eList
  rw [List.length_append]
  omega
 omega
end Go.Img
set_option maxRecDepth 100000
namespace Go.Proofs
open Classical in
noncomputable def loadOf (bs : B) (a : Int) : Int × Image × Int := match Img.decode bs with
 | none => (6, noImage, 0)
 | some m => if ValidP m then (if 0 ≤ a ∧ a ≤ 1048576 then (0, mvd 0 a m, a) else (9, noImage, 0)) else (1, noImage, 0)
theorem valid_rel {m : Image} (h : ValidP m) : (∀ r ∈ m.rel, 0 ≤ r ∧ r.toNat < m.words.length) ∧ m.words.length ≤ 1048576 ∧ m.stat.length ≤ 1048576 := by
 obtain ⟨l, h1, h2⟩ := h.heap
 refine ⟨fun r hr => ?_, ?_, by have := h.first.sizes.2.2.1; omega⟩
 ·rw [← h2.rel] at hr
  exact relOf_at (fun x hx => by
   unfold parse at h1
   split at h1
   ·exact scan_mem _ _ _ (Nat.le_refl _) h1 x hx
   ·cases h1) hr
 ·unfold parse at h1
  split at h1
  ·assumption
  ·cases h1
abbrev Z10 : List AV := Z9 ++ [I 0]
def LoadQ (x : Int × Image × Int) (h : Heap) : AV → Heap → Prop := fun r h' => Ext h h' ∧ ∃ c, r = .tup [.agg (c ++ [I x.2.2]), I x.1] ∧ RImg h' c x.2.1
theorem ones_app {l : List AV} {n : Int} (h : l.all AV.one = true) : (l ++ [I n]).all AV.one = true := by rw [List.all_append, h]; rfl
theorem p29 {h : Heap} {v : AV} {bs : B} {a : Int} (hv : VSl h 1 v (ubs bs) bs.length) (hl : bs.length ≤ 9223372036854775807) : HCallC Tryz.prog ann 29 [v, I a] h (LoadQ (loadOf bs a) h) := by
 refine s_call_R rfl Tryz.func29 (frc (by with_unfolding_all rfl)) rfl ?_
 refine tA ?_
 show SOps _ _ _ _ _ _ _ _ _ (hset h []) _
 apply o_alcL dis_nil rfl
 intro b4 hD
 refine tA ?_
 apply o_callL hD rfl rfl rfl rfl (p17 hv hl)
 rintro _ k1 ⟨hx1, c, e, m, rfl, hR, hw, hcase⟩ hD
 have hR0 := hR
 obtain ⟨vc, vm, vg, vw, vr, vs, vf, rfl, _⟩ := hR0
 refine tA ?_
 apply o_alcL hD rfl
 intro b6 hD
 apply o_stL (v := .agg [vc, vm, I m.entry, I m.need, vg, vw, vr, vs, vf]) (cs' := [vc, vm, I m.entry, I m.need, vg, vw, vr, vs, vf]) 0 hD rfl rfl rfl rfl rfl rfl hR.one (splice_full rfl)
 intro hD
 show SOps _ _ _ _ _ _ _ _ [b6, b4] (hset k1 [(b6, .cells [vc, vm, I m.entry, I m.need, vg, vw, vr, vs, vf]), (b4, .cells Z10)]) _
 change Dis k1 [(b6, .cells [vc, vm, I m.entry, I m.need, vg, vw, vr, vs, vf]), (b4, .cells Z10)] at hD
 have fin : ∀ (k : Heap) (E : Env) (c6 c' : List AV) (x : Int × Image × Int), lk E 4 = some (.ptr b4 0) → lk E 5 = some (I x.1) → c'.length = 9 → Ext h k → RImg k c' x.2.1 → loadOf bs a = x → Dis k [(b6, .cells c6), (b4, .cells (c' ++ [I x.2.2]))] → hretR Tryz.prog ann 29 Tryz.f29.results.toList h (LoadQ (loadOf bs a) h) .ret E [b6, b4] (hset k [(b6, .cells c6), (b4, .cells (c' ++ [I x.2.2]))]) := by
  intro k E c6 c' x e4 e5 hc' hk hr hx hD
  rw [hx]
  refine hR_ret (vs := [.agg (c' ++ [I x.2.2]), I x.1]) (.cells (m := 10) e4 (by kernel_rfl) (hset_get (k := 1) hD rfl) (sliceL_all (by simp [hc'])) (.tmp e5 .nil)) rfl ?_ ?_
  ·rw [show killL [b6, b4] _ = k from kill_hset hD]
   exact ⟨hk, c', rfl, hr⟩
  ·intro ht
   refine .inl ⟨.refl, c', rfl, tr_i _ _ _ _ ?_ hr⟩
   have := ht
   simp only [tupled, AV.tree, AV.trees, trees_append, Bool.and_eq_true] at this
   exact this.1.1
 rcases hcase with ⟨rfl, hd⟩ | ⟨rfl, hd, rfl⟩
 rotate_left
 ·have e : loadOf bs a = (6, noImage, 0) := by unfold loadOf; rw [hd]
  refine tW ?_
  apply o_stL (v := .agg Z10) (cs' := Z10) 1 hD rfl rfl rfl rfl rfl rfl rfl (splice_full rfl)
  intro hD
  refine tW ?_
  exact fin k1 _ _ Z9 _ rfl rfl rfl hx1 noImage_R e hD
 have hsz := (decode_some hd).2
 refine tW ?_
 apply o_ldnL 0 hD rfl rfl rfl rfl rfl
 apply o_callL hD rfl rfl rfl rfl (p25 hR hw (faces_le hsz)).go
 rintro _ k3 ⟨rfl, hy⟩ hD
 replace hx1 := hx1.trans hy
 replace hR := RImg.mono _ _ _ _ hy hR
 clear hy
 by_cases hV : ValidP m
 rotate_left
 ·have e : loadOf bs a = (1, noImage, 0) := by unfold loadOf; rw [hd]; simp only [if_neg hV]
  rw [BP_false hV]
  refine tW ?_
  apply o_stL (v := .agg Z10) (cs' := Z10) 1 hD rfl rfl rfl rfl rfl rfl rfl (splice_full rfl)
  intro hD
  refine tW ?_
  exact fin k3 _ _ Z9 _ rfl rfl rfl hx1 noImage_R e hD
 rw [BP_true hV]
 refine tW ?_
 apply o_callL hD rfl rfl rfl rfl p90.go
 rintro _ k4 ⟨rfl, hy⟩ hD
 replace hx1 := hx1.trans hy
 replace hR := RImg.mono _ _ _ _ hy hR
 clear hy
 by_cases hB : 0 ≤ a ∧ a ≤ 1048576
 rotate_left
 ·have e : loadOf bs a = (9, noImage, 0) := by unfold loadOf; rw [hd]; simp only [if_pos hV, if_neg hB]
  rw [BP_false hB]
  refine tW ?_
  apply o_stL (v := .agg Z10) (cs' := Z10) 1 hD rfl rfl rfl rfl rfl rfl rfl (splice_full rfl)
  intro hD
  refine tW ?_
  exact fin k4 _ _ Z9 _ rfl rfl rfl hx1 noImage_R e hD
 have e : loadOf bs a = (0, mvd 0 a m, a) := by unfold loadOf; rw [hd]; simp only [if_pos hV, if_pos hB]
 rw [BP_true hB]
 refine tW ?_
 apply o_ldnL 0 hD rfl rfl rfl rfl rfl
 refine tW ?_
 apply o_callL hD rfl rfl rfl rfl (p91 hR hw (valid_rel hV).1 (valid_rel hV).2.1 (valid_rel hV).2.2)
 rintro _ k5 ⟨hy, c', rfl, hR'⟩ hD
 replace hx1 := hx1.trans hy
 have hR0 := hR'
 obtain ⟨wc, wm, wg, ww, wr, ws, wf, rfl, _⟩ := hR0
 refine tW ?_
 apply o_stL (v := .agg [wc, wm, I _, I _, wg, ww, wr, ws, wf]) (cs' := [wc, wm, I _, I _, wg, ww, wr, ws, wf]) 0 hD rfl rfl rfl rfl rfl rfl hR'.one (splice_full rfl)
 intro hD
 refine tW ?_
 apply o_ldnL 0 hD rfl rfl rfl rfl rfl
 refine tW ?_
 apply o_stL (v := .agg [wc, wm, I _, I _, wg, ww, wr, ws, wf, I a]) (cs' := [wc, wm, I _, I _, wg, ww, wr, ws, wf, I a]) 1 hD rfl rfl rfl rfl rfl rfl (ones_app hR'.one) (splice_full rfl)
 intro hD
 refine tW ?_
 exact fin k5 _ _ [wc, wm, I _, I _, wg, ww, wr, ws, wf] (0, mvd 0 a m, a) rfl rfl rfl hx1 hR' e hD
open Classical in
noncomputable def moveOf (m : Image) (b a : Int) : Bool × Image × Int := if 0 ≤ a ∧ a ≤ 1048576 then (if mvOk b (a - b) m = true then (true, mvd b (a - b) m, a) else (false, noImage, 0)) else (false, noImage, 0)
def MoveQ (x : Bool × Image × Int) (h : Heap) : AV → Heap → Prop := fun r h' => Ext h h' ∧ ∃ c, r = .tup [.agg (c ++ [I x.2.2]), .bool x.1] ∧ RImg h' c x.2.1
theorem p31 {h : Heap} {c : List AV} {m : Image} {a b : Int} (hR : RImg h c m) (hw : m.WF) (hr : ∀ r ∈ m.rel, 0 ≤ r ∧ r.toNat < m.words.length) (hl : m.words.length ≤ 1048576) (hs : m.stat.length ≤ 1048576) (hb : 0 ≤ b ∧ b ≤ 1048576) :
  HCallC Tryz.prog ann 31 [.agg (c ++ [I b]), I a] h (MoveQ (moveOf m b a) h) := by
 have hR0 := hR
 obtain ⟨vc, vm, vg, vw, vr, vs, vf, rfl, _⟩ := hR0
 refine s_call_R rfl Tryz.func31 (frc (by with_unfolding_all rfl)) rfl ?_
 refine tS ?_
 apply o_val rfl rfl (ones_app hR.one)
 show SOps _ _ _ _ _ _ _ _ _ (hset h []) _
 apply o_alcL dis_nil rfl
 intro b4 hD
 have fin : ∀ (k : Heap) (E : Env) (c' : List AV) (L : List (Nat × AObj)) (n : Nat) (x : Bool × Image × Int), lk E 4 = some (.ptr b4 0) → lk E 5 = some (.bool x.1) → c'.length = 9 → Ext h k → RImg k c' x.2.1 → moveOf m b a = x → Dis k L → L[n]? = some (b4, .cells (c' ++ [I x.2.2])) → hretR Tryz.prog ann 31 Tryz.f31.results.toList h (MoveQ (moveOf m b a) h) .ret E (L.map Prod.fst) (hset k L) := by
  intro k E c' L n x e4 e5 hc' hk hr hx hD hL
  rw [hx]
  refine hR_ret (vs := [.agg (c' ++ [I x.2.2]), .bool x.1]) (.cells (m := 10) e4 (by kernel_rfl) (hset_get hD hL) (sliceL_all (by simp [hc'])) (.tmp e5 .nil)) rfl ?_ ?_
  ·rw [kill_hset hD]
   exact ⟨hk, c', rfl, hr⟩
  ·intro ht
   refine .inl ⟨.refl, c', rfl, tr_i _ _ _ _ ?_ hr⟩
   have := ht
   simp only [tupled, AV.tree, AV.trees, trees_append, Bool.and_eq_true] at this
   exact this.1.1
 refine tA ?_
 apply o_callL hD rfl rfl rfl rfl p90.go
 rintro _ k1 ⟨rfl, hx1⟩ hD
 by_cases hB : 0 ≤ a ∧ a ≤ 1048576
 rotate_left
 ·have e : moveOf m b a = (false, noImage, 0) := by unfold moveOf; rw [if_neg hB]
  rw [BP_false hB]
  refine tW ?_
  apply o_stL (v := .agg Z10) (cs' := Z10) 0 hD rfl rfl rfl rfl rfl rfl rfl (splice_full rfl)
  intro hD
  refine tW ?_
  exact fin k1 _ Z9 [_] 0 _ rfl rfl rfl hx1 noImage_R e hD rfl
 rw [BP_true hB]
 refine tW ?_
 rw [w64 (n := a - b) (by omega) (by omega)]
 apply o_callL hD rfl rfl rfl rfl (p91 (RImg.mono _ _ _ _ hx1 hR) hw hr hl hs)
 rintro _ k2 ⟨hy, c', rfl, hR'⟩ hD
 replace hx1 := hx1.trans hy
 have hR0 := hR'
 obtain ⟨wc, wm, wg, ww, wr, ws, wf, rfl, _⟩ := hR0
 refine tW ?_
 apply o_alcL hD rfl
 intro b6 hD
 apply o_stL (v := .agg [wc, wm, I _, I _, wg, ww, wr, ws, wf]) (cs' := [wc, wm, I _, I _, wg, ww, wr, ws, wf]) 0 hD rfl rfl rfl rfl rfl rfl hR'.one (splice_full rfl)
 intro hD
 cases hok : mvOk b (a - b) m with
 | false =>
  have e : moveOf m b a = (false, noImage, 0) := by unfold moveOf; rw [if_pos hB, if_neg (by rw [hok]; simp)]
  refine tW ?_
  apply o_stL (v := .agg Z10) (cs' := Z10) 1 hD rfl rfl rfl rfl rfl rfl rfl (splice_full rfl)
  intro hD
  refine tW ?_
  exact fin k2 _ Z9 [_, _] 1 _ rfl rfl rfl hx1 noImage_R e hD rfl
 | true =>
  have e : moveOf m b a = (true, mvd b (a - b) m, a) := by unfold moveOf; rw [if_pos hB, if_pos hok]
  refine tW ?_
  apply o_ldnL 0 hD rfl rfl rfl rfl rfl
  refine tW ?_
  apply o_stL (v := .agg [wc, wm, I _, I _, wg, ww, wr, ws, wf, I a]) (cs' := [wc, wm, I _, I _, wg, ww, wr, ws, wf, I a]) 1 hD rfl rfl rfl rfl rfl rfl (ones_app hR'.one) (splice_full rfl)
  intro hD
  refine tW ?_
  exact fin k2 _ [wc, wm, I _, I _, wg, ww, wr, ws, wf] [_, _] 1 (true, mvd b (a - b) m, a) rfl rfl rfl hx1 hR' e hD rfl
end Go.Proofs
end
section
open Go Go.Abs Go.Proofs.SlimCode Go.Img
namespace Go.Img
open Go.Proofs
def mvF (fr by' : Int) (s : List Int × Bool) (rs : List Nat) : List Int × Bool := rs.foldl (mvStep fr by') s
theorem mvF_len {fr by' : Int} : ∀ (rs : List Nat) (s : List Int × Bool), (mvF fr by' s rs).1.length = s.1.length
 | [], _ => rfl
 | r :: rs, s => (mvF_len rs _).trans (by simp [mvStep])
theorem mvC_zero {b : Int} : mvC b 0 = 0 := if_pos rfl
theorem step_get {fr by' : Int} {s : List Int × Bool} {r i : Nat} : (mvStep fr by' s r).1.getD i 0 = if i = r then mvC by' (s.1.getD r 0) else s.1.getD i 0 := by
 show (s.1.set r _).getD i 0 = _
 rw [List.getD_eq_getElem?_getD, List.getElem?_set]
 by_cases e : r = i
 ·subst e
  rw [if_pos rfl, if_pos rfl]
  split
  ·rfl
  ·rename_i h
   rw [List.getD_eq_getElem?_getD, List.getElem?_eq_none (by omega)]
   exact mvC_zero.symm
 ·rw [if_neg e, if_neg (fun h => e h.symm), List.getD_eq_getElem?_getD]
theorem mvF_get {fr by' : Int} {i : Nat} : ∀ {rs : List Nat} {s : List Int × Bool}, rs.Nodup → (mvF fr by' s rs).1.getD i 0 = if i ∈ rs then mvC by' (s.1.getD i 0) else s.1.getD i 0
 | [], s, _ => by simp [mvF]
 | r :: rs, s, h => by
  have hn := List.nodup_cons.1 h
  show (mvF fr by' (mvStep fr by' s r) rs).1.getD i 0 = _
  rw [mvF_get hn.2, step_get]
  by_cases e : i = r
  ·subst e
   rw [if_neg hn.1, if_pos rfl, if_pos (.head _)]
  ·simp only [List.mem_cons, e, false_or, ↓reduceIte]
theorem mvF_ok {fr by' : Int} : ∀ {rs : List Nat} {s : List Int × Bool}, rs.Nodup → (∀ r ∈ rs, mvG fr (s.1.getD r 0) = true) → (mvF fr by' s rs).2 = s.2
 | [], _, _, _ => rfl
 | r :: rs, s, h, hg => by
  have hn := List.nodup_cons.1 h
  show (mvF fr by' (mvStep fr by' s r) rs).2 = _
  rw [mvF_ok hn.2 fun x hx => ?_]
  ·show (s.2 && mvG fr (s.1.getD r 0)) = s.2
   rw [hg r (.head _), Bool.and_true]
  ·rw [step_get, if_neg fun e => hn.1 (by rw [← e]; exact hx)]
   exact hg x (.tail _ hx)
theorem list_getD {a b : List Int} (hl : a.length = b.length) (h : ∀ i, a.getD i 0 = b.getD i 0) : a = b := by
 apply List.ext_getElem hl
 intro i h1 h2
 have := h i
 rwa [List.getD_eq_getElem?_getD, List.getD_eq_getElem?_getD, List.getElem?_eq_getElem h1, List.getElem?_eq_getElem h2] at this
theorem mvC_mvC {x b c : Int} (hx : 0 ≤ x ∧ x ≤ 1048576) (hb : 0 ≤ b ∧ b ≤ 1048576) (_hc : 0 ≤ c ∧ c ≤ 1048576) : mvC (c - b) (mvC b x) = mvC c x := by
 unfold mvC w32
 by_cases e : x = 0
 ·simp [e]
 ·rw [if_neg e, if_neg e, if_neg (by omega)]
  omega
theorem mvG_mvC {x b : Int} (hx : 0 ≤ x ∧ x ≤ 1048576) (hb : 0 ≤ b ∧ b ≤ 1048576) : mvG b (mvC b x) = true := by
 unfold mvG mvC w32
 by_cases e : x = 0
 ·simp [e]
 ·rw [if_neg e]
  simp
  omega
theorem mvF_twice {b c : Int} {w : List Int} {g g' k : Bool} {rs : List Nat} (hn : rs.Nodup) (hx : ∀ r ∈ rs, 0 ≤ w.getD r 0 ∧ w.getD r 0 ≤ 1048576) (hb : 0 ≤ b ∧ b ≤ 1048576) (hc : 0 ≤ c ∧ c ≤ 1048576) :
  (mvF b (c - b) ((mvF 0 b (w, g) rs).1, g') rs).1 = (mvF 0 c (w, k) rs).1 ∧ (mvF b (c - b) ((mvF 0 b (w, g) rs).1, g') rs).2 = g' := by
 constructor
 ·apply list_getD
  ·rw [mvF_len, mvF_len, mvF_len]
  ·intro i
   rw [mvF_get hn, mvF_get hn, mvF_get hn]
   by_cases h : i ∈ rs
   ·simp only [if_pos h]
    exact mvC_mvC (hx i h) hb hc
   ·simp only [if_neg h]
 ·rw [mvF_ok hn fun r hr => ?_]
  rw [mvF_get hn, if_pos hr]
  exact mvG_mvC (hx r hr) hb
def relN (m : Image) : List Nat := m.rel.map Int.toNat
def statN (m : Image) : List Nat := (List.range m.stat.length).filter fun i => m.statref.getD i false
theorem mvW_F {fr by' : Int} {m : Image} : mvW fr by' m m.rel.length = mvF fr by' (m.words, true) (relN m) := by
 unfold mvW mvF relN
 rw [List.take_length, List.foldl_map]
theorem mvS_F {fr by' : Int} {m : Image} {g : Bool} : mvS fr by' m g m.stat.length = mvF fr by' (m.stat, g) (statN m) := by
 unfold mvS mvF statN
 rw [List.foldl_filter]
 rfl
theorem refsAt_lt {m : Image} {a : Nat} {r : Int} (h : r ∈ refsAt m a) : (a + 2 : Nat) ≤ r ∧ r < ((a + 2 + obN m a : Nat) : Int) := by
 obtain ⟨i, hi, rfl⟩ := List.mem_map.1 h
 have := List.mem_range.1 (List.mem_filter.1 hi).1
 omega
theorem refsAt_inc {m : Image} {a : Nat} : (refsAt m a).Pairwise (· < ·) := by
 unfold refsAt refsTo
 rw [List.pairwise_map]
 refine List.Pairwise.imp ?_ (List.Pairwise.filter _ List.pairwise_lt_range)
 intro x y h
 omega
theorem rel_inc {m : Image} : ∀ (n : Nat) (a : Nat) (l : List Nat), m.words.length - a ≤ n → scan m.words a = some l → (relOf m l).Pairwise (· < ·) ∧ ∀ r ∈ relOf m l, (a : Int) ≤ r := by
 intro n
 induction n with
 | zero =>
  intro a l hn h
  rw [scan_done (by omega)] at h
  cases h
  exact ⟨.nil, fun r hr => by cases hr⟩
 | succ n ih =>
  intro a l hn h
  by_cases ha : a < m.words.length
  ·obtain ⟨_, l2, rfl, h2⟩ := scan_cons ha h
   obtain ⟨i1, i2⟩ := ih _ _ (by omega) h2
   have e : relOf m (a :: l2) = refsAt m a ++ relOf m l2 := List.flatMap_cons
   rw [e]
   refine ⟨List.pairwise_append.2 ⟨refsAt_inc, i1, fun x hx y hy => ?_⟩, fun r hr => ?_⟩
   ·have h1 := (refsAt_lt hx).2
    have h2 := i2 y hy
    unfold obN wAt at h1
    omega
   ·rcases List.mem_append.1 hr with hr | hr
    ·have := (refsAt_lt hr).1
     omega
    ·have := i2 r hr
     omega
  ·rw [scan_done ha] at h
   cases h
   exact ⟨.nil, fun r hr => by cases hr⟩
structure MovesOk (m : Image) : Prop where
 rn : (relN m).Nodup
 rx : ∀ r ∈ relN m, 0 ≤ m.words.getD r 0 ∧ m.words.getD r 0 ≤ 1048576
 sx : ∀ r ∈ statN m, 0 ≤ m.stat.getD r 0 ∧ m.stat.getD r 0 ≤ 1048576
theorem valid_moves {m : Image} (h : ValidP m) : MovesOk m := by
 obtain ⟨l, h1, h2⟩ := h.heap
 have hlen : m.words.length ≤ 1048576 := (valid_rel h).2.1
 have hs : scan m.words 0 = some l := by
  unfold parse at h1
  rwa [if_pos hlen] at h1
 have hob := scan_mem _ _ _ (Nat.le_refl _) hs
 have href : ∀ x, RefP l x → 0 ≤ x ∧ x ≤ 1048576 := fun x hx => by
  rcases hx with rfl | ⟨h3, h4⟩
  ·omega
  ·have := (hob _ h4).1
   omega
 have hinc := rel_inc _ _ _ (Nat.le_refl _) hs
 refine ⟨?_, fun r hr => ?_, fun r hr => ?_⟩
 ·unfold relN
  rw [← h2.rel, List.Nodup, List.pairwise_map]
  refine hinc.1.imp_of_mem fun {a b} ha hb hab => ?_
  have h5 := hinc.2 a ha
  have h6 := hinc.2 b hb
  omega
 ·obtain ⟨x, hx, rfl⟩ := List.mem_map.1 hr
  rw [← h2.rel] at hx
  exact href _ (h2.refs x hx)
 ·obtain ⟨h3, h4⟩ := List.mem_filter.1 hr
  exact href _ (h2.stat r (List.mem_range.1 h3) h4)
theorem mvd_twice {m : Image} (h : MovesOk m) {b c : Int} (hb : 0 ≤ b ∧ b ≤ 1048576) (hc : 0 ≤ c ∧ c ≤ 1048576) : mvOk b (c - b) (mvd 0 b m) = true ∧ mvd b (c - b) (mvd 0 b m) = mvd 0 c m := by
 have hsn : (statN m).Nodup := List.Pairwise.filter _ List.nodup_range
 have er : relN (mvd 0 b m) = relN m := rfl
 have es : statN (mvd 0 b m) = statN m := by
  unfold statN
  rw [show (mvd 0 b m).stat.length = m.stat.length from mvS_len _]
  rfl
 have ew : (mvd 0 b m).words = (mvF 0 b (m.words, true) (relN m)).1 := by show (mvW 0 b m m.rel.length).1 = _; rw [mvW_F]
 have et : ∀ x, (mvd 0 x m).stat = (mvF 0 x (m.stat, (mvW 0 x m m.rel.length).2) (statN m)).1 := fun x => by show (mvS 0 x m _ m.stat.length).1 = _; rw [mvS_F]
 have w2 := mvF_twice (g := true) (g' := true) (k := true) h.rn h.rx hb hc
 have hW : mvW b (c - b) (mvd 0 b m) (mvd 0 b m).rel.length = mvF b (c - b) ((mvF 0 b (m.words, true) (relN m)).1, true) (relN m) := by rw [mvW_F, er, ew]
 have s2 := mvF_twice (g := (mvW 0 b m m.rel.length).2) (g' := true) (k := (mvW 0 c m m.rel.length).2) hsn h.sx hb hc
 have hS : mvS b (c - b) (mvd 0 b m) (mvW b (c - b) (mvd 0 b m) (mvd 0 b m).rel.length).2 (mvd 0 b m).stat.length = mvF b (c - b) ((mvF 0 b (m.stat, (mvW 0 b m m.rel.length).2) (statN m)).1, true) (statN m) := by rw [mvS_F, es, hW, w2.2, et]
 constructor
 ·show (mvS b (c - b) (mvd 0 b m) _ _).2 = true
  rw [hS, s2.2]
 ·show ({ mvd 0 b m with words := _, stat := _ } : Image) = _
  rw [hS, hW, w2.1, s2.1, ← et]
  show ({ m with words := (mvF 0 c (m.words, true) (relN m)).1, stat := (mvd 0 c m).stat } : Image) = mvd 0 c m
  rw [← mvW_F]
  rfl
end Go.Img
end
section
open Go Go.Abs Go.Proofs.SlimCode Go.Img
set_option maxRecDepth 100000
namespace Go.Proofs
theorem nums_one {k : IntKind} {l : List Int} : (nums k l).all AV.one = true := by
 rw [List.all_eq_true]
 intro x hx
 obtain ⟨n, _, rfl⟩ := List.mem_map.1 hx
 rfl
theorem sl_nums {k : IntKind} {h : Heap} {v : AV} {l : List Int} (H : Sl (RN k) 1 h v l) : VSl h 1 v (nums k l) l.length := by
 obtain ⟨cs, h1, h2⟩ := H
 obtain rfl : cs = nums k l := Chunks.map h2
 exact h1
section
variable {P : Program} {A : Ann} {f nt : Nat} {E : Env} {bx : List Nat} {hb : Heap} {L : List (Nat × AObj)} {Q : AX → Env → List Nat → Heap → Prop} {cls : List Cl}
theorem x_cloneL {d : Nat} {y : SX} {r : List SO} {vy : AV} {l : List Int} (hD : Dis hb L) (hlt : (decide (d < nt)) = true) (hy : ev (lk E) y = some vy) (hv : VSl hb 1 vy (nums .i32 l) l.length) (hl : l.length ≤ 1048576)
  (H : ∀ v h1, OSl hb 1 v (nums .i32 l) l.length h1 → Dis h1 L → SOpsX P A f nt (L.map Prod.fst) cls r ((d, v) :: E) bx (hset h1 L) Q) : SOpsX P A f nt (L.map Prod.fst) (.A :: cls) (⟨some d, none, .app 1 4 (.c (.nil .sl)) y⟩ :: r) E bx (hset hb L) Q := by
 refine x_AL (R := fun E' bx' h1 => ∃ v, E' = (d, v) :: E ∧ bx' = bx ∧ OSl hb 1 v (nums .i32 l) l.length h1) hD
  (o_appO (old := []) (l := 0) (new := nums .i32 l) (n := l.length) rfl hlt rfl hy (.nil .refl) (srcOf_V hv) hv.len nums_one (by omega) fun v h1 O _ => o_nil ⟨rfl, v, rfl, rfl, by simpa using O⟩) ?_
 rintro _ _ h1 ⟨v, rfl, rfl, q⟩ hD'
 exact H v h1 q hD'
theorem x_st1D {dst : Option Nat} {x y : SX} {r : List SO} {id off : Nat} {v : AV} {cs : List AV} {h : Heap} (hd : dstOk' nt dst = true) (hx : ev (lk E) x = some (.ptr id off)) (hy : ev (lk E) y = some v) (ho : v.one = true) (hid : h id = some (.cells cs)) (hlt : off < cs.length)
  (H : SOpsX P A f nt [] cls r (undefE dst E) bx (upd h id (some (.cells (cs.set off v)))) Q) : SOpsX P A f nt [] (.D :: cls) (⟨dst, none, .st x y 1⟩ :: r) E bx h Q := by
 refine x_D (R := fun E' bx' k' => E' = undefE dst E ∧ bx' = bx ∧ k' = upd h id (some (.cells (cs.set off v)))) (o_st1 rfl hd hx hy ho hid hlt (o_nil ⟨rfl, rfl, rfl, rfl⟩)) ?_
 rintro _ _ _ ⟨rfl, rfl, rfl⟩
 exact ⟨fun _ h => by (cases h), H⟩
end
theorem set_zero {a : List Int} {r : Nat} (h : a.getD r 0 = 0) : a.set r 0 = a := by
 apply List.ext_getElem?
 intro n
 rw [List.getElem?_set]
 split
 ·rename_i e
  subst e
  rw [List.getD_eq_getElem?_getD] at h
  split
  ·rename_i hlt
   rw [List.getElem?_eq_getElem hlt] at h ⊢
   exact congrArg some h.symm
  ·rename_i hlt
   rw [List.getElem?_eq_none (by omega)]
 ·rfl
abbrev LmL (b2 b4 : Nat) (c : List AV) : List (Nat × AObj) := [(b4, .cells Z9), (b2, .cells c)]
theorem own_up {G : Heap} {L : List (Nat × AObj)} {i : Nat} {o : AObj} (hD : Dis G L) (hi : G i ≠ none) : upd (hset G L) i (some o) = hset (upd G i (some o)) L ∧ Dis (upd G i (some o)) L := by
 have hni : i ∉ L.map Prod.fst := fun h => hi (dis_ids hD i h)
 refine ⟨(hset_upd hni).symm, dis_of (dis_nodup hD) fun id hid => ?_⟩
 rw [upd_ne fun e => hni (by rw [← e]; exact hid)]
 exact dis_ids hD id hid
set_option maxHeartbeats 1000000 in
theorem p30 {h : Heap} {c : List AV} {m : Image} {by' : Int} (hc : RImg h c m) (hw : m.WF) (hr : ∀ r ∈ m.rel, 0 ≤ r ∧ r.toNat < m.words.length) (hl : m.words.length ≤ 1048576) (hs : m.stat.length ≤ 1048576) (hf : m.stat.length ≤ m.statref.length) (hb : I32 by') :
  HCallC Tryz.prog ann 30 [.agg c, .int .i32 by'] h fun v h' => Ext h h' ∧ ∃ c', v = .agg c' ∧ RImg h' c' (mvd 0 by' m) := by
 have hone := hc.one
 have lr : Len m.rel := hw.rel.1
 unfold Len at lr
 unfold I32 at hb
 obtain ⟨vc, vm, vg, vw, vr, vs, vf, rfl, v1, v2, v3, v4, v5, v6, v7⟩ := hc
 refine s_call_R rfl Tryz.func30 (frc (by with_unfolding_all rfl)) rfl ?_
 refine tA ?_
 show SOps _ _ _ _ _ _ _ _ _ (hset h []) _
 apply o_hboxL (v := .agg [vc, vm, I m.entry, I m.need, vg, vw, vr, vs, vf]) dis_nil rfl rfl hone
 intro b2 hD
 apply o_alcL hD rfl
 intro b4 hD
 show SOps _ _ _ _ _ _ _ _ [b4, b2] (hset h (LmL b2 b4 [vc, vm, I m.entry, I m.need, vg, vw, vr, vs, vf])) _
 change Dis h (LmL b2 b4 [vc, vm, I m.entry, I m.need, vg, vw, vr, vs, vf]) at hD
 refine tA ?_
 refine s_regL [.A, .B, .A, .A, .B, .A, .A, .D, .A, .D] hD ?_
 apply x_v rfl rfl trivial
 apply x_ldL 1 hD rfl rfl rfl rfl
 apply x_cloneL hD rfl rfl (sl_nums v4) hl
 intro w G1 O1 hD
 apply x_v rfl rfl trivial
 apply x_ldL 1 hD rfl rfl rfl rfl
 apply x_cloneL hD rfl rfl (sl_nums (v6.mono RN.mono O1.ext)) hs
 intro s G O2 hD
 apply x_v rfl rfl trivial
 apply x_st1L 1 hD rfl rfl rfl rfl O1.ones (show 5 < 9 by decide)
 intro hD
 apply x_v rfl rfl trivial
 apply x_st1L 1 hD rfl rfl rfl rfl O2.ones (show 7 < 9 by decide)
 intro hD
 apply x_nil
 change Dis G (LmL b2 b4 [vc, vm, I m.entry, I m.need, vg, w, vr, s, vf]) at hD
 show ssq _ _ _ _ _ _ _ _ _ (hset G (LmL b2 b4 [vc, vm, I m.entry, I m.need, vg, w, vr, s, vf]))
 have O : Own2 h w s m.words m.stat G := own2_of O1 O2
 clear O1 O2
 refine tA ?_
 refine s_loop (fun k : Nat => [(1, .int .i32 by'), (2, .ptr b2 0), (4, .ptr b4 0), (5, I (k : Int))]) (fun k h' => k ≤ m.rel.length ∧ ∃ G, h' = hset G (LmL b2 b4 [vc, vm, I m.entry, I m.need, vg, w, vr, s, vf]) ∧ Dis G (LmL b2 b4 [vc, vm, I m.entry, I m.need, vg, w, vr, s, vf]) ∧ Own2 h w s (mvW 0 by' m k).1 m.stat G) (fun k => m.rel.length - k) 0 tU ⟨by omega, G, rfl, hD, O⟩ ?_
 clear hD O
 rintro k _ ⟨hk, G, rfl, hD, O⟩
 refine tA ?_
 apply o_ldL 1 hD rfl rfl rfl rfl rfl
 apply o_lenS rfl rfl (v5.mono RN.mono (O.o1.ext.trans (ext_hsetD hD)))
 refine oI (k < m.rel.length) (fun H => ?_) (fun H => ?_)
 ·have hsucc := mvW_succ (fr := 0) (by' := by') H
  have hwl := mvW_len (fr := 0) (by' := by') (m := m) k
  have hwI := mvW_I (fr := 0) (by' := by') hw k
  have hr' := hr _ (List.getElem_mem H)
  obtain ⟨r, hrk⟩ : ∃ r, m.rel[k] = r := ⟨_, rfl⟩
  rw [hrk] at hsucc hr'
  have v5' := v5.mono RN.mono (O.o1.ext.trans (ext_hsetD hD))
  have g2 := hset_get (k := 1) hD rfl
  generalize mvW 0 by' m k = st at hsucc hwl hwI hD O ⊢
  obtain ⟨a, g⟩ := st
  simp only at hwl hwI hD O ⊢
  obtain ⟨i, rfl, hi, hup⟩ := O.poke (r := r.toNat) (by rw [hwl]; exact hr'.2)
  have hv : (nums .i32 a)[r.toNat]? = some (.int .i32 (a.getD r.toNat 0)) := nums_at (by rw [hwl]; exact hr'.2)
  have hI : I32 (a.getD r.toNat 0) := by
   rw [List.getD_eq_getElem?_getD, List.getElem?_eq_getElem (by rw [hwl]; exact hr'.2)]
   exact hwI _ (List.getElem_mem _)
  have hi' := (ext_hsetD hD) _ _ hi
  obtain ⟨e1, e2⟩ := own_up (o := .cells ((nums .i32 a).set r.toNat (.int .i32 (mvC by' (a.getD r.toNat 0))))) hD (show G i ≠ none by rw [hi]; simp)
  refine tA ?_
  apply s_regX [] [.A, .F, .A, .F, .A, .A, .F, .A, .F, .A] (fun _ h => by cases h) rfl
  apply x_v rfl rfl trivial
  apply x_ldF1 rfl rfl g2 rfl
  apply x_v rfl rfl trivial
  apply x_ldF1 rfl rfl g2 rfl
  apply x_v rfl rfl trivial
  apply x_ia0 rfl rfl rfl v5' H
  intro p d hp hd _
  obtain rfl : d = [I r] := by rw [← hrk]; exact hd
  apply x_ldF rfl rfl hp (.one rfl)
  apply x_as (w := .ptr i r.toNat) rfl rfl ⟨rfl, hr'.1, by omega⟩ (by simp)
  apply x_ldF1 rfl rfl hi' hv
  have hms : mvStep 0 by' (a, g) r.toNat = (a.set r.toNat (mvC by' (a.getD r.toNat 0)), g && mvG 0 (a.getD r.toNat 0)) := rfl
  rw [hms] at hsucc
  by_cases hx0 : a.getD r.toNat 0 = 0
  ·apply x_as (w := .bool false) rfl rfl trivial (by rw [hx0]; rfl)
   apply x_nil
   refine tA ?_
   apply o_as (w := I ((k + 1 : Nat) : Int)) rfl rfl trivial (by rw [w64 (by omega) (by omega)]; rfl)
   refine tA ?_
   refine ⟨k + 1, by simp only; omega, tU, rfl, by omega, G, rfl, hD, ?_⟩
   rw [hsucc, hx0]
   rw [show a.set r.toNat (mvC by' 0) = a from set_zero hx0]
   exact O
  ·apply x_as (w := .bool true) rfl rfl trivial (by simpa using hx0)
   apply x_nil
   refine tA ?_
   apply s_regX [] [.A, .F, .A, .F, .A, .A, .F, .A, .F, .A, .A, .A, .D] (fun _ h => by cases h) rfl
   apply x_v rfl rfl trivial
   apply x_ldF1 rfl rfl g2 rfl
   apply x_v rfl rfl trivial
   apply x_ldF1 rfl rfl g2 rfl
   apply x_v rfl rfl trivial
   apply x_ia0 rfl rfl rfl v5' H
   intro p d hp hd _
   obtain rfl : d = [I r] := by rw [← hrk]; exact hd
   apply x_ldF rfl rfl hp (.one rfl)
   apply x_as (w := .ptr i r.toNat) rfl rfl ⟨rfl, hr'.1, by omega⟩ (by simp)
   apply x_ldF1 rfl rfl hi' hv
   apply x_v rfl rfl trivial
   apply x_as (w := .int .i32 (mvC by' (a.getD r.toNat 0))) rfl rfl trivial (by rw [show mvC by' (a.getD r.toNat 0) = Img.w32 (a.getD r.toNat 0 + by') from if_neg hx0, ← wrapC, w32 hb.1 hb.2])
   apply x_as (w := .ptr i r.toNat) rfl rfl ⟨rfl, hr'.1, by omega⟩ (by simp)
   apply x_st1D rfl rfl rfl rfl hi' (by simpa [nums, hwl] using hr'.2)
   apply x_nil
   rw [e1]
   refine tA ?_
   apply o_as (w := I ((k + 1 : Nat) : Int)) rfl rfl trivial (by rw [w64 (by omega) (by omega)]; rfl)
   refine tA ?_
   refine ⟨k + 1, by simp only; omega, tU, rfl, by omega, _, rfl, e2, ?_⟩
   rw [hsucc]
   exact hup _
 obtain rfl : k = m.rel.length := by omega
 have ea : (mvW 0 by' m m.rel.length).1 = (mvd 0 by' m).words := rfl
 have eb : (mvd 0 by' m).stat = (mvS 0 by' m (mvW 0 by' m m.rel.length).2 m.stat.length).1 := rfl
 rw [ea] at O
 generalize (mvW 0 by' m m.rel.length).2 = g0 at eb
 clear hk H
 refine tA ?_
 refine s_loop (fun k : Nat => [(1, .int .i32 by'), (2, .ptr b2 0), (4, .ptr b4 0), (6, I (k : Int))]) (fun k h' => k ≤ m.stat.length ∧ ∃ G, h' = hset G (LmL b2 b4 [vc, vm, I m.entry, I m.need, vg, w, vr, s, vf]) ∧ Dis G (LmL b2 b4 [vc, vm, I m.entry, I m.need, vg, w, vr, s, vf]) ∧ Own2 h w s (mvd 0 by' m).words (mvS 0 by' m g0 k).1 G) (fun k => m.stat.length - k) 0 tU ⟨by omega, G, rfl, hD, O⟩ ?_
 clear hD O
 rintro k _ ⟨hk, G, rfl, hD, O⟩
 have hwl := mvS_len (fr := 0) (by' := by') (m := m) (g := g0) k
 refine tA ?_
 apply o_ldL 1 hD rfl rfl rfl rfl rfl
 apply o_lenV rfl rfl (O.o2.upE (ext_hsetD hD)).view
 rw [hwl]
 refine oI (k < m.stat.length) (fun H => ?_) (fun H => ?_)
 ·have hsucc := mvS_succ (fr := 0) (by' := by') (m := m) (g := g0) (k := k)
  have hwI := mvS_I (fr := 0) (by' := by') (g := g0) hw k
  have H2 : k < m.statref.length := by omega
  have v7' := v7.mono RB.mono (O.o1.ext.trans (ext_hsetD hD))
  generalize mvS 0 by' m g0 k = st at hsucc hwl hwI hD O ⊢
  obtain ⟨b, g⟩ := st
  simp only at hwl hwI hD O ⊢
  unfold stStep at hsucc
  rw [show m.statref.getD k false = m.statref[k] by rw [List.getD_eq_getElem?_getD, List.getElem?_eq_getElem H2]; rfl] at hsucc
  refine tA ?_
  apply o_ldL 1 hD rfl rfl rfl rfl rfl
  refine tA ?_
  apply o_iaS rfl rfl rfl v7' H2
  intro p d hp hd _
  obtain rfl : d = [.bool m.statref[k]] := hd
  refine tA ?_
  apply o_ldG rfl rfl hp (.one rfl) (fun h => by omega)
  generalize m.statref[k] = f at hsucc
  cases f with
  | false =>
   simp only [Bool.false_eq_true, if_false] at hsucc
   refine tA ?_
   apply o_as (w := I ((k + 1 : Nat) : Int)) rfl rfl trivial (by rw [w64 (by omega) (by omega)]; rfl)
   refine tA ?_
   exact ⟨k + 1, by simp only; omega, tU, rfl, by omega, G, rfl, hD, by rw [hsucc]; exact O⟩
  | true =>
   simp only [if_true] at hsucc
   obtain ⟨i, rfl, hi, hup⟩ := O.symm.poke (r := k) (by rw [hwl]; exact H)
   have hv : (nums .i32 b)[k]? = some (.int .i32 (b.getD k 0)) := nums_at (by rw [hwl]; exact H)
   have hI : I32 (b.getD k 0) := by
    rw [List.getD_eq_getElem?_getD, List.getElem?_eq_getElem (by rw [hwl]; exact H)]
    exact hwI _ (List.getElem_mem _)
   have hi' := (ext_hsetD hD) _ _ hi
   obtain ⟨e1, e2⟩ := own_up (o := .cells ((nums .i32 b).set k (.int .i32 (mvC by' (b.getD k 0))))) hD (show G i ≠ none by rw [hi]; simp)
   have hms : mvStep 0 by' (b, g) k = (b.set k (mvC by' (b.getD k 0)), g && mvG 0 (b.getD k 0)) := rfl
   rw [hms] at hsucc
   refine tA ?_
   apply o_ldL 1 hD rfl rfl rfl rfl rfl
   refine tA ?_
   apply o_as (w := .ptr i k) rfl rfl ⟨rfl, by omega, by omega⟩ (by simp)
   refine tA ?_
   apply o_ldh rfl rfl hi' (fun h => by omega) hv
   refine tA ?_
   by_cases hx0 : b.getD k 0 = 0
   ·apply o_as (w := .bool false) rfl rfl trivial (by rw [hx0]; rfl)
    refine tA ?_
    apply o_as (w := I ((k + 1 : Nat) : Int)) rfl rfl trivial (by rw [w64 (by omega) (by omega)]; rfl)
    refine tA ?_
    refine ⟨k + 1, by simp only; omega, tU, rfl, by omega, G, rfl, hD, ?_⟩
    rw [hsucc, hx0, show b.set k (mvC by' 0) = b from set_zero hx0]
    exact O
   ·apply o_as (w := .bool true) rfl rfl trivial (by simpa using hx0)
    refine tA ?_
    apply o_ldL 1 hD rfl rfl rfl rfl rfl
    refine tA ?_
    apply o_as (w := .ptr i k) rfl rfl ⟨rfl, by omega, by omega⟩ (by simp)
    apply o_ldh rfl rfl hi' (fun h => by omega) hv
    refine tA ?_
    apply o_as (w := .int .i32 (mvC by' (b.getD k 0))) rfl rfl trivial (by rw [show mvC by' (b.getD k 0) = Img.w32 (b.getD k 0 + by') from if_neg hx0, ← wrapC, w32 hb.1 hb.2])
    apply o_as (w := .ptr i k) rfl rfl ⟨rfl, by omega, by omega⟩ (by simp)
    apply o_st1 rfl rfl rfl rfl rfl hi' (by simpa [nums, hwl] using H)
    rw [e1]
    refine tA ?_
    apply o_as (w := I ((k + 1 : Nat) : Int)) rfl rfl trivial (by rw [w64 (by omega) (by omega)]; rfl)
    refine tA ?_
    refine ⟨k + 1, by simp only; omega, tU, rfl, by omega, _, rfl, e2, ?_⟩
    rw [hsucc]
    exact (hup _).symm
 obtain rfl : k = m.stat.length := by omega
 rw [← eb] at O
 have hx : Ext h G := O.o1.ext
 have hcy : RImg G [vc, vm, I m.entry, I m.need, vg, w, vr, s, vf] (mvd 0 by' m) := ⟨vc, vm, vg, w, vr, s, vf, rfl, v1.mono RCls.mono hx, v2.mono RMth.mono hx, v3.mono RN.mono hx, ⟨_, O.o1.view, Chunks.of_map⟩, v5.mono RN.mono hx, ⟨_, O.o2.view, Chunks.of_map⟩, v7.mono RB.mono hx⟩
 refine tA ?_
 apply o_ldnL 1 hD rfl rfl rfl rfl rfl
 apply o_stL (v := .agg [vc, vm, I m.entry, I m.need, vg, w, vr, s, vf]) (cs' := [vc, vm, I m.entry, I m.need, vg, w, vr, s, vf]) 0 hD rfl rfl rfl rfl rfl rfl hcy.one (splice_full rfl)
 intro hD
 refine tA ?_
 refine hR_ret (vs := [.agg [vc, vm, I m.entry, I m.need, vg, w, vr, s, vf]]) (.cells (m := 9) rfl (by kernel_rfl) (hset_get (k := 0) hD rfl) rfl .nil) rfl ?_ ?_
 ·rw [show killL [b4, b2] _ = G from kill_hset hD]
  exact ⟨hx, _, rfl, hcy⟩
 ·intro ht
  exact .inl ⟨.refl, _, rfl, tr_i _ _ _ _ (by simpa [tupled, AV.tree, AV.trees] using ht) hcy⟩
end Go.Proofs
end
section
open Go Go.Abs Go.Proofs.SlimCode Go.Img
set_option maxRecDepth 100000
namespace Go.Proofs
theorem p16v {h : Heap} {c : List AV} {m : Image} (hc : RImg h c m) (hw : m.WF) (hb : (Img.body m).length ≤ 50000) : HCallC Tryz.prog ann 16 [.agg c] h fun v h' => OSl h 1 v (ubs (encode m)) (encode m).length h' :=
 (p16 hc hw (by omega)).mono fun v h' q => by
  rcases q with ⟨_, O⟩ | ⟨hq, _⟩
  ·exact O
  ·exfalso
   unfold size at hq
   omega
theorem small_body : (Img.body small).length ≤ 50000 := small_len small_WF small_Small
theorem enc_len {m : Image} (h : (Img.body m).length ≤ 50000) : (encode m).length ≤ 9223372036854775807 := by rw [encode_len]; unfold size; omega
theorem load_small {a : Int} (h : 0 ≤ a ∧ a ≤ 1048576) : loadOf (encode small) a = (0, mvd 0 a small, a) := by
 unfold loadOf
 rw [dec_small]
 simp only [if_pos valid_small, if_pos h]
theorem load_low : loadOf (encode small) (-1) = (9, noImage, 0) := by
 unfold loadOf
 rw [dec_small]
 simp only [if_pos valid_small]
 rw [if_neg (by omega)]
theorem load_nil {a : Int} : loadOf [] a = (6, noImage, 0) := by
 unfold loadOf
 rw [dec_none]
theorem no_body : (Img.body noImage).length ≤ 50000 := by simp [Img.body, eList, noImage, put, zz, leb]
theorem load_no {a : Int} : loadOf (encode noImage) a = (1, noImage, 0) := by
 unfold loadOf
 rw [decode_encode noImage_WF (by have := no_body; unfold size; omega)]
 simp only [if_neg bad_none]
theorem p89 : PureC Tryz.prog ann 89 [] (.bool true) := by
 refine s_pure_of Tryz.func89 (frc (by with_unfolding_all rfl)) rfl rfl rfl ?_
 refine tV ?_
 (refine tG ?_; (with_reducible apply o_call); exact rfl; exact rfl; exact rfl; exact p24)
 refine tW ?_
 (first | apply sret_ret | apply sret_norm); exact res_tmp (vs := [_]) rfl rfl
theorem small_rel : ∀ r ∈ small.rel, 0 ≤ r ∧ r.toNat < small.words.length := by decide
theorem mv100 : mvd 0 100 small = { small with words := [0, 0, 10, 1, 101], stat := [5, 103] } := rfl
theorem mv100_rel : ∀ r ∈ (mvd 0 100 small).rel, 0 ≤ r ∧ r.toNat < (mvd 0 100 small).words.length := by rw [mv100]; exact small_rel
theorem move100 : moveOf (mvd 0 100 small) 100 0 = (true, small, 0) := by
 have e : mvd 100 (0 - 100) (mvd 0 100 small) = small := rfl
 have e2 : mvOk 100 (0 - 100) (mvd 0 100 small) = true := rfl
 unfold moveOf
 rw [if_pos (by omega), if_pos e2, e]
theorem p28 : PureC Tryz.prog ann 28 [] (.bool true) := by
 refine s_pure_of Tryz.func28 (frc (by with_unfolding_all rfl)) rfl rfl rfl ?_
 refine tA ?_
 show SOps _ _ _ _ _ _ _ _ _ (hset hp0 []) _
 apply o_callL dis_nil rfl rfl rfl rfl p27
 rintro _ k1 ⟨_, c1, rfl, hM⟩ hD
 have hM0 := hM
 obtain ⟨vc, vm, vg, vw, vr, vs, vf, rfl, _⟩ := hM0
 refine tA ?_
 apply o_alcL hD rfl
 intro b1 hD
 apply o_stL (v := .agg [vc, vm, I _, I _, vg, vw, vr, vs, vf]) (cs' := [vc, vm, I _, I _, vg, vw, vr, vs, vf]) 0 hD rfl rfl rfl rfl rfl rfl hM.one (splice_full rfl)
 intro hD
 refine tA ?_
 apply o_ldnL 0 hD rfl rfl rfl rfl rfl
 apply o_callL hD rfl rfl rfl rfl (p16v hM small_WF small_body)
 rintro e1 k2 O hD
 replace hM := RImg.mono _ _ _ _ O.ext hM
 apply o_callL hD rfl rfl rfl rfl (p29 (a := 100) O.view (enc_len small_body))
 rintro _ k3 ⟨hx, c2, rfl, hM2⟩ hD
 rw [load_small (by omega)] at hM2 ⊢
 replace hM := RImg.mono _ _ _ _ hx hM
 clear hx O
 have hM0 := hM2
 obtain ⟨wc, wm, wg, ww, wr, ws, wf, rfl, _⟩ := hM0
 refine tA ?_
 apply o_alcL hD rfl
 intro b2 hD
 apply o_stL (v := .agg [wc, wm, I _, I _, wg, ww, wr, ws, wf, I 100]) (cs' := [wc, wm, I _, I _, wg, ww, wr, ws, wf, I 100]) 0 hD rfl rfl rfl rfl rfl rfl (ones_app hM2.one) (splice_full rfl)
 intro hD
 refine tA ?_
 apply o_callL hD rfl rfl rfl rfl (p29 (v := .nil .sl) (bs := []) (a := 0) .nil (by decide))
 rintro _ k4 ⟨hx, c3, rfl, hM3⟩ hD
 rw [load_nil] at hM3 ⊢
 replace hM := RImg.mono _ _ _ _ hx hM
 replace hM2 := RImg.mono _ _ _ _ hx hM2
 clear hx
 have hM0 := hM3
 obtain ⟨_, _, _, _, _, _, _, rfl, _⟩ := hM0
 refine tA ?_
 apply o_alcL hD rfl
 intro b4 hD
 apply o_stL (v := .agg [_, _, I _, I _, _, _, _, _, _, I 0]) (cs' := [_, _, I _, I _, _, _, _, _, _, I 0]) 0 hD rfl rfl rfl rfl rfl rfl (ones_app hM3.one) (splice_full rfl)
 intro hD
 clear hM3
 refine tA ?_
 apply o_ldnL 2 hD rfl rfl rfl rfl rfl
 apply o_callL hD rfl rfl rfl rfl (p16v hM small_WF small_body)
 rintro e2 k5 O hD
 replace hM := RImg.mono _ _ _ _ O.ext hM
 replace hM2 := RImg.mono _ _ _ _ O.ext hM2
 apply o_callL hD rfl rfl rfl rfl (p29 (a := -1) O.view (enc_len small_body))
 rintro _ k6 ⟨hx, c3, rfl, hM3⟩ hD
 rw [load_low] at hM3 ⊢
 replace hM := RImg.mono _ _ _ _ hx hM
 replace hM2 := RImg.mono _ _ _ _ hx hM2
 clear hx O
 have hM0 := hM3
 obtain ⟨_, _, _, _, _, _, _, rfl, _⟩ := hM0
 refine tA ?_
 apply o_alcL hD rfl
 intro b6 hD
 apply o_stL (v := .agg [_, _, I _, I _, _, _, _, _, _, I 0]) (cs' := [_, _, I _, I _, _, _, _, _, _, I 0]) 0 hD rfl rfl rfl rfl rfl rfl (ones_app hM3.one) (splice_full rfl)
 intro hD
 clear hM3
 refine tA ?_
 apply o_val (v := .agg Z9) rfl rfl trivial
 apply o_callL hD rfl rfl rfl rfl (p16v noImage_R noImage_WF no_body)
 rintro e3 k7 O hD
 replace hM := RImg.mono _ _ _ _ O.ext hM
 replace hM2 := RImg.mono _ _ _ _ O.ext hM2
 apply o_callL hD rfl rfl rfl rfl (p29 (a := 0) O.view (enc_len no_body))
 rintro _ k8 ⟨hx, c3, rfl, hM3⟩ hD
 rw [load_no] at hM3 ⊢
 replace hM := RImg.mono _ _ _ _ hx hM
 replace hM2 := RImg.mono _ _ _ _ hx hM2
 clear hx O
 have hM0 := hM3
 obtain ⟨_, _, _, _, _, _, _, rfl, _⟩ := hM0
 refine tA ?_
 apply o_alcL hD rfl
 intro b8 hD
 apply o_stL (v := .agg [_, _, I _, I _, _, _, _, _, _, I 0]) (cs' := [_, _, I _, I _, _, _, _, _, _, I 0]) 0 hD rfl rfl rfl rfl rfl rfl (ones_app hM3.one) (splice_full rfl)
 intro hD
 clear hM3
 refine tA ?_
 apply o_ldnL 3 hD rfl rfl rfl rfl rfl
 apply o_callL hD rfl rfl rfl rfl (p31 (c := [wc, wm, I _, I _, wg, ww, wr, ws, wf]) (a := 0) (b := 100) hM2 (mvd_WF small_WF) mv100_rel (by rw [mv100]; decide) (by rw [mv100]; decide) (by omega))
 rintro _ k9 ⟨hx, c3, rfl, hM3⟩ hD
 rw [move100] at hM3 ⊢
 replace hM := RImg.mono _ _ _ _ hx hM
 replace hM2 := RImg.mono _ _ _ _ hx hM2
 clear hx
 have hM0 := hM3
 obtain ⟨xc, xm, xg, xw, xr, xs, xf, rfl, _⟩ := hM0
 refine tA ?_
 apply o_alcL hD rfl
 intro b10 hD
 apply o_stL (v := .agg [xc, xm, I _, I _, xg, xw, xr, xs, xf, I 0]) (cs' := [xc, xm, I _, I _, xg, xw, xr, xs, xf, I 0]) 0 hD rfl rfl rfl rfl rfl rfl (ones_app hM3.one) (splice_full rfl)
 intro hD
 have hx := ext_hsetD hD
 rw [mv100] at hM2
 have w4 : Sl (RN .i32) 1 k9 ww [0, 0, 10, 1, 101] := by
  obtain ⟨_, _, _, _, _, _, _, e, _, _, _, h4, _⟩ := hM2
  cases e
  exact h4
 have w6 : Sl (RN .i32) 1 k9 ws [5, 103] := by
  obtain ⟨_, _, _, _, _, _, _, e, _, _, _, _, _, h6, _⟩ := hM2
  cases e
  exact h6
 replace w4 := w4.mono RN.mono hx
 replace w6 := w6.mono RN.mono hx
 replace hM := RImg.mono _ _ _ _ hx hM
 replace hM3 := RImg.mono _ _ _ _ hx hM3
 refine tA ?_
 apply o_ldL 4 hD rfl rfl rfl rfl rfl
 apply o_lenS rfl rfl w4
 apply o_as (w := .bool false) rfl rfl trivial rfl
 refine tA ?_
 apply o_ldL 4 hD rfl rfl rfl rfl rfl
 refine tA ?_
 apply o_lenS rfl rfl w6
 refine tA ?_
 apply o_as (w := .bool false) rfl rfl trivial rfl
 refine tA ?_
 (refine tG ?_; (with_reducible apply o_call); exact rfl; exact rfl; exact rfl; exact p89)
 refine tA ?_
 apply o_as (w := .bool true) rfl rfl trivial rfl
 refine tA ?_
 apply o_ldL 4 hD rfl rfl rfl rfl rfl
 refine tA ?_
 apply o_as (w := .bool true) rfl rfl trivial rfl
 refine tA ?_
 apply o_ldL 4 hD rfl rfl rfl rfl rfl
 refine tA ?_
 apply o_iaS (z := 4) rfl rfl rfl w4 (by decide)
 intro p d hp hd _
 obtain rfl : d = [.int .i32 101] := hd
 refine tA ?_
 apply o_ldG rfl rfl hp (.one rfl) (fun h => by omega)
 refine tA ?_
 apply o_as (w := .bool true) rfl rfl trivial rfl
 refine tA ?_
 apply o_ldL 4 hD rfl rfl rfl rfl rfl
 refine tA ?_
 apply o_iaS (z := 1) rfl rfl rfl w6 (by decide)
 intro p d hp hd _
 obtain rfl : d = [.int .i32 103] := hd
 refine tA ?_
 apply o_ldG rfl rfl hp (.one rfl) (fun h => by omega)
 refine tA ?_
 apply o_as (w := .bool true) rfl rfl trivial rfl
 refine tA ?_
 apply o_ldL 4 hD rfl rfl rfl rfl rfl
 refine tA ?_
 apply o_iaS (z := 0) rfl rfl rfl w6 (by decide)
 intro p d hp hd _
 obtain rfl : d = [.int .i32 5] := hd
 refine tA ?_
 apply o_ldG rfl rfl hp (.one rfl) (fun h => by omega)
 refine tA ?_
 apply o_as (w := .bool true) rfl rfl trivial rfl
 refine tA ?_
 apply o_as (w := .bool true) rfl rfl trivial rfl
 refine tA ?_
 apply o_as (w := .bool true) rfl rfl trivial rfl
 refine tA ?_
 apply o_as (w := .bool true) rfl rfl trivial rfl
 refine tA ?_
 apply o_ldL 0 hD rfl rfl rfl rfl rfl
 refine tA ?_
 apply o_as (w := .bool true) rfl rfl trivial rfl
 refine tA ?_
 apply o_ldnL 0 hD rfl rfl rfl rfl rfl
 refine tA ?_
 apply o_ldnL 5 hD rfl rfl rfl rfl rfl
 refine tA ?_
 apply o_hcall rfl rfl rfl rfl (p18 hM3 hM small_WF small_WF).go
 rintro _ k10 ⟨rfl, _⟩
 rw [decide_eq_true (rfl : small = small)]
 refine tW ?_
 (first | apply sret_ret | apply sret_norm); exact res_tmp (vs := [_]) rfl rfl
theorem ids_none {h G : Heap} {L : List (Nat × AObj)} (hD : Dis G L) (hx : Ext h G) : ∀ i ∈ L.map Prod.fst, h i = none := fun i hi => by
 cases e : h i with
 | none => rfl
 | some o =>
  have := hx _ _ e
  rw [dis_ids hD i hi] at this
  cases this
theorem dec_s {m : Image} (hw : m.WF) (hs : Image.Small m) : Img.decode (encode m) = some m := decode_encode hw (by have := small_len hw hs; unfold size; omega)
theorem load_bad {m : Image} {a : Int} (hw : m.WF) (hs : Image.Small m) (h : ¬ ValidP m) : loadOf (encode m) a = (1, noImage, 0) := by
 unfold loadOf
 rw [dec_s hw hs]
 simp only [if_neg h]
theorem load_out {m : Image} {a : Int} (hw : m.WF) (hs : Image.Small m) (h : ValidP m) (ha : ¬(0 ≤ a ∧ a ≤ 1048576)) : loadOf (encode m) a = (9, noImage, 0) := by
 unfold loadOf
 rw [dec_s hw hs]
 simp only [if_pos h, if_neg ha]
theorem load_in {m : Image} {a : Int} (hw : m.WF) (hs : Image.Small m) (h : ValidP m) (ha : 0 ≤ a ∧ a ≤ 1048576) : loadOf (encode m) a = (0, mvd 0 a m, a) := by
 unfold loadOf
 rw [dec_s hw hs]
 simp only [if_pos h, if_pos ha]
theorem move_in {m : Image} {b c : Int} (h : ValidP m) (hb : 0 ≤ b ∧ b ≤ 1048576) (hc : 0 ≤ c ∧ c ≤ 1048576) : moveOf (mvd 0 b m) b c = (true, mvd 0 c m, c) := by
 obtain ⟨h1, h2⟩ := mvd_twice (valid_moves h) hb hc
 unfold moveOf
 rw [if_pos hc, if_pos h1, h2]
theorem move_out {m : Image} {b c : Int} (hc : ¬(0 ≤ c ∧ c ≤ 1048576)) : moveOf (mvd 0 b m) b c = (false, noImage, 0) := by
 unfold moveOf
 rw [if_neg hc]
set_option maxHeartbeats 1000000 in
theorem p11 {h : Heap} {c : List AV} {m0 : Image} {base other : Int} (hc : ∀ h, RImg h c m0) (hw0 : m0.Wide) : HCallC Tryz.prog ann 11 [.agg c, I base, I other] h fun v h' => v = .bool true ∧ Ext h h' := by
 refine (show Looks _ _ _ _ _ _ from ?_).go
 have hone := (hc h).one
 obtain ⟨vc, vm, vg, vw, vr, vs, vf, rfl, _⟩ := hc h
 refine s_look_of rfl Tryz.func11 (frc (by with_unfolding_all rfl)) rfl ?_
 refine tA ?_
 show SOps _ _ _ _ _ _ _ _ _ (hset h []) _
 apply o_hboxL (v := .agg [vc, vm, I _, I _, vg, vw, vr, vs, vf]) dis_nil rfl rfl hone
 intro b3 hD
 refine tA ?_
 (refine tG ?_; (with_reducible apply o_call); exact rfl; exact rfl; exact rfl; exact p28)
 refine tA ?_
 apply o_as (w := .bool false) rfl rfl trivial rfl
 refine tA ?_
 apply o_ldnL 0 hD rfl rfl rfl rfl rfl
 apply o_callL hD rfl rfl rfl rfl (p15 (hc _) hw0)
 rintro _ k1 ⟨hx, c', m, rfl, hM, hw, hs⟩ hD
 have hM0 := hM
 obtain ⟨uc, um, ug, uw, ur, us, uf, rfl, _⟩ := hM0
 apply o_stL (v := .agg [uc, um, I _, I _, ug, uw, ur, us, uf]) (cs' := [uc, um, I _, I _, ug, uw, ur, us, uf]) 0 hD rfl rfl rfl rfl rfl rfl hM.one (splice_full rfl)
 intro hD
 refine tA ?_
 apply o_ldnL 0 hD rfl rfl rfl rfl rfl
 apply o_callL hD rfl rfl rfl rfl (p16v hM hw (small_len hw hs))
 rintro _ k2 O hD
 replace hx := hx.trans O.ext
 replace hM := RImg.mono _ _ _ _ O.ext hM
 refine tA ?_
 apply o_callL hD rfl rfl rfl rfl (p29 (a := base) O.view (enc_len (small_len hw hs)))
 rintro _ k3 ⟨hx1, c2, rfl, hR⟩ hD
 replace hx := hx.trans hx1
 replace hM := RImg.mono _ _ _ _ hx1 hM
 clear hx1 O
 by_cases hV : ValidP m
 rotate_left
 ·rw [load_bad hw hs hV] at hR ⊢
  have hR0 := hR
  obtain ⟨wc, wm, wg, ww, wr, ws, wf, rfl, _⟩ := hR0
  refine tA ?_
  apply o_alcL hD rfl
  intro b8 hD
  apply o_stL (v := .agg [wc, wm, I _, I _, wg, ww, wr, ws, wf, I 0]) (cs' := [wc, wm, I _, I _, wg, ww, wr, ws, wf, I 0]) 0 hD rfl rfl rfl rfl rfl rfl (ones_app hR.one) (splice_full rfl)
  intro hD
  refine tA ?_
  apply o_ldnL 1 hD rfl rfl rfl rfl rfl
  apply o_callL hD rfl rfl rfl rfl (p26 hM hw).go
  rintro _ k4 ⟨rfl, hx1⟩ hD
  rw [BP_false hV]
  replace hx := hx.trans hx1
  replace hR := RImg.mono _ _ _ _ hx1 hR
  clear hx1
  refine tW ?_
  apply o_ldnL 0 hD rfl rfl rfl rfl rfl
  refine tA ?_
  apply o_val (v := .agg Z9) rfl rfl trivial
  refine tA ?_
  apply o_callL hD rfl rfl rfl rfl (p18 hR noImage_R noImage_WF noImage_WF).go
  rintro _ k9 ⟨rfl, hx1⟩ hD
  rw [decide_eq_true (rfl : noImage = noImage)]
  replace hx := hx.trans hx1
  refine tA ?_
  apply o_ldL 0 hD rfl rfl rfl rfl rfl
  refine tW ?_
  exact lret_ret (vs := [.bool true]) rfl rfl rfl (hx.trans (ext_hsetD hD)) (ids_none hD hx)
 obtain ⟨q1, q2, q3⟩ := valid_rel hV
 by_cases hB : 0 ≤ base ∧ base ≤ 1048576
 rotate_left
 ·rw [load_out hw hs hV hB] at hR ⊢
  have hR0 := hR
  obtain ⟨wc, wm, wg, ww, wr, ws, wf, rfl, _⟩ := hR0
  refine tA ?_
  apply o_alcL hD rfl
  intro b8 hD
  apply o_stL (v := .agg [wc, wm, I _, I _, wg, ww, wr, ws, wf, I 0]) (cs' := [wc, wm, I _, I _, wg, ww, wr, ws, wf, I 0]) 0 hD rfl rfl rfl rfl rfl rfl (ones_app hR.one) (splice_full rfl)
  intro hD
  refine tA ?_
  apply o_ldnL 1 hD rfl rfl rfl rfl rfl
  apply o_callL hD rfl rfl rfl rfl (p26 hM hw).go
  rintro _ k4 ⟨rfl, hx1⟩ hD
  rw [BP_true hV]
  replace hx := hx.trans hx1
  replace hR := RImg.mono _ _ _ _ hx1 hR
  clear hx1
  refine tW ?_
  refine oI (base < 0) (fun H1 => ?_) (fun H1 => ?_)
  ·skip
   refine tA ?_
   apply o_as (w := .bool true) rfl rfl trivial rfl
   refine tA ?_
   apply o_ldnL 0 hD rfl rfl rfl rfl rfl
   refine tA ?_
   apply o_val (v := .agg Z9) rfl rfl trivial
   refine tA ?_
   apply o_callL hD rfl rfl rfl rfl (p18 hR noImage_R noImage_WF noImage_WF).go
   rintro _ k9 ⟨rfl, hx1⟩ hD
   rw [decide_eq_true (rfl : noImage = noImage)]
   replace hx := hx.trans hx1
   refine tA ?_
   exact lret_ret (vs := [.bool true]) rfl rfl rfl (hx.trans (ext_hsetD hD)) (ids_none hD hx)
  refine tA ?_
  apply o_as (w := .bool true) rfl rfl trivial (by simp; omega)
  refine tA ?_
  apply o_as (w := .bool true) rfl rfl trivial rfl
  refine tA ?_
  apply o_ldnL 0 hD rfl rfl rfl rfl rfl
  refine tA ?_
  apply o_val (v := .agg Z9) rfl rfl trivial
  refine tA ?_
  apply o_callL hD rfl rfl rfl rfl (p18 hR noImage_R noImage_WF noImage_WF).go
  rintro _ k9 ⟨rfl, hx1⟩ hD
  rw [decide_eq_true (rfl : noImage = noImage)]
  replace hx := hx.trans hx1
  refine tA ?_
  exact lret_ret (vs := [.bool true]) rfl rfl rfl (hx.trans (ext_hsetD hD)) (ids_none hD hx)
 rw [load_in hw hs hV hB] at hR ⊢
 have hR0 := hR
 obtain ⟨wc, wm, wg, ww, wr, ws, wf, rfl, _⟩ := hR0
 refine tA ?_
 apply o_alcL hD rfl
 intro b8 hD
 apply o_stL (v := .agg [wc, wm, I _, I _, wg, ww, wr, ws, wf, I base]) (cs' := [wc, wm, I _, I _, wg, ww, wr, ws, wf, I base]) 0 hD rfl rfl rfl rfl rfl rfl (ones_app hR.one) (splice_full rfl)
 intro hD
 refine tA ?_
 apply o_ldnL 1 hD rfl rfl rfl rfl rfl
 apply o_callL hD rfl rfl rfl rfl (p26 hM hw).go
 rintro _ k4 ⟨rfl, hx1⟩ hD
 rw [BP_true hV]
 replace hx := hx.trans hx1
 replace hR := RImg.mono _ _ _ _ hx1 hR
 replace hM := RImg.mono _ _ _ _ hx1 hM
 clear hx1
 refine tW ?_
 apply o_as (w := .bool false) rfl rfl trivial (by simp; omega)
 refine tA ?_
 apply o_as (w := .bool false) rfl rfl trivial (by simp; omega)
 refine tA ?_
 have hI : I32 base := by unfold I32; omega
 have hwb : (mvd 0 base m).WF := mvd_WF hw
 refine s_regL [.A, .A, .A, .A, .B, .A, .A, .A, .A, .A, .B, .B, .A, .C, .A, .A, .A, .A] hD ?_
 refine tZ ?_
 apply x_as (w := .bool false) rfl rfl trivial rfl
 refine tZ ?_
 apply x_ldL 0 hD rfl rfl rfl rfl
 refine tZ ?_
 apply x_as (w := .bool false) rfl rfl trivial (by simp)
 refine tZ ?_
 apply x_ldnL 0 hD rfl rfl rfl rfl
 refine tZ ?_
 apply x_ldnL 1 hD rfl rfl rfl rfl
 refine tZ ?_
 apply x_asC (w := .int .i32 base) rfl rfl rfl trivial (by rw [w32 (by omega) (by omega)])
 refine tZ ?_
 apply x_callL hD rfl rfl rfl (p30 (by' := base) hM hw q1 q2 q3 (by rw [hV.first.sizes.2.2.2]; exact Nat.le_refl _) hI)
 rintro _ k5 ⟨hx1, c5, rfl, hM5⟩ hD
 replace hx := hx.trans hx1
 replace hR := RImg.mono _ _ _ _ hx1 hR
 replace hM := RImg.mono _ _ _ _ hx1 hM
 clear hx1
 refine tZ ?_
 apply x_callL hD rfl rfl rfl (p18 hR hM5 hwb hwb).go
 rintro _ k6 ⟨rfl, hx1⟩ hD
 rw [decide_eq_true (rfl : mvd 0 base m = mvd 0 base m)]
 replace hx := hx.trans hx1
 replace hR := RImg.mono _ _ _ _ hx1 hR
 replace hM := RImg.mono _ _ _ _ hx1 hM
 clear hx1 hM5
 refine tZ ?_
 apply x_as (w := .bool false) rfl rfl trivial rfl
 refine tZ ?_
 refine tA ?_
 apply o_ldnL 0 hD rfl rfl rfl rfl rfl
 refine tA ?_
 apply o_callL hD rfl rfl rfl rfl (p31 (c := [wc, wm, I _, I _, wg, ww, wr, ws, wf]) (a := other) (b := base) hR hwb (by rw [show (mvd 0 base m).words.length = m.words.length from mvW_len _]; exact q1) (by rw [show (mvd 0 base m).words.length = m.words.length from mvW_len _]; exact q2) (by rw [show (mvd 0 base m).stat.length = m.stat.length from mvS_len _]; exact q3) hB)
 rintro _ k7 ⟨hx1, c7, rfl, hK⟩ hD
 replace hx := hx.trans hx1
 replace hR := RImg.mono _ _ _ _ hx1 hR
 replace hM := RImg.mono _ _ _ _ hx1 hM
 clear hx1
 by_cases hO : 0 ≤ other ∧ other ≤ 1048576
 rotate_left
 ·rw [move_out hO] at hK ⊢
  have hR0 := hK
  obtain ⟨xc, xm, xg, xw, xr, xs, xf, rfl, _⟩ := hR0
  refine tA ?_
  apply o_alcL hD rfl
  intro b10 hD
  apply o_stL (v := .agg [xc, xm, I _, I _, xg, xw, xr, xs, xf, I 0]) (cs' := [xc, xm, I _, I _, xg, xw, xr, xs, xf, I 0]) 0 hD rfl rfl rfl rfl rfl rfl (ones_app hK.one) (splice_full rfl)
  intro hD
  refine tA ?_
  refine oI (other < 0) (fun H1 => ?_) (fun H1 => ?_)
  ·skip
   refine tA ?_
   apply o_as (w := .bool true) rfl rfl trivial rfl
   refine tA ?_
   apply o_ldnL 0 hD rfl rfl rfl rfl rfl
   refine tA ?_
   apply o_val (v := .agg Z9) rfl rfl trivial
   refine tA ?_
   apply o_callL hD rfl rfl rfl rfl (p18 hK noImage_R noImage_WF noImage_WF).go
   rintro _ k9 ⟨rfl, hx1⟩ hD
   rw [decide_eq_true (rfl : noImage = noImage)]
   replace hx := hx.trans hx1
   refine tA ?_
   exact lret_ret (vs := [.bool true]) rfl rfl rfl (hx.trans (ext_hsetD hD)) (ids_none hD hx)
  refine tA ?_
  apply o_as (w := .bool true) rfl rfl trivial (by simp; omega)
  refine tA ?_
  apply o_as (w := .bool true) rfl rfl trivial rfl
  refine tA ?_
  apply o_ldnL 0 hD rfl rfl rfl rfl rfl
  refine tA ?_
  apply o_val (v := .agg Z9) rfl rfl trivial
  refine tA ?_
  apply o_callL hD rfl rfl rfl rfl (p18 hK noImage_R noImage_WF noImage_WF).go
  rintro _ k9 ⟨rfl, hx1⟩ hD
  rw [decide_eq_true (rfl : noImage = noImage)]
  replace hx := hx.trans hx1
  refine tA ?_
  exact lret_ret (vs := [.bool true]) rfl rfl rfl (hx.trans (ext_hsetD hD)) (ids_none hD hx)
 rw [move_in hV hB hO] at hK ⊢
 have hR0 := hK
 obtain ⟨xc, xm, xg, xw, xr, xs, xf, rfl, _⟩ := hR0
 refine tA ?_
 apply o_alcL hD rfl
 intro b10 hD
 apply o_stL (v := .agg [xc, xm, I _, I _, xg, xw, xr, xs, xf, I other]) (cs' := [xc, xm, I _, I _, xg, xw, xr, xs, xf, I other]) 0 hD rfl rfl rfl rfl rfl rfl (ones_app hK.one) (splice_full rfl)
 intro hD
 refine tA ?_
 apply o_as (w := .bool false) rfl rfl trivial (by simp; omega)
 refine tA ?_
 apply o_as (w := .bool false) rfl rfl trivial (by simp; omega)
 refine tA ?_
 apply o_ldnL 2 hD rfl rfl rfl rfl rfl
 apply o_callL hD rfl rfl rfl rfl (p16v hM hw (small_len hw hs))
 rintro _ k8 O hD
 replace hx := hx.trans O.ext
 replace hM := RImg.mono _ _ _ _ O.ext hM
 replace hR := RImg.mono _ _ _ _ O.ext hR
 replace hK := RImg.mono _ _ _ _ O.ext hK
 refine tA ?_
 apply o_callL hD rfl rfl rfl rfl (p29 (a := other) O.view (enc_len (small_len hw hs)))
 rintro _ k9 ⟨hx1, c9, rfl, hN⟩ hD
 replace hx := hx.trans hx1
 replace hM := RImg.mono _ _ _ _ hx1 hM
 replace hR := RImg.mono _ _ _ _ hx1 hR
 replace hK := RImg.mono _ _ _ _ hx1 hK
 clear hx1 O
 rw [load_in hw hs hV hO] at hN ⊢
 have hR0 := hN
 obtain ⟨yc, ym, yg, yw, yr, ys, yf, rfl, _⟩ := hR0
 refine tA ?_
 apply o_alcL hD rfl
 intro b12 hD
 apply o_stL (v := .agg [yc, ym, I _, I _, yg, yw, yr, ys, yf, I other]) (cs' := [yc, ym, I _, I _, yg, yw, yr, ys, yf, I other]) 0 hD rfl rfl rfl rfl rfl rfl (ones_app hN.one) (splice_full rfl)
 intro hD
 refine tA ?_
 have hwo : (mvd 0 other m).WF := mvd_WF hw
 refine s_regL [.A, .A, .A, .A, .A, .A, .A, .B, .A, .A, .A, .A, .A, .B, .A, .B, .A, .A, .A, .A, .B, .B, .A, .C, .A, .A, .A, .A] hD ?_
 refine tZ ?_
 apply x_as (w := .bool true) rfl rfl trivial rfl
 refine tZ ?_
 apply x_ldL 1 hD rfl rfl rfl rfl
 refine tZ ?_
 apply x_as (w := .bool true) rfl rfl trivial (by simp)
 refine tZ ?_
 apply x_ldnL 1 hD rfl rfl rfl rfl
 refine tZ ?_
 apply x_ldnL 0 hD rfl rfl rfl rfl
 refine tZ ?_
 apply x_callL hD rfl rfl rfl (p18 hK hN hwo hwo).go
 rintro _ k10 ⟨rfl, hx1⟩ hD
 rw [decide_eq_true (rfl : mvd 0 other m = mvd 0 other m)]
 replace hx := hx.trans hx1
 replace hR := RImg.mono _ _ _ _ hx1 hR
 replace hM := RImg.mono _ _ _ _ hx1 hM
 clear hx1 hK hN
 refine tZ ?_
 apply x_ldnL 2 hD rfl rfl rfl rfl
 refine tZ ?_
 apply x_ldnL 3 hD rfl rfl rfl rfl
 refine tZ ?_
 apply x_asC (w := .int .i32 base) rfl rfl rfl trivial (by rw [w32 (by omega) (by omega)])
 refine tZ ?_
 apply x_callL hD rfl rfl rfl (p30 (by' := base) hM hw q1 q2 q3 (by rw [hV.first.sizes.2.2.2]; exact Nat.le_refl _) hI)
 rintro _ k11 ⟨hx1, c5, rfl, hM5⟩ hD
 replace hx := hx.trans hx1
 replace hR := RImg.mono _ _ _ _ hx1 hR
 clear hx1
 refine tZ ?_
 apply x_callL hD rfl rfl rfl (p18 hR hM5 hwb hwb).go
 rintro _ k12 ⟨rfl, hx1⟩ hD
 rw [decide_eq_true (rfl : mvd 0 base m = mvd 0 base m)]
 replace hx := hx.trans hx1
 refine tZ ?_
 refine tA ?_
 exact lret_ret (vs := [.bool true]) rfl rfl rfl (hx.trans (ext_hsetD hD)) (ids_none hD hx)
end Go.Proofs
end
section
open Go Go.Abs Go.Img
namespace Go.Proofs
set_option maxRecDepth 100000
def fsOf (P : Program) (t : TypeId) : Array Field := match P.underlying t with | some (.struct fs) => fs | _ => #[]
theorem tyc_st {P : Program} {k n : Nat} {t : TypeId} {cs : List AV} {l : List (TypeId × Nat × Nat)} (ht : P.underlying t = some (.struct (fsOf P t))) (hl : (fsOf P t).toList.map (fun f => (f.type, f.offset, P.cellsOf f.type)) = l) (hn : P.cellsOf t = n) (h : TyC P (k + 1) t cs) : cs.length = n ∧ ∀ p ∈ l, TyC P k p.1 ((cs.drop p.2.1).take p.2.2) := by
 obtain ⟨h1, h2⟩ := tyc_struct ht h
 refine ⟨h1.trans hn, fun p hp => ?_⟩
 subst hl
 obtain ⟨f, hf, rfl⟩ := List.mem_map.1 hp
 exact h2 f hf
theorem wf_i64 {n : Int} (h : (Lit.int .i64 n).wf = true) : I64 n := by
 simp [Lit.wf, IntKind.min, IntKind.max, IntKind.bits, IntKind.signed] at h
 unfold I64
 omega
theorem wf_i32 {n : Int} (h : (Lit.int .i32 n).wf = true) : I32 n := by
 simp [Lit.wf, IntKind.min, IntKind.max, IntKind.bits, IntKind.signed] at h
 unfold I32
 omega
theorem im_int {k : Nat} {l : List AV} (h : TyC Tryz.prog (k + 1) 3 l) : ∃ n, (∀ h : Heap, RN .i64 h l n) ∧ I64 n := by
 obtain ⟨n, rfl, hw⟩ := tyc_int (i := .i64) (by kernel_rfl) h
 exact ⟨n, fun _ => rfl, wf_i64 hw⟩
theorem im_i32 {k : Nat} {l : List AV} (h : TyC Tryz.prog (k + 1) 21 l) : ∃ n, (∀ h : Heap, RN .i32 h l n) ∧ I32 n := by
 obtain ⟨n, rfl, hw⟩ := tyc_int (i := .i32) (by kernel_rfl) h
 exact ⟨n, fun _ => rfl, wf_i32 hw⟩
theorem im_bool {k : Nat} {l : List AV} (h : TyC Tryz.prog (k + 1) 4 l) : ∃ b, (∀ h : Heap, RB h l b) ∧ True := by
 obtain ⟨b, rfl⟩ := tyc_bool (by kernel_rfl) h
 exact ⟨b, fun _ => rfl, trivial⟩
theorem im_pair {k : Nat} {l : List AV} (hl : l.length = 2) (h : TyC Tryz.prog (k + 2) 54 l) : ∃ p, (∀ h : Heap, RPair h l p) ∧ (I64 p.1 ∧ I64 p.2) := by
 obtain ⟨_, h2⟩ := tyc_array (n := 2) (e := 3) (by kernel_rfl) h
 have e3 : Tryz.prog.cellsOf 3 = 1 := by kernel_rfl
 match l, hl with
 | [a, b], _ =>
  have f0 := h2 0 (by decide)
  have f1 := h2 1 (by decide)
  simp only [e3] at f0 f1
  obtain ⟨x, hx, wx⟩ := im_int f0
  obtain ⟨y, hy, wy⟩ := im_int f1
  have ex : a = I x := List.cons.inj (hx fun _ => none) |>.1
  have ey : b = I y := List.cons.inj (hy fun _ => none) |>.1
  subst ex ey
  exact ⟨(x, y), fun _ => rfl, wx, wy⟩
theorem four_of {k : Nat} {l : List AV} (hl : l.length = 4) (h : ∀ p ∈ [((3 : TypeId), 0, 1), (3, 1, 1), (3, 2, 1), (3, 3, 1)], TyC Tryz.prog (k + 1) p.1 ((l.drop p.2.1).take p.2.2)) : ∃ p, (∀ h : Heap, RFour h l p) ∧ F64 p := by
 match l, hl with
 | [a, b, c, d], _ =>
  obtain ⟨x, hx, wx⟩ := im_int (h _ (.head _))
  obtain ⟨y, hy, wy⟩ := im_int (h _ (.tail _ (.head _)))
  obtain ⟨z, hz, wz⟩ := im_int (h _ (.tail _ (.tail _ (.head _))))
  obtain ⟨u, hu, wu⟩ := im_int (h _ (.tail _ (.tail _ (.tail _ (.head _)))))
  have ex : a = I x := List.cons.inj (hx fun _ => none) |>.1
  have ey : b = I y := List.cons.inj (hy fun _ => none) |>.1
  have ez : c = I z := List.cons.inj (hz fun _ => none) |>.1
  have eu : d = I u := List.cons.inj (hu fun _ => none) |>.1
  subst ex ey ez eu
  exact ⟨(x, y, z, u), fun _ => rfl, wx, wy, wz, wu⟩
theorem im_ins {k : Nat} {l : List AV} (h : TyC Tryz.prog (k + 2) 56 l) : ∃ p, (∀ h : Heap, RFour h l p) ∧ F64 p := by
 obtain ⟨h1, h2⟩ := tyc_st (n := 4) (l := [((3 : TypeId), 0, 1), (3, 1, 1), (3, 2, 1), (3, 3, 1)]) (by kernel_rfl) (by kernel_rfl) (by kernel_rfl) h
 exact four_of h1 h2
theorem im_trap {k : Nat} {l : List AV} (h : TyC Tryz.prog (k + 2) 60 l) : ∃ p, (∀ h : Heap, RFour h l p) ∧ F64 p := by
 obtain ⟨h1, h2⟩ := tyc_st (n := 4) (l := [((3 : TypeId), 0, 1), (3, 1, 1), (3, 2, 1), (3, 3, 1)]) (by kernel_rfl) (by kernel_rfl) (by kernel_rfl) h
 exact four_of h1 h2
theorem im_ints {k : Nat} {l : List AV} (h : TyC Tryz.prog (k + 2) 24 l) : ∃ v x, l = [v] ∧ (∀ h, Sl (RN .i64) 1 h v x) ∧ Len x ∧ ∀ a ∈ x, I64 a := by
 obtain ⟨v, x, e, hx, hl, hw⟩ := tyc_list (e := 3) (s := 1) (by kernel_rfl) (by kernel_rfl) (fun l _ h => im_int h) h
 exact ⟨v, x, e, hx, hl, hw⟩
theorem im_i32s {k : Nat} {l : List AV} (h : TyC Tryz.prog (k + 2) 25 l) : ∃ v x, l = [v] ∧ (∀ h, Sl (RN .i32) 1 h v x) ∧ Len x ∧ ∀ a ∈ x, I32 a := by
 obtain ⟨v, x, e, hx, hl, hw⟩ := tyc_list (e := 21) (s := 1) (by kernel_rfl) (by kernel_rfl) (fun l _ h => im_i32 h) h
 exact ⟨v, x, e, hx, hl, hw⟩
theorem im_bools {k : Nat} {l : List AV} (h : TyC Tryz.prog (k + 2) 26 l) : ∃ v x, l = [v] ∧ (∀ h, Sl RB 1 h v x) ∧ Len x := by
 obtain ⟨v, x, e, hx, hl, _⟩ := tyc_list (e := 4) (s := 1) (W := fun _ => True) (by kernel_rfl) (by kernel_rfl) (fun l _ h => im_bool h) h
 exact ⟨v, x, e, hx, hl⟩
theorem im_cls {k : Nat} {l : List AV} (h : TyC Tryz.prog (k + 4) 48 l) : ∃ c, (∀ h : Heap, RCls h l c) ∧ c.Wide := by
 obtain ⟨h1, h2⟩ := tyc_st (k := k + 3) (n := 10) (l := [((9 : TypeId), 0, 1), (3, 1, 1), (3, 2, 1), (26, 3, 1), (24, 4, 1), (24, 5, 1), (46, 6, 1), (3, 7, 1), (3, 8, 1), (4, 9, 1)]) (by kernel_rfl) (by kernel_rfl) (by kernel_rfl) h
 match l, h1 with
 | [a0, a1, a2, a3, a4, a5, a6, a7, a8, a9], _ =>
  obtain ⟨s, q0, ws⟩ := tyc_str (by kernel_rfl) (h2 _ (.head _))
  obtain ⟨x1, q1, w1⟩ := im_int (h2 (3, 1, 1) (by simp))
  obtain ⟨x2, q2, w2⟩ := im_int (h2 (3, 2, 1) (by simp))
  obtain ⟨v3, x3, q3, r3, w3⟩ := im_bools (h2 (26, 3, 1) (by simp))
  obtain ⟨v4, x4, q4, r4, w4⟩ := im_ints (h2 (24, 4, 1) (by simp))
  obtain ⟨v5, x5, q5, r5, w5⟩ := im_ints (h2 (24, 5, 1) (by simp))
  obtain ⟨v6, x6, q6, r6, w6⟩ := tyc_list (k := k + 2) (e := 54) (s := 2) (R := RPair) (W := fun p => I64 p.1 ∧ I64 p.2) (by kernel_rfl) (by kernel_rfl) (fun l hl h => im_pair hl h) (h2 (46, 6, 1) (by simp))
  obtain ⟨x7, q7, w7⟩ := im_int (h2 (3, 7, 1) (by simp))
  obtain ⟨x8, q8, w8⟩ := im_int (h2 (3, 8, 1) (by simp))
  obtain ⟨x9, q9, _⟩ := im_bool (h2 (4, 9, 1) (by simp))
  have e0 : a0 = .str s := List.cons.inj q0 |>.1
  have e1 : a1 = I x1 := List.cons.inj (q1 fun _ => none) |>.1
  have e2 : a2 = I x2 := List.cons.inj (q2 fun _ => none) |>.1
  have e3 : a3 = v3 := List.cons.inj q3 |>.1
  have e4 : a4 = v4 := List.cons.inj q4 |>.1
  have e5 : a5 = v5 := List.cons.inj q5 |>.1
  have e6 : a6 = v6 := List.cons.inj q6 |>.1
  have e7 : a7 = I x7 := List.cons.inj (q7 fun _ => none) |>.1
  have e8 : a8 = I x8 := List.cons.inj (q8 fun _ => none) |>.1
  have e9 : a9 = .bool x9 := List.cons.inj (q9 fun _ => none) |>.1
  subst e0 e1 e2 e3 e4 e5 e6 e7 e8 e9
  exact ⟨⟨s, x1, x2, x7, x8, x9, x3, x4, x5, x6⟩, fun h => ⟨_, _, _, _, rfl, r3 h, r4 h, r5 h, r6 h⟩, ⟨ws, w1, w2, w7, w8, w3, w4, w5, w6⟩⟩
theorem im_mth {k : Nat} {l : List AV} (h : TyC Tryz.prog (k + 4) 53 l) : ∃ c, (∀ h : Heap, RMth h l c) ∧ c.WF := by
 obtain ⟨h1, h2⟩ := tyc_st (k := k + 3) (n := 6) (l := [((3 : TypeId), 0, 1), (3, 1, 1), (3, 2, 1), (4, 3, 1), (50, 4, 1), (51, 5, 1)]) (by kernel_rfl) (by kernel_rfl) (by kernel_rfl) h
 match l, h1 with
 | [a0, a1, a2, a3, a4, a5], _ =>
  obtain ⟨x0, q0, w0⟩ := im_int (h2 (3, 0, 1) (by simp))
  obtain ⟨x1, q1, w1⟩ := im_int (h2 (3, 1, 1) (by simp))
  obtain ⟨x2, q2, w2⟩ := im_int (h2 (3, 2, 1) (by simp))
  obtain ⟨x3, q3, _⟩ := im_bool (h2 (4, 3, 1) (by simp))
  obtain ⟨v4, x4, q4, r4, w4⟩ := tyc_list (k := k + 2) (e := 56) (s := 4) (R := RFour) (W := F64) (by kernel_rfl) (by kernel_rfl) (fun l _ h => im_ins h) (h2 (50, 4, 1) (by simp))
  obtain ⟨v5, x5, q5, r5, w5⟩ := tyc_list (k := k + 2) (e := 60) (s := 4) (R := RFour) (W := F64) (by kernel_rfl) (by kernel_rfl) (fun l _ h => im_trap h) (h2 (51, 5, 1) (by simp))
  have e0 : a0 = I x0 := List.cons.inj (q0 fun _ => none) |>.1
  have e1 : a1 = I x1 := List.cons.inj (q1 fun _ => none) |>.1
  have e2 : a2 = I x2 := List.cons.inj (q2 fun _ => none) |>.1
  have e3 : a3 = .bool x3 := List.cons.inj (q3 fun _ => none) |>.1
  have e4 : a4 = v4 := List.cons.inj q4 |>.1
  have e5 : a5 = v5 := List.cons.inj q5 |>.1
  subst e0 e1 e2 e3 e4 e5
  exact ⟨⟨x0, x1, x2, x3, x4, x5⟩, fun h => ⟨_, _, rfl, r4 h, r5 h⟩, ⟨w0, w1, w2, w4, w5⟩⟩
theorem ty_image {v : AV} (h : TyV Tryz.prog 6 28 v) : ∃ c m, v = .agg c ∧ (∀ h, RImg h c m) ∧ m.Wide := by
 obtain ⟨l, rfl, hc⟩ := ty_struct (fs := fsOf Tryz.prog 28) (by kernel_rfl) h
 obtain ⟨h1, h2⟩ := tyc_st (k := 5) (n := 9) (l := [((22 : TypeId), 0, 1), (23, 1, 1), (3, 2, 1), (3, 3, 1), (24, 4, 1), (25, 5, 1), (24, 6, 1), (25, 7, 1), (26, 8, 1)]) (by kernel_rfl) (by kernel_rfl) (by kernel_rfl) hc
 match l, h1 with
 | [a0, a1, a2, a3, a4, a5, a6, a7, a8], _ =>
  obtain ⟨v0, x0, q0, r0, w0⟩ := tyc_list (k := 4) (e := 48) (s := 10) (R := RCls) (W := Cls.Wide) (by kernel_rfl) (by kernel_rfl) (fun l _ h => im_cls h) (h2 (22, 0, 1) (by simp))
  obtain ⟨v1, x1, q1, r1, w1⟩ := tyc_list (k := 4) (e := 53) (s := 6) (R := RMth) (W := Mth.WF) (by kernel_rfl) (by kernel_rfl) (fun l _ h => im_mth h) (h2 (23, 1, 1) (by simp))
  obtain ⟨x2, q2, w2⟩ := im_int (h2 (3, 2, 1) (by simp))
  obtain ⟨x3, q3, w3⟩ := im_int (h2 (3, 3, 1) (by simp))
  obtain ⟨v4, x4, q4, r4, w4⟩ := im_ints (h2 (24, 4, 1) (by simp))
  obtain ⟨v5, x5, q5, r5, w5⟩ := im_i32s (h2 (25, 5, 1) (by simp))
  obtain ⟨v6, x6, q6, r6, w6⟩ := im_ints (h2 (24, 6, 1) (by simp))
  obtain ⟨v7, x7, q7, r7, w7⟩ := im_i32s (h2 (25, 7, 1) (by simp))
  obtain ⟨v8, x8, q8, r8, w8⟩ := im_bools (h2 (26, 8, 1) (by simp))
  have e0 : a0 = v0 := List.cons.inj q0 |>.1
  have e1 : a1 = v1 := List.cons.inj q1 |>.1
  have e2 : a2 = I x2 := List.cons.inj (q2 fun _ => none) |>.1
  have e3 : a3 = I x3 := List.cons.inj (q3 fun _ => none) |>.1
  have e4 : a4 = v4 := List.cons.inj q4 |>.1
  have e5 : a5 = v5 := List.cons.inj q5 |>.1
  have e6 : a6 = v6 := List.cons.inj q6 |>.1
  have e7 : a7 = v7 := List.cons.inj q7 |>.1
  have e8 : a8 = v8 := List.cons.inj q8 |>.1
  subst e0 e1 e2 e3 e4 e5 e6 e7 e8
  exact ⟨_, ⟨x0, x1, x2, x3, x4, x5, x6, x7, x8⟩, rfl, fun h => ⟨_, _, _, _, _, _, _, rfl, r0 h, r1 h, r4 h, r5 h, r6 h, r7 h, r8 h⟩, ⟨w0, w1, w2, w3, w4, w5, w6, w7, w8⟩⟩
theorem extok : ExtOK Tryz.prog SlimCode.ann := by
 intro f e h
 cases h
end Go.Proofs
end
section
open Go Go.Abs Go.Proofs.SlimCode Go.Img
namespace Go.Proofs
set_option maxRecDepth 100000
theorem run_of_h {A : Ann} {P : Program} {f : Nat} {vs : List AV} {Q : Heap → Prop} (h : HCallC P A f vs (fun _ => none) fun v h' => v = .bool true ∧ Q h') : ∃ n h' n' lg, callN P A n f vs (fun _ => none) 0 = some (.bool true, h', n', lg) := by
 obtain ⟨k, v, h', n', lg, e, rfl, _⟩ := h 0 (fun _ _ => rfl)
 exact ⟨k, h', n', lg, e⟩
theorem law_run (ps : List AV) (h : TyVs Tryz.prog 6 Tryz.f11.params.toList ps) : ∃ n h' n' lg, callN Tryz.prog ann n 11 ps (fun _ => none) 0 = some (.bool true, h', n', lg) := by
 obtain ⟨a, _, rfl, ha, b, _, rfl, hb, c, _, rfl, hc, rfl⟩ := h
 obtain ⟨d, n, rfl, hd, hw⟩ := ty_image ha
 obtain ⟨base, rfl, _⟩ := ty_int (i := .i64) (by kernel_rfl) hb
 obtain ⟨other, rfl, _⟩ := ty_int (i := .i64) (by kernel_rfl) hc
 exact run_of_h (p11 hd hw)
end Go.Proofs
end
