import Derived.Test.YtmnnmgfjlokmkaaGreatAbsTac
import Derived.Test.YtmnnmgfjlokmkaaGreatImVal21
import Derived.Test.YtmnnmgfjlokmkaaGreatAbsLs
import Derived.Test.YtmnnmgfjlokmkaaGreatImCrc
import Derived.Test.YtmnnmgfjlokmkaaGreatImCut
import Derived.Test.YtmnnmgfjlokmkaaGreatAbsLaw
import Derived.Test.YtmnnmgfjlokmkaaGreatAbsTy
section
open Go Go.Abs Go.Proofs.SlimCode Go.Img
namespace Go.Img
def mvC (by' x : Int) : Int := if x = 0 then 0 else w32 (x + by')
def mvG (fr x : Int) : Bool := decide (x = 0) || decide (fr < x)
def mvStep (fr by' : Int) (s : List Int × Bool) (r : Nat) : List Int × Bool := (s.1.set r (mvC by' (s.1.getD r 0)), s.2 && mvG fr (s.1.getD r 0))
def stStep (fr by' : Int) (f : List Bool) (s : List Int × Bool) (i : Nat) : List Int × Bool := if f.getD i false = true then mvStep fr by' s i else s
def mvW (fr by' : Int) (m : Image) (k : Nat) : List Int × Bool := (m.rel.take k).foldl (fun s r => mvStep fr by' s r.toNat) (m.words, true)
def mvS (fr by' : Int) (m : Image) (g : Bool) (k : Nat) : List Int × Bool := (List.range k).foldl (stStep fr by' m.statref) (m.stat, g)
def mvd (fr by' : Int) (m : Image) : Image := { m with words := (mvW fr by' m m.rel.length).1, stat := (mvS fr by' m (mvW fr by' m m.rel.length).2 m.stat.length).1 }
def mvOk (fr by' : Int) (m : Image) : Bool := (mvS fr by' m (mvW fr by' m m.rel.length).2 m.stat.length).2
theorem mvW_succ {fr by' : Int} {m : Image} {k : Nat} (hk : k < m.rel.length) : mvW fr by' m (k + 1) = mvStep fr by' (mvW fr by' m k) m.rel[k].toNat := by
 unfold mvW
 rw [List.take_add_one, List.getElem?_eq_getElem hk, List.foldl_append]
 rfl
theorem mvS_succ {fr by' : Int} {m : Image} {g : Bool} {k : Nat} : mvS fr by' m g (k + 1) = stStep fr by' m.statref (mvS fr by' m g k) k := by
 unfold mvS
 rw [List.range_succ, List.foldl_append]
 rfl
theorem mvW_len {fr by' : Int} {m : Image} : ∀ k, (mvW fr by' m k).1.length = m.words.length := by
 intro k
 unfold mvW
 generalize m.rel.take k = l
 suffices h : ∀ (s : List Int × Bool), (l.foldl (fun s r => mvStep fr by' s r.toNat) s).1.length = s.1.length from h _
 induction l with
 | nil => exact fun _ => rfl
 | cons r l ih => exact fun s => (ih _).trans (by simp [mvStep])
theorem mvS_len {fr by' : Int} {m : Image} {g : Bool} : ∀ k, (mvS fr by' m g k).1.length = m.stat.length := by
 intro k
 induction k with
 | zero => rfl
 | succ k ih =>
  rw [mvS_succ]
  unfold stStep
  split
  ·simpa [mvStep] using ih
  ·exact ih
theorem w32_I (n : Int) : I32 (w32 n) := by unfold I32 w32; omega
theorem mvC_I {by' x : Int} : I32 (mvC by' x) := by
 unfold mvC
 split
 ·unfold I32; omega
 ·exact w32_I _
theorem mvStep_I {fr by' : Int} {s : List Int × Bool} {r : Nat} (h : ∀ x ∈ s.1, I32 x) : ∀ x ∈ (mvStep fr by' s r).1, I32 x := by
 intro x hx
 rcases List.mem_or_eq_of_mem_set hx with h1 | rfl
 ·exact h x h1
 ·exact mvC_I
theorem mvW_I {fr by' : Int} {m : Image} (hw : m.WF) (k : Nat) : ∀ x ∈ (mvW fr by' m k).1, I32 x := by
 unfold mvW
 generalize m.rel.take k = l
 suffices h : ∀ (s : List Int × Bool), (∀ x ∈ s.1, I32 x) → ∀ x ∈ (l.foldl (fun s r => mvStep fr by' s r.toNat) s).1, I32 x from h _ hw.words.2
 induction l with
 | nil => exact fun _ h => h
 | cons r l ih => exact fun s h => ih _ (mvStep_I h)
theorem mvS_I {fr by' : Int} {m : Image} {g : Bool} (hw : m.WF) (k : Nat) : ∀ x ∈ (mvS fr by' m g k).1, I32 x := by
 induction k with
 | zero => exact hw.stat.2
 | succ k ih =>
  rw [mvS_succ]
  unfold stStep
  split
  ·exact mvStep_I ih
  ·exact ih
theorem mvd_WF {fr by' : Int} {m : Image} (hw : m.WF) : (mvd fr by' m).WF := { hw with
 words := ⟨by have := hw.words.1; unfold Len at *; rw [show (mvd fr by' m).words.length = _ from mvW_len _]; exact this, mvW_I hw _⟩
 stat := ⟨by have := hw.stat.1; unfold Len at *; rw [show (mvd fr by' m).stat.length = _ from mvS_len _]; exact this, mvS_I hw _⟩ }
end Go.Img
set_option maxRecDepth 100000
namespace Go.Proofs
theorem upd2_or {K : Heap} {b i : Nat} {o o' O O' : AObj} (hb : K b = some o') (hi : K i = some O') : upd (upd K b (some o)) i (some O) = K ∨ ∃ id, K id ≠ none ∧ upd (upd K b (some o)) i (some O) id ≠ K id := by
 by_cases e : upd (upd K b (some o)) i (some O) = K
 ·exact .inl e
 ·right
  obtain ⟨id, h⟩ : ∃ id, upd (upd K b (some o)) i (some O) id ≠ K id := Classical.byContradiction fun h => e (funext fun id => Classical.byContradiction fun h' => h ⟨id, h'⟩)
  refine ⟨id, fun h0 => h ?_, h⟩
  have e1 : id ≠ i := fun e => by rw [e, hi] at h0; cases h0
  have e2 : id ≠ b := fun e => by rw [e, hb] at h0; cases h0
  rw [upd_ne e1, upd_ne e2]
theorem wrapC (x b : Int) : IntKind.wrap .i32 (x + IntKind.wrap .i32 b) = Img.w32 (x + b) := by
 simp [IntKind.wrap, IntKind.bits, IntKind.signed, Img.w32]
 omega
theorem p144 {K : Heap} {i j b8 b4 b5 : Nat} {cs : List AV} {x fr by' : Int} {g : Bool} (hi : K i = some (.cells cs)) (hx : cs[j]? = some (.int .i32 x)) (h8 : K b8 = some (.cells [.bool g])) (h4 : K b4 = some (.cells [I fr])) (h5 : K b5 = some (.cells [I by']))
  (hn : i ≠ b8) (h32 : I32 x) : HCallC Tryz.prog ann 144 [.ptr i j, .ptr b8 0, .ptr b4 0, .ptr b5 0] K fun v K' => v = .tup [] ∧ K' = upd (upd K b8 (some (.cells [.bool (g && mvG fr x)]))) i (some (.cells (cs.set j (.int .i32 (mvC by' x))))) := by
 have n5 : b5 ≠ b8 := fun e => by rw [e, h8] at h5; cases h5
 have hj := (List.getElem?_eq_some_iff.1 hx).1
 refine s_call_x rfl Tryz.func144 (frc (by with_unfolding_all rfl)) rfl ?_
 refine tV ?_
 apply o_ldh rfl rfl hi (fun h => by omega) hx
 refine oI (x ≠ 0) (fun H => ?_) (fun H => ?_)
 rotate_left
 ·obtain rfl : x = 0 := by omega
  refine tW ?_
  have e : upd (upd K b8 (some (.cells [.bool (g && mvG fr 0)]))) i (some (.cells (cs.set j (.int .i32 (mvC by' 0))))) = K := by
   have e1 : cs.set j (.int .i32 (mvC by' 0)) = cs := by
    apply List.ext_getElem?
    intro n
    rw [List.getElem?_set]
    split
    ·rename_i e; subst e; exact hx.symm
    ·rfl
   rw [e1, show (g && mvG fr 0) = g by simp [mvG], upd_self h8, upd_self hi]
  (first | apply hx_ret | apply hx_norm)
  ·exact (rfl : resE _ [] = some [])
  ·exact rfl
  ·rw [killL_nil]; exact ⟨rfl, e.symm⟩
  ·exact fun _ => .inl ⟨rfl, e.symm⟩
 have hg : mvG fr x = decide (fr < x) := by simp [mvG, H]
 have hc : mvC by' x = Img.w32 (x + by') := if_neg H
 unfold I32 at h32
 ((with_reducible apply o_nil); (with_reducible apply ssq_norm))
 (with_reducible apply s_condT)
 exact rfl
 refine s_join (σ := Unit) (fun _ => [(0, .ptr i j), (3, .ptr b5 0)]) (fun _ h' => h' = upd K b8 (some (.cells [.bool (g && mvG fr x)]))) ?_ ?_
 ·refine tV ?_
  apply o_ldh rfl rfl h8 (fun _ => by rw [h8]; simp) rfl
  rw [hg]
  cases g with
  | false =>
   refine tW ?_
   apply o_st1 rfl rfl rfl rfl rfl h8 (by decide)
   refine tW ?_
   exact ⟨(), tU, rfl, rfl⟩
  | true =>
   refine tW ?_
   apply o_ldh rfl rfl hi (fun _ => by rw [hi]; simp) hx
   refine tV ?_
   apply o_as (w := I x) rfl rfl trivial (by rw [w64 (by omega) (by omega)])
   refine tV ?_
   apply o_ldh rfl rfl h4 (fun _ => by rw [h4]; simp) rfl
   refine tV ?_
   apply o_val rfl rfl trivial
   apply o_val rfl rfl trivial
   apply o_st1 rfl rfl rfl rfl rfl h8 (by decide)
   refine tW ?_
   exact ⟨(), tU, rfl, rfl⟩
 rintro _ _ rfl
 have hi' : upd K b8 (some (.cells [.bool (g && mvG fr x)])) i = some (.cells cs) := (upd_ne hn).trans hi
 have h5' : upd K b8 (some (.cells [.bool (g && mvG fr x)])) b5 = some (.cells [I by']) := (upd_ne n5).trans h5
 refine tV ?_
 apply o_ldh rfl rfl hi' (fun _ => by rw [hi']; simp) hx
 apply o_ldh rfl rfl h5' (fun _ => by rw [h5']; simp) rfl
 apply o_val rfl rfl trivial
 apply o_as (w := .int .i32 (mvC by' x)) rfl rfl trivial (by rw [wrapC, hc])
 refine tV ?_
 apply o_st1 rfl rfl rfl rfl rfl hi' hj
 refine tW ?_
 (first | apply hx_ret | apply hx_norm)
 ·exact (rfl : resE _ [] = some [])
 ·exact rfl
 ·rw [killL_nil]; exact ⟨rfl, rfl⟩
 ·intro _
  rcases upd2_or (o := .cells [.bool (g && mvG fr x)]) (O := .cells (cs.set j (.int .i32 (mvC by' x)))) h8 hi with e | e
  ·exact .inl ⟨rfl, e.symm⟩
  ·exact .inr e
theorem p90 {h : Heap} {n : Int} : Looks Tryz.prog ann 90 [I n] h (.bool (BP (0 ≤ n ∧ n ≤ 1048576))) := by
 refine s_look_of rfl Tryz.func90 (frc (by with_unfolding_all rfl)) rfl ?_
 refine tV ?_
 refine oI (0 ≤ n) (fun H => ?_) (fun H => ?_)
 rotate_left
 ·refine tW ?_
  exact noB rfl (fun h => H h.1) .refl (by simp)
 refine tV ?_
 refine oI (n ≤ 1048576) (fun H2 => ?_) (fun H2 => ?_)
 ·refine tW ?_
  exact yesB rfl ⟨H, H2⟩ .refl (by simp)
 ·refine tW ?_
  exact noB rfl (fun h => H2 h.2) .refl (by simp)
end Go.Proofs
end
section
open Go Go.Abs Go.Proofs.SlimCode Go.Img
set_option maxRecDepth 100000
namespace Go.Proofs
structure Own2 (h : Heap) (w s : AV) (a b : List Int) (G : Heap) : Prop where
 o1 : OSl h 1 w (nums .i32 a) a.length G
 o2 : OSl h 1 s (nums .i32 b) b.length G
 dj : ∀ i ∈ slIds w, i ∉ slIds s
theorem own2_of {h G1 G : Heap} {w s : AV} {a b : List Int} (O1 : OSl h 1 w (nums .i32 a) a.length G1) (O2 : OSl G1 1 s (nums .i32 b) b.length G) : Own2 h w s a b G := ⟨O1.upE O2.ext, O2.weaken O1.ext, fun i h1 h2 => by
 rcases O1.own with ⟨rfl, _⟩ | ⟨j, rfl, g1, g2, g3⟩
 ·cases h1
 rcases O2.own with ⟨rfl, _⟩ | ⟨k, rfl, k1, k2, k3⟩
 ·cases h2
 obtain rfl := List.mem_singleton.1 h1
 obtain rfl := List.mem_singleton.1 h2
 rw [g2] at k1
 cases k1⟩
theorem Own2.symm {h G : Heap} {w s : AV} {a b : List Int} (H : Own2 h w s a b G) : Own2 h s w b a G := ⟨H.o2, H.o1, fun i h1 h2 => H.dj i h2 h1⟩
theorem nums_set {k : IntKind} {l : List Int} {r : Nat} {x : Int} : (nums k l).set r (.int k x) = nums k (l.set r x) := by unfold nums; rw [List.map_set]
theorem Own2.poke {h G : Heap} {w s : AV} {a b : List Int} (H : Own2 h w s a b G) {r : Nat} (hr : r < a.length) : ∃ i, w = .sl i 0 a.length 1 ∧ G i = some (.cells (nums .i32 a)) ∧ ∀ x, Own2 h w s (a.set r x) b (upd G i (some (.cells ((nums .i32 a).set r (.int .i32 x))))) := by
 rcases H.o1.own with ⟨_, _, e⟩ | ⟨i, rfl, h1, h2, h3⟩
 ·omega
 refine ⟨i, rfl, h2, fun x => ?_⟩
 have hx : Ext h (upd G i (some (.cells ((nums .i32 a).set r (.int .i32 x))))) := fun id o e => by
  rw [upd_ne fun e' => by rw [e', h1] at e; cases e]
  exact H.o1.ext _ _ e
 refine ⟨⟨hx, .inr ⟨i, by rw [List.length_set], h1, by rw [upd_same, nums_set], by simp [nums]⟩⟩, ⟨hx, ?_⟩, H.dj⟩
 rcases H.o2.own with h0 | ⟨j, rfl, g1, g2, g3⟩
 ·exact .inl h0
 ·have : j ≠ i := fun e => H.dj i (.head _) (by rw [e]; exact .head _)
  exact .inr ⟨j, rfl, g1, by rw [upd_ne this]; exact g2, g3⟩
theorem nums_at {k : IntKind} {l : List Int} {r : Nat} (hr : r < l.length) : (nums k l)[r]? = some (.int k (l.getD r 0)) := by
 unfold nums
 rw [List.getElem?_map, List.getElem?_eq_getElem hr, List.getD_eq_getElem?_getD, List.getElem?_eq_getElem hr]
 rfl
abbrev LdL (b3 b4 b5 b6 b8 : Nat) (g : Bool) (c : List AV) (fr by' : Int) : List (Nat × AObj) := [(b8, .cells [.bool g]), (b6, .cells Z9), (b5, .cells [I by']), (b4, .cells [I fr]), (b3, .cells c)]
theorem ld_poke {b3 b4 b5 b6 b8 i : Nat} {g g' : Bool} {c : List AV} {fr by' : Int} {G : Heap} {o : AObj} (hD : Dis G (LdL b3 b4 b5 b6 b8 g c fr by')) (hi : G i ≠ none) :
  upd (upd (hset G (LdL b3 b4 b5 b6 b8 g c fr by')) b8 (some (.cells [.bool g']))) i (some o) = hset (upd G i (some o)) (LdL b3 b4 b5 b6 b8 g' c fr by') ∧ Dis (upd G i (some o)) (LdL b3 b4 b5 b6 b8 g' c fr by') := by
 have hni : i ∉ (LdL b3 b4 b5 b6 b8 g' c fr by').map Prod.fst := fun h => hi (dis_ids hD i h)
 refine ⟨?_, dis_of (dis_nodup hD) fun id hid => ?_⟩
 ·rw [hset_upd hni]
  show upd (upd (upd _ b8 _) b8 _) i _ = _
  rw [upd_upd]
  rfl
 ·rw [upd_ne fun e => hni (by rw [← e]; exact hid)]
  exact dis_ids hD id hid
set_option maxHeartbeats 1000000 in
theorem p91 {h : Heap} {c : List AV} {m : Image} {fr by' : Int} (hc : RImg h c m) (hw : m.WF) (hr : ∀ r ∈ m.rel, 0 ≤ r ∧ r.toNat < m.words.length) (hl : m.words.length ≤ 1048576) (hs : m.stat.length ≤ 1048576) :
  HCallC Tryz.prog ann 91 [.agg c, I fr, I by'] h fun v h' => Ext h h' ∧ ∃ c', v = .tup [.agg c', .bool (mvOk fr by' m)] ∧ RImg h' c' (mvd fr by' m) := by
 have hR := hc
 have hone := hc.one
 have lr : Len m.rel := hw.rel.1
 have lf : Len m.statref := hw.statref
 unfold Len at lr lf
 obtain ⟨vc, vm, vg, vw, vr, vs, vf, rfl, v1, v2, v3, v4, v5, v6, v7⟩ := hc
 refine s_call_R rfl Tryz.func91 (frc (by with_unfolding_all rfl)) rfl ?_
 refine tS ?_
 show SOps _ _ _ _ _ _ _ _ _ (hset h []) _
 apply o_hboxL (v := .agg [vc, vm, I m.entry, I m.need, vg, vw, vr, vs, vf]) dis_nil rfl rfl hone
 intro b3 hD
 apply o_hboxL (v := I fr) hD rfl rfl rfl
 intro b4 hD
 apply o_hboxL (v := I by') hD rfl rfl rfl
 intro b5 hD
 apply o_alcL hD rfl
 intro b6 hD
 refine tA ?_
 apply o_alcL hD rfl
 intro b8 hD
 apply o_st1L 0 hD rfl rfl rfl rfl rfl rfl (by decide)
 intro hD
 show SOps _ _ _ _ _ _ _ _ [b8, b6, b5, b4, b3] (hset h (LdL b3 b4 b5 b6 b8 true [vc, vm, I m.entry, I m.need, vg, vw, vr, vs, vf] fr by')) _
 change Dis h (LdL b3 b4 b5 b6 b8 true [vc, vm, I m.entry, I m.need, vg, vw, vr, vs, vf] fr by') at hD
 refine tA ?_
 refine s_regL (L := LdL b3 b4 b5 b6 b8 true [vc, vm, I m.entry, I m.need, vg, vw, vr, vs, vf] fr by') [.A, .B, .A, .A, .B, .A, .A, .D, .A, .D] hD ?_
 apply x_v rfl rfl trivial
 apply x_ldL 4 hD rfl rfl rfl rfl
 apply x_callL hD rfl rfl rfl (p145o v4 hl)
 intro w G1 O1 hD
 apply x_v rfl rfl trivial
 apply x_ldL 4 hD rfl rfl rfl rfl
 apply x_callL hD rfl rfl rfl (p145o (v6.mono RN.mono O1.ext) hs)
 intro s G O2 hD
 apply x_v rfl rfl trivial
 apply x_st1L 4 hD rfl rfl rfl rfl O1.ones (show 5 < 9 by decide)
 intro hD
 apply x_v rfl rfl trivial
 apply x_st1L 4 hD rfl rfl rfl rfl O2.ones (show 7 < 9 by decide)
 intro hD
 apply x_nil
 change Dis G (LdL b3 b4 b5 b6 b8 true [vc, vm, I m.entry, I m.need, vg, w, vr, s, vf] fr by') at hD
 show ssq _ _ _ _ _ _ _ _ _ (hset G (LdL b3 b4 b5 b6 b8 true [vc, vm, I m.entry, I m.need, vg, w, vr, s, vf] fr by'))
 have O : Own2 h w s m.words m.stat G := own2_of O1 O2
 clear O1 O2
 refine tA ?_
 apply o_ldL 4 hD rfl rfl rfl rfl rfl
 apply o_lenS rfl rfl (v5.mono RN.mono (O.o1.ext.trans (ext_hsetD hD)))
 refine tA ?_
 have hn0 : (LdL b3 b4 b5 b6 b8 true [vc, vm, I m.entry, I m.need, vg, w, vr, s, vf] fr by').map Prod.fst = [b8, b6, b5, b4, b3] := rfl
 refine s_loop (fun k : Nat => [(3, .ptr b3 0), (6, .ptr b6 0), (8, .ptr b8 0), (9, .fn 144 [] [.ptr b8 0, .ptr b4 0, .ptr b5 0]), (23, vr), (24, I m.rel.length), (25, I (k : Int))]) (fun k h' => k ≤ m.rel.length ∧ ∃ G, h' = hset G (LdL b3 b4 b5 b6 b8 (mvW fr by' m k).2 [vc, vm, I m.entry, I m.need, vg, w, vr, s, vf] fr by') ∧ Dis G (LdL b3 b4 b5 b6 b8 (mvW fr by' m k).2 [vc, vm, I m.entry, I m.need, vg, w, vr, s, vf] fr by') ∧ Own2 h w s (mvW fr by' m k).1 m.stat G) (fun k => m.rel.length - k) 0 tU ⟨by omega, G, rfl, hD, O⟩ ?_
 clear hD O
 rintro k _ ⟨hk, G, rfl, hD, O⟩
 refine tA ?_
 refine oI (k < m.rel.length) (fun H => ?_) (fun H => ?_)
 ·have hsucc := mvW_succ (fr := fr) (by' := by') H
  have hwl := mvW_len (fr := fr) (by' := by') (m := m) k
  have hwI := mvW_I (fr := fr) (by' := by') hw k
  have hr' := hr _ (List.getElem_mem H)
  refine tA ?_
  apply o_iaS rfl rfl rfl (v5.mono RN.mono (O.o1.ext.trans (ext_hsetD hD))) H
  intro p d hp hd _
  obtain rfl : d = [I m.rel[k]] := hd
  apply o_ldG rfl rfl hp (.one rfl) (fun h => by omega)
  generalize m.rel[k] = r at hsucc hr'
  generalize mvW fr by' m k = st at hsucc hwl hwI hD O ⊢
  obtain ⟨a, g⟩ := st
  simp only at hwl hwI hD O ⊢
  obtain ⟨i, rfl, hi, hup⟩ := O.poke (r := r.toNat) (by rw [hwl]; exact hr'.2)
  have hv : (nums .i32 a)[r.toNat]? = some (.int .i32 (a.getD r.toNat 0)) := nums_at (by rw [hwl]; exact hr'.2)
  have hI : I32 (a.getD r.toNat 0) := by
   rw [List.getD_eq_getElem?_getD, List.getElem?_eq_getElem (by rw [hwl]; exact hr'.2)]
   exact hwI _ (List.getElem_mem _)
  refine tA ?_
  apply o_as (w := .bool false) rfl rfl trivial (by simp; omega)
  refine tA ?_
  apply o_ldL 4 hD rfl rfl rfl rfl rfl
  refine tA ?_
  apply o_as (w := .bool false) rfl rfl trivial (by simp; omega)
  refine tA ?_
  apply o_ldL 4 hD rfl rfl rfl rfl rfl
  refine tA ?_
  apply o_as (w := .ptr i r.toNat) rfl rfl ⟨rfl, hr'.1, by omega⟩ (by simp)
  refine tA ?_
  have hni : i ∉ (LdL b3 b4 b5 b6 b8 g [vc, vm, I m.entry, I m.need, vg, .sl i 0 a.length 1, vr, s, vf] fr by').map Prod.fst := fun e => by rw [dis_ids hD i e] at hi; cases hi
  apply o_hcall rfl rfl rfl rfl (p144 (g := g) (fr := fr) (by' := by') ((hset_out hni).trans hi) hv (hset_get (k := 0) hD rfl) (hset_get (k := 3) hD rfl) (hset_get (k := 2) hD rfl) (fun e => hni (by rw [e]; exact .head _)) hI)
  rintro _ _ ⟨rfl, rfl⟩
  obtain ⟨e1, e2⟩ := ld_poke (g' := g && mvG fr (a.getD r.toNat 0)) (o := .cells ((nums .i32 a).set r.toNat (.int .i32 (mvC by' (a.getD r.toNat 0))))) hD (by rw [hi]; simp)
  rw [e1]
  refine tA ?_
  apply o_as (w := I ((k + 1 : Nat) : Int)) rfl rfl trivial (by rw [w64 (by omega) (by omega)]; rfl)
  refine tA ?_
  refine ⟨k + 1, by simp only; omega, tU, rfl, by omega, upd G i (some (.cells ((nums .i32 a).set r.toNat (.int .i32 (mvC by' (a.getD r.toNat 0)))))), ?_, ?_, ?_⟩
  ·rw [hsucc]; rfl
  ·rw [hsucc]; exact e2
  ·rw [hsucc]; exact hup _
 obtain rfl : k = m.rel.length := by omega
 clear hk H
 have ea : (mvW fr by' m m.rel.length).1 = (mvd fr by' m).words := rfl
 have hok : mvOk fr by' m = (mvS fr by' m (mvW fr by' m m.rel.length).2 m.stat.length).2 := rfl
 have eb : (mvd fr by' m).stat = (mvS fr by' m (mvW fr by' m m.rel.length).2 m.stat.length).1 := rfl
 rw [ea] at O
 generalize mvW fr by' m m.rel.length = st at hD O hok eb ⊢
 obtain ⟨a0, g0⟩ := st
 simp only at hD O hok eb ⊢
 refine tA ?_
 apply o_ldL 4 hD rfl rfl rfl rfl rfl
 apply o_lenV rfl rfl (O.o2.upE (ext_hsetD hD)).view
 refine tA ?_
 refine s_loop (fun k : Nat => [(3, .ptr b3 0), (6, .ptr b6 0), (8, .ptr b8 0), (9, .fn 144 [] [.ptr b8 0, .ptr b4 0, .ptr b5 0]), (48, I m.stat.length), (49, I (k : Int))]) (fun k h' => k ≤ m.stat.length ∧ ∃ G, h' = hset G (LdL b3 b4 b5 b6 b8 (mvS fr by' m g0 k).2 [vc, vm, I m.entry, I m.need, vg, w, vr, s, vf] fr by') ∧ Dis G (LdL b3 b4 b5 b6 b8 (mvS fr by' m g0 k).2 [vc, vm, I m.entry, I m.need, vg, w, vr, s, vf] fr by') ∧ Own2 h w s (mvd fr by' m).words (mvS fr by' m g0 k).1 G) (fun k => m.stat.length - k) 0 tU ⟨by omega, G, rfl, hD, O⟩ ?_
 clear hD O
 rintro k _ ⟨hk, G, rfl, hD, O⟩
 refine tA ?_
 refine oI (k < m.stat.length) (fun H => ?_) (fun H => ?_)
 ·have hsucc := mvS_succ (fr := fr) (by' := by') (m := m) (g := g0) (k := k)
  have hwl := mvS_len (fr := fr) (by' := by') (m := m) (g := g0) k
  have hwI := mvS_I (fr := fr) (by' := by') (g := g0) hw k
  generalize mvS fr by' m g0 k = st at hsucc hwl hwI hD O ⊢
  obtain ⟨b, g⟩ := st
  simp only at hwl hwI hD O ⊢
  refine tA ?_
  apply o_ldL 4 hD rfl rfl rfl rfl rfl
  apply o_lenS rfl rfl (v7.mono RB.mono (O.o1.ext.trans (ext_hsetD hD)))
  unfold stStep at hsucc
  refine oI (k < m.statref.length) (fun H2 => ?_) (fun H2 => ?_)
  rotate_left
  ·rw [show m.statref.getD k false = false by rw [List.getD_eq_getElem?_getD, List.getElem?_eq_none (by omega)]; rfl] at hsucc
   simp only [Bool.false_eq_true, if_false] at hsucc
   refine tA ?_
   apply o_as (w := I ((k + 1 : Nat) : Int)) rfl rfl trivial (by rw [w64 (by omega) (by omega)]; rfl)
   refine tA ?_
   exact ⟨k + 1, by simp only; omega, tU, rfl, by omega, G, by rw [hsucc], by rw [hsucc]; exact hD, by rw [hsucc]; exact O⟩
  refine tA ?_
  apply o_ldL 4 hD rfl rfl rfl rfl rfl
  refine tA ?_
  apply o_iaS rfl rfl rfl (v7.mono RB.mono (O.o1.ext.trans (ext_hsetD hD))) H2
  intro p d hp hd _
  obtain rfl : d = [.bool m.statref[k]] := hd
  refine tA ?_
  apply o_ldG rfl rfl hp (.one rfl) (fun h => by omega)
  rw [show m.statref.getD k false = m.statref[k] by rw [List.getD_eq_getElem?_getD, List.getElem?_eq_getElem H2]; rfl] at hsucc
  generalize m.statref[k] = f at hsucc
  cases f with
  | false =>
   simp only [Bool.false_eq_true, if_false] at hsucc
   refine tA ?_
   apply o_as (w := I ((k + 1 : Nat) : Int)) rfl rfl trivial (by rw [w64 (by omega) (by omega)]; rfl)
   refine tA ?_
   exact ⟨k + 1, by simp only; omega, tU, rfl, by omega, G, by rw [hsucc], by rw [hsucc]; exact hD, by rw [hsucc]; exact O⟩
  | true =>
   simp only [if_true] at hsucc
   obtain ⟨i, rfl, hi, hup⟩ := O.symm.poke (r := k) (by rw [hwl]; exact H)
   have hv : (nums .i32 b)[k]? = some (.int .i32 (b.getD k 0)) := nums_at (by rw [hwl]; exact H)
   have hI : I32 (b.getD k 0) := by
    rw [List.getD_eq_getElem?_getD, List.getElem?_eq_getElem (by rw [hwl]; exact H)]
    exact hwI _ (List.getElem_mem _)
   refine tA ?_
   apply o_ldL 4 hD rfl rfl rfl rfl rfl
   refine tA ?_
   apply o_as (w := .ptr i k) rfl rfl ⟨rfl, by omega, by omega⟩ (by simp)
   refine tA ?_
   have hni : i ∉ (LdL b3 b4 b5 b6 b8 g [vc, vm, I m.entry, I m.need, vg, w, vr, .sl i 0 b.length 1, vf] fr by').map Prod.fst := fun e => by rw [dis_ids hD i e] at hi; cases hi
   apply o_hcall rfl rfl rfl rfl (p144 (g := g) (fr := fr) (by' := by') ((hset_out hni).trans hi) hv (hset_get (k := 0) hD rfl) (hset_get (k := 3) hD rfl) (hset_get (k := 2) hD rfl) (fun e => hni (by rw [e]; exact .head _)) hI)
   rintro _ _ ⟨rfl, rfl⟩
   obtain ⟨e1, e2⟩ := ld_poke (g' := g && mvG fr (b.getD k 0)) (o := .cells ((nums .i32 b).set k (.int .i32 (mvC by' (b.getD k 0))))) hD (by rw [hi]; simp)
   rw [e1]
   refine tA ?_
   apply o_as (w := I ((k + 1 : Nat) : Int)) rfl rfl trivial (by rw [w64 (by omega) (by omega)]; rfl)
   refine tA ?_
   refine ⟨k + 1, by simp only; omega, tU, rfl, by omega, upd G i (some (.cells ((nums .i32 b).set k (.int .i32 (mvC by' (b.getD k 0)))))), ?_, ?_, ?_⟩
   ·rw [hsucc]; rfl
   ·rw [hsucc]; exact e2
   ·rw [hsucc]; exact (hup _).symm
 obtain rfl : k = m.stat.length := by omega
 rw [← eb] at O
 rw [← hok] at hD ⊢
 have hx : Ext h G := O.o1.ext
 have hcy : RImg G [vc, vm, I m.entry, I m.need, vg, w, vr, s, vf] (mvd fr by' m) := ⟨vc, vm, vg, w, vr, s, vf, rfl, v1.mono RCls.mono hx, v2.mono RMth.mono hx, v3.mono RN.mono hx, ⟨_, O.o1.view, Chunks.of_map⟩, v5.mono RN.mono hx, ⟨_, O.o2.view, Chunks.of_map⟩, v7.mono RB.mono hx⟩
 refine tA ?_
 have hn := dis_nodup hD
 have g3 := hset_get (k := 4) hD rfl
 have g6 := hset_get (k := 1) hD rfl
 have g8 := hset_get (k := 0) hD rfl
 refine s_regX [b6] [.F, .G, .E, .A] (fun id hid => by obtain rfl := List.mem_singleton.1 hid; rw [g6]; simp) rfl ?_
 apply x_ldF (v := .agg [vc, vm, I m.entry, I m.need, vg, w, vr, s, vf]) rfl rfl (.p b3 0 _ _ g3 (sliceL_all rfl)) (.many rfl rfl)
 apply x_ldO rfl rfl g8 (fun h => by obtain rfl := List.mem_singleton.1 h; exact absurd (.head _) (List.nodup_cons.1 hn).1) rfl
 apply x_stE (v := .agg [vc, vm, I m.entry, I m.need, vg, w, vr, s, vf]) (cs' := [vc, vm, I m.entry, I m.need, vg, w, vr, s, vf]) rfl rfl rfl rfl hcy.one g6 (.head _) (splice_full rfl)
 rw [(hset_set (k := 1) hD rfl).1]
 replace hD := (hset_set (k := 1) (o' := .cells [vc, vm, I m.entry, I m.need, vg, w, vr, s, vf]) hD rfl).2
 apply x_v rfl rfl trivial
 apply x_nil
 refine tA ?_
 refine hR_ret (vs := [.agg [vc, vm, I m.entry, I m.need, vg, w, vr, s, vf], .bool (mvOk fr by' m)]) (.cells (m := 9) rfl (by kernel_rfl) (hset_get (k := 1) hD rfl) rfl (.tmp rfl .nil)) rfl ?_ ?_
 ·have ek := kill_hset hD
  rw [show killL [b8, b6, b5, b4, b3] _ = G from ek]
  exact ⟨hx, _, rfl, hcy⟩
 ·intro ht
  exact .inl ⟨.refl, _, rfl, tr_i _ _ _ _ (by simpa [tupled, AV.tree, AV.trees] using ht) hcy⟩
end Go.Proofs
end
section
open Go Go.Abs Go.Proofs.SlimCode Go.Img
namespace Go.Img
theorem flat_mem {α : Type} {e : α → B} {a : α} : ∀ {l : List α}, a ∈ l → (e a).length ≤ (l.flatMap e).length
 | b :: l, h => by
  rw [List.flatMap_cons, List.length_append]
  rcases List.mem_cons.1 h with rfl | h
  ·omega
  ·have := flat_mem (e := e) h
   omega
theorem faces_le {m : Image} (h : size m ≤ 1048576) : ∀ x ∈ m.classes, x.faces.length ≤ 1048577 := by
 intro x hx
 have h1 := flat_mem (e := eCls) hx
 have h2 : x.faces.length ≤ (x.faces.flatMap ePair).length := Proofs.flat_ge (fun a => by unfold ePair; rw [List.length_append]; have := Proofs.put_ge a.1; omega) _
 have h3 : (x.faces.flatMap ePair).length ≤ (eCls x).length := by
  unfold eCls eList
  simp only [List.length_append]
  omega
 have h4 : (m.classes.flatMap eCls).length ≤ size m := by
  unfold size body
  rw [List.length_append]
  unfold eList
  rw [List.length_append]
  omega
 omega
end Go.Img
set_option maxRecDepth 100000
namespace Go.Proofs
open Classical in
noncomputable def loadOf (bs : B) (a : Int) : Int × Image × Int := match Img.decode bs with
 | none => (6, noImage, 0)
 | some m => if ValidP m then (if 0 ≤ a ∧ a ≤ 1048576 then (0, mvd 0 a m, a) else (9, noImage, 0)) else (1, noImage, 0)
theorem valid_rel {m : Image} (h : ValidP m) : (∀ r ∈ m.rel, 0 ≤ r ∧ r.toNat < m.words.length) ∧ m.words.length ≤ 1048576 ∧ m.stat.length ≤ 1048576 := by
 obtain ⟨l, h1, h2⟩ := h.heap
 refine ⟨fun r hr => ?_, ?_, by have := h.first.sizes.2.2.1; omega⟩
 ·rw [← h2.rel] at hr
  exact relOf_at (fun x hx => by
   unfold parse at h1
   split at h1
   ·exact scan_mem _ _ _ (Nat.le_refl _) h1 x hx
   ·cases h1) hr
 ·unfold parse at h1
  split at h1
  ·assumption
  ·cases h1
abbrev Z10 : List AV := Z9 ++ [I 0]
def LoadQ (x : Int × Image × Int) (h : Heap) : AV → Heap → Prop := fun r h' => Ext h h' ∧ ∃ c, r = .tup [.agg (c ++ [I x.2.2]), I x.1] ∧ RImg h' c x.2.1
theorem ones_app {l : List AV} {n : Int} (h : l.all AV.one = true) : (l ++ [I n]).all AV.one = true := by rw [List.all_append, h]; rfl
theorem p29 {h : Heap} {v : AV} {bs : B} {a : Int} (hv : VSl h 1 v (ubs bs) bs.length) (hl : bs.length ≤ 9223372036854775807) : HCallC Tryz.prog ann 29 [v, I a] h (LoadQ (loadOf bs a) h) := by
 refine s_call_R rfl Tryz.func29 (frc (by with_unfolding_all rfl)) rfl ?_
 refine tA ?_
 show SOps _ _ _ _ _ _ _ _ _ (hset h []) _
 apply o_alcL dis_nil rfl
 intro b4 hD
 refine tA ?_
 apply o_callL hD rfl rfl rfl rfl (p17 hv hl)
 rintro _ k1 ⟨hx1, c, e, m, rfl, hR, hw, hcase⟩ hD
 have hR0 := hR
 obtain ⟨vc, vm, vg, vw, vr, vs, vf, rfl, _⟩ := hR0
 refine tA ?_
 apply o_alcL hD rfl
 intro b6 hD
 apply o_stL (v := .agg [vc, vm, I m.entry, I m.need, vg, vw, vr, vs, vf]) (cs' := [vc, vm, I m.entry, I m.need, vg, vw, vr, vs, vf]) 0 hD rfl rfl rfl rfl rfl rfl hR.one (splice_full rfl)
 intro hD
 show SOps _ _ _ _ _ _ _ _ [b6, b4] (hset k1 [(b6, .cells [vc, vm, I m.entry, I m.need, vg, vw, vr, vs, vf]), (b4, .cells Z10)]) _
 change Dis k1 [(b6, .cells [vc, vm, I m.entry, I m.need, vg, vw, vr, vs, vf]), (b4, .cells Z10)] at hD
 have fin : ∀ (k : Heap) (E : Env) (c6 c' : List AV) (x : Int × Image × Int), lk E 4 = some (.ptr b4 0) → lk E 5 = some (I x.1) → c'.length = 9 → Ext h k → RImg k c' x.2.1 → loadOf bs a = x → Dis k [(b6, .cells c6), (b4, .cells (c' ++ [I x.2.2]))] → hretR Tryz.prog ann 29 Tryz.f29.results.toList h (LoadQ (loadOf bs a) h) .ret E [b6, b4] (hset k [(b6, .cells c6), (b4, .cells (c' ++ [I x.2.2]))]) := by
  intro k E c6 c' x e4 e5 hc' hk hr hx hD
  rw [hx]
  refine hR_ret (vs := [.agg (c' ++ [I x.2.2]), I x.1]) (.cells (m := 10) e4 (by kernel_rfl) (hset_get (k := 1) hD rfl) (sliceL_all (by simp [hc'])) (.tmp e5 .nil)) rfl ?_ ?_
  ·rw [show killL [b6, b4] _ = k from kill_hset hD]
   exact ⟨hk, c', rfl, hr⟩
  ·intro ht
   refine .inl ⟨.refl, c', rfl, tr_i _ _ _ _ ?_ hr⟩
   have := ht
   simp only [tupled, AV.tree, AV.trees, trees_append, Bool.and_eq_true] at this
   exact this.1.1
 rcases hcase with ⟨rfl, hd⟩ | ⟨rfl, hd, rfl⟩
 rotate_left
 ·have e : loadOf bs a = (6, noImage, 0) := by unfold loadOf; rw [hd]
  refine tW ?_
  apply o_stL (v := .agg Z10) (cs' := Z10) 1 hD rfl rfl rfl rfl rfl rfl rfl (splice_full rfl)
  intro hD
  refine tW ?_
  exact fin k1 _ _ Z9 _ rfl rfl rfl hx1 noImage_R e hD
 have hsz := (decode_some hd).2
 refine tW ?_
 apply o_ldnL 0 hD rfl rfl rfl rfl rfl
 apply o_callL hD rfl rfl rfl rfl (p25 hR hw (faces_le hsz)).go
 rintro _ k3 ⟨rfl, hy⟩ hD
 replace hx1 := hx1.trans hy
 replace hR := RImg.mono _ _ _ _ hy hR
 clear hy
 by_cases hV : ValidP m
 rotate_left
 ·have e : loadOf bs a = (1, noImage, 0) := by unfold loadOf; rw [hd]; simp only [if_neg hV]
  rw [BP_false hV]
  refine tW ?_
  apply o_stL (v := .agg Z10) (cs' := Z10) 1 hD rfl rfl rfl rfl rfl rfl rfl (splice_full rfl)
  intro hD
  refine tW ?_
  exact fin k3 _ _ Z9 _ rfl rfl rfl hx1 noImage_R e hD
 rw [BP_true hV]
 refine tW ?_
 apply o_callL hD rfl rfl rfl rfl p90.go
 rintro _ k4 ⟨rfl, hy⟩ hD
 replace hx1 := hx1.trans hy
 replace hR := RImg.mono _ _ _ _ hy hR
 clear hy
 by_cases hB : 0 ≤ a ∧ a ≤ 1048576
 rotate_left
 ·have e : loadOf bs a = (9, noImage, 0) := by unfold loadOf; rw [hd]; simp only [if_pos hV, if_neg hB]
  rw [BP_false hB]
  refine tW ?_
  apply o_stL (v := .agg Z10) (cs' := Z10) 1 hD rfl rfl rfl rfl rfl rfl rfl (splice_full rfl)
  intro hD
  refine tW ?_
  exact fin k4 _ _ Z9 _ rfl rfl rfl hx1 noImage_R e hD
 have e : loadOf bs a = (0, mvd 0 a m, a) := by unfold loadOf; rw [hd]; simp only [if_pos hV, if_pos hB]
 rw [BP_true hB]
 refine tW ?_
 apply o_ldnL 0 hD rfl rfl rfl rfl rfl
 refine tW ?_
 apply o_callL hD rfl rfl rfl rfl (p91 hR hw (valid_rel hV).1 (valid_rel hV).2.1 (valid_rel hV).2.2)
 rintro _ k5 ⟨hy, c', rfl, hR'⟩ hD
 replace hx1 := hx1.trans hy
 have hR0 := hR'
 obtain ⟨wc, wm, wg, ww, wr, ws, wf, rfl, _⟩ := hR0
 refine tW ?_
 apply o_stL (v := .agg [wc, wm, I _, I _, wg, ww, wr, ws, wf]) (cs' := [wc, wm, I _, I _, wg, ww, wr, ws, wf]) 0 hD rfl rfl rfl rfl rfl rfl hR'.one (splice_full rfl)
 intro hD
 refine tW ?_
 apply o_ldnL 0 hD rfl rfl rfl rfl rfl
 refine tW ?_
 apply o_stL (v := .agg [wc, wm, I _, I _, wg, ww, wr, ws, wf, I a]) (cs' := [wc, wm, I _, I _, wg, ww, wr, ws, wf, I a]) 1 hD rfl rfl rfl rfl rfl rfl (ones_app hR'.one) (splice_full rfl)
 intro hD
 refine tW ?_
 exact fin k5 _ _ [wc, wm, I _, I _, wg, ww, wr, ws, wf] (0, mvd 0 a m, a) rfl rfl rfl hx1 hR' e hD
open Classical in
noncomputable def moveOf (m : Image) (b a : Int) : Bool × Image × Int := if 0 ≤ a ∧ a ≤ 1048576 then (if mvOk b (a - b) m = true then (true, mvd b (a - b) m, a) else (false, noImage, 0)) else (false, noImage, 0)
def MoveQ (x : Bool × Image × Int) (h : Heap) : AV → Heap → Prop := fun r h' => Ext h h' ∧ ∃ c, r = .tup [.agg (c ++ [I x.2.2]), .bool x.1] ∧ RImg h' c x.2.1
theorem p31 {h : Heap} {c : List AV} {m : Image} {a b : Int} (hR : RImg h c m) (hw : m.WF) (hr : ∀ r ∈ m.rel, 0 ≤ r ∧ r.toNat < m.words.length) (hl : m.words.length ≤ 1048576) (hs : m.stat.length ≤ 1048576) (hb : 0 ≤ b ∧ b ≤ 1048576) :
  HCallC Tryz.prog ann 31 [.agg (c ++ [I b]), I a] h (MoveQ (moveOf m b a) h) := by
 have hR0 := hR
 obtain ⟨vc, vm, vg, vw, vr, vs, vf, rfl, _⟩ := hR0
 refine s_call_R rfl Tryz.func31 (frc (by with_unfolding_all rfl)) rfl ?_
 refine tS ?_
 apply o_val rfl rfl (ones_app hR.one)
 show SOps _ _ _ _ _ _ _ _ _ (hset h []) _
 apply o_alcL dis_nil rfl
 intro b4 hD
 have fin : ∀ (k : Heap) (E : Env) (c' : List AV) (L : List (Nat × AObj)) (n : Nat) (x : Bool × Image × Int), lk E 4 = some (.ptr b4 0) → lk E 5 = some (.bool x.1) → c'.length = 9 → Ext h k → RImg k c' x.2.1 → moveOf m b a = x → Dis k L → L[n]? = some (b4, .cells (c' ++ [I x.2.2])) → hretR Tryz.prog ann 31 Tryz.f31.results.toList h (MoveQ (moveOf m b a) h) .ret E (L.map Prod.fst) (hset k L) := by
  intro k E c' L n x e4 e5 hc' hk hr hx hD hL
  rw [hx]
  refine hR_ret (vs := [.agg (c' ++ [I x.2.2]), .bool x.1]) (.cells (m := 10) e4 (by kernel_rfl) (hset_get hD hL) (sliceL_all (by simp [hc'])) (.tmp e5 .nil)) rfl ?_ ?_
  ·rw [kill_hset hD]
   exact ⟨hk, c', rfl, hr⟩
  ·intro ht
   refine .inl ⟨.refl, c', rfl, tr_i _ _ _ _ ?_ hr⟩
   have := ht
   simp only [tupled, AV.tree, AV.trees, trees_append, Bool.and_eq_true] at this
   exact this.1.1
 refine tA ?_
 apply o_callL hD rfl rfl rfl rfl p90.go
 rintro _ k1 ⟨rfl, hx1⟩ hD
 by_cases hB : 0 ≤ a ∧ a ≤ 1048576
 rotate_left
 ·have e : moveOf m b a = (false, noImage, 0) := by unfold moveOf; rw [if_neg hB]
  rw [BP_false hB]
  refine tW ?_
  apply o_stL (v := .agg Z10) (cs' := Z10) 0 hD rfl rfl rfl rfl rfl rfl rfl (splice_full rfl)
  intro hD
  refine tW ?_
  exact fin k1 _ Z9 [_] 0 _ rfl rfl rfl hx1 noImage_R e hD rfl
 rw [BP_true hB]
 refine tW ?_
 rw [w64 (n := a - b) (by omega) (by omega)]
 apply o_callL hD rfl rfl rfl rfl (p91 (RImg.mono _ _ _ _ hx1 hR) hw hr hl hs)
 rintro _ k2 ⟨hy, c', rfl, hR'⟩ hD
 replace hx1 := hx1.trans hy
 have hR0 := hR'
 obtain ⟨wc, wm, wg, ww, wr, ws, wf, rfl, _⟩ := hR0
 refine tW ?_
 apply o_alcL hD rfl
 intro b6 hD
 apply o_stL (v := .agg [wc, wm, I _, I _, wg, ww, wr, ws, wf]) (cs' := [wc, wm, I _, I _, wg, ww, wr, ws, wf]) 0 hD rfl rfl rfl rfl rfl rfl hR'.one (splice_full rfl)
 intro hD
 cases hok : mvOk b (a - b) m with
 | false =>
  have e : moveOf m b a = (false, noImage, 0) := by unfold moveOf; rw [if_pos hB, if_neg (by rw [hok]; simp)]
  refine tW ?_
  apply o_stL (v := .agg Z10) (cs' := Z10) 1 hD rfl rfl rfl rfl rfl rfl rfl (splice_full rfl)
  intro hD
  refine tW ?_
  exact fin k2 _ Z9 [_, _] 1 _ rfl rfl rfl hx1 noImage_R e hD rfl
 | true =>
  have e : moveOf m b a = (true, mvd b (a - b) m, a) := by unfold moveOf; rw [if_pos hB, if_pos hok]
  refine tW ?_
  apply o_ldnL 0 hD rfl rfl rfl rfl rfl
  refine tW ?_
  apply o_stL (v := .agg [wc, wm, I _, I _, wg, ww, wr, ws, wf, I a]) (cs' := [wc, wm, I _, I _, wg, ww, wr, ws, wf, I a]) 1 hD rfl rfl rfl rfl rfl rfl (ones_app hR'.one) (splice_full rfl)
  intro hD
  refine tW ?_
  exact fin k2 _ [wc, wm, I _, I _, wg, ww, wr, ws, wf] [_, _] 1 (true, mvd b (a - b) m, a) rfl rfl rfl hx1 hR' e hD rfl
end Go.Proofs
end
section
open Go Go.Abs Go.Proofs.SlimCode Go.Img
set_option maxRecDepth 100000
namespace Go.Proofs
theorem nums_one {k : IntKind} {l : List Int} : (nums k l).all AV.one = true := by
 rw [List.all_eq_true]
 intro x hx
 obtain ⟨n, _, rfl⟩ := List.mem_map.1 hx
 rfl
theorem sl_nums {k : IntKind} {h : Heap} {v : AV} {l : List Int} (H : Sl (RN k) 1 h v l) : VSl h 1 v (nums k l) l.length := by
 obtain ⟨cs, h1, h2⟩ := H
 obtain rfl : cs = nums k l := Chunks.map h2
 exact h1
section
variable {P : Program} {A : Ann} {f nt : Nat} {E : Env} {bx : List Nat} {hb : Heap} {L : List (Nat × AObj)} {Q : AX → Env → List Nat → Heap → Prop} {cls : List Cl}
theorem x_cloneL {d : Nat} {y : SX} {r : List SO} {vy : AV} {l : List Int} (hD : Dis hb L) (hlt : (decide (d < nt)) = true) (hy : ev (lk E) y = some vy) (hv : VSl hb 1 vy (nums .i32 l) l.length) (hl : l.length ≤ 1048576)
  (H : ∀ v h1, OSl hb 1 v (nums .i32 l) l.length h1 → Dis h1 L → SOpsX P A f nt (L.map Prod.fst) cls r ((d, v) :: E) bx (hset h1 L) Q) : SOpsX P A f nt (L.map Prod.fst) (.A :: cls) (⟨some d, none, .app 1 4 (.c (.nil .sl)) y⟩ :: r) E bx (hset hb L) Q := by
 refine x_AL (R := fun E' bx' h1 => ∃ v, E' = (d, v) :: E ∧ bx' = bx ∧ OSl hb 1 v (nums .i32 l) l.length h1) hD
  (o_appO (old := []) (l := 0) (new := nums .i32 l) (n := l.length) rfl hlt rfl hy (.nil .refl) (srcOf_V hv) hv.len nums_one (by omega) fun v h1 O _ => o_nil ⟨rfl, v, rfl, rfl, by simpa using O⟩) ?_
 rintro _ _ h1 ⟨v, rfl, rfl, q⟩ hD'
 exact H v h1 q hD'
theorem x_st1D {dst : Option Nat} {x y : SX} {r : List SO} {id off : Nat} {v : AV} {cs : List AV} {h : Heap} (hd : dstOk' nt dst = true) (hx : ev (lk E) x = some (.ptr id off)) (hy : ev (lk E) y = some v) (ho : v.one = true) (hid : h id = some (.cells cs)) (hlt : off < cs.length)
  (H : SOpsX P A f nt [] cls r (undefE dst E) bx (upd h id (some (.cells (cs.set off v)))) Q) : SOpsX P A f nt [] (.D :: cls) (⟨dst, none, .st x y 1⟩ :: r) E bx h Q := by
 refine x_D (R := fun E' bx' k' => E' = undefE dst E ∧ bx' = bx ∧ k' = upd h id (some (.cells (cs.set off v)))) (o_st1 rfl hd hx hy ho hid hlt (o_nil ⟨rfl, rfl, rfl, rfl⟩)) ?_
 rintro _ _ _ ⟨rfl, rfl, rfl⟩
 exact ⟨fun _ h => by (cases h), H⟩
end
theorem set_zero {a : List Int} {r : Nat} (h : a.getD r 0 = 0) : a.set r 0 = a := by
 apply List.ext_getElem?
 intro n
 rw [List.getElem?_set]
 split
 ·rename_i e
  subst e
  rw [List.getD_eq_getElem?_getD] at h
  split
  ·rename_i hlt
   rw [List.getElem?_eq_getElem hlt] at h ⊢
   exact congrArg some h.symm
  ·rename_i hlt
   rw [List.getElem?_eq_none (by omega)]
 ·rfl
abbrev LmL (b2 b4 : Nat) (c : List AV) : List (Nat × AObj) := [(b4, .cells Z9), (b2, .cells c)]
theorem own_up {G : Heap} {L : List (Nat × AObj)} {i : Nat} {o : AObj} (hD : Dis G L) (hi : G i ≠ none) : upd (hset G L) i (some o) = hset (upd G i (some o)) L ∧ Dis (upd G i (some o)) L := by
 have hni : i ∉ L.map Prod.fst := fun h => hi (dis_ids hD i h)
 refine ⟨(hset_upd hni).symm, dis_of (dis_nodup hD) fun id hid => ?_⟩
 rw [upd_ne fun e => hni (by rw [← e]; exact hid)]
 exact dis_ids hD id hid
set_option maxHeartbeats 1000000 in
theorem p30 {h : Heap} {c : List AV} {m : Image} {by' : Int} (hc : RImg h c m) (hw : m.WF) (hr : ∀ r ∈ m.rel, 0 ≤ r ∧ r.toNat < m.words.length) (hl : m.words.length ≤ 1048576) (hs : m.stat.length ≤ 1048576) (hf : m.stat.length ≤ m.statref.length) (hb : I32 by') :
  HCallC Tryz.prog ann 30 [.agg c, .int .i32 by'] h fun v h' => Ext h h' ∧ ∃ c', v = .agg c' ∧ RImg h' c' (mvd 0 by' m) := by
 have hone := hc.one
 have lr : Len m.rel := hw.rel.1
 unfold Len at lr
 unfold I32 at hb
 obtain ⟨vc, vm, vg, vw, vr, vs, vf, rfl, v1, v2, v3, v4, v5, v6, v7⟩ := hc
 refine s_call_R rfl Tryz.func30 (frc (by with_unfolding_all rfl)) rfl ?_
 refine tA ?_
 show SOps _ _ _ _ _ _ _ _ _ (hset h []) _
 apply o_hboxL (v := .agg [vc, vm, I m.entry, I m.need, vg, vw, vr, vs, vf]) dis_nil rfl rfl hone
 intro b2 hD
 apply o_alcL hD rfl
 intro b4 hD
 show SOps _ _ _ _ _ _ _ _ [b4, b2] (hset h (LmL b2 b4 [vc, vm, I m.entry, I m.need, vg, vw, vr, vs, vf])) _
 change Dis h (LmL b2 b4 [vc, vm, I m.entry, I m.need, vg, vw, vr, vs, vf]) at hD
 refine tA ?_
 refine s_regL [.A, .B, .A, .A, .B, .A, .A, .D, .A, .D] hD ?_
 apply x_v rfl rfl trivial
 apply x_ldL 1 hD rfl rfl rfl rfl
 apply x_cloneL hD rfl rfl (sl_nums v4) hl
 intro w G1 O1 hD
 apply x_v rfl rfl trivial
 apply x_ldL 1 hD rfl rfl rfl rfl
 apply x_cloneL hD rfl rfl (sl_nums (v6.mono RN.mono O1.ext)) hs
 intro s G O2 hD
 apply x_v rfl rfl trivial
 apply x_st1L 1 hD rfl rfl rfl rfl O1.ones (show 5 < 9 by decide)
 intro hD
 apply x_v rfl rfl trivial
 apply x_st1L 1 hD rfl rfl rfl rfl O2.ones (show 7 < 9 by decide)
 intro hD
 apply x_nil
 change Dis G (LmL b2 b4 [vc, vm, I m.entry, I m.need, vg, w, vr, s, vf]) at hD
 show ssq _ _ _ _ _ _ _ _ _ (hset G (LmL b2 b4 [vc, vm, I m.entry, I m.need, vg, w, vr, s, vf]))
 have O : Own2 h w s m.words m.stat G := own2_of O1 O2
 clear O1 O2
 refine tA ?_
 refine s_loop (fun k : Nat => [(1, .int .i32 by'), (2, .ptr b2 0), (4, .ptr b4 0), (5, I (k : Int))]) (fun k h' => k ≤ m.rel.length ∧ ∃ G, h' = hset G (LmL b2 b4 [vc, vm, I m.entry, I m.need, vg, w, vr, s, vf]) ∧ Dis G (LmL b2 b4 [vc, vm, I m.entry, I m.need, vg, w, vr, s, vf]) ∧ Own2 h w s (mvW 0 by' m k).1 m.stat G) (fun k => m.rel.length - k) 0 tU ⟨by omega, G, rfl, hD, O⟩ ?_
 clear hD O
 rintro k _ ⟨hk, G, rfl, hD, O⟩
 refine tA ?_
 apply o_ldL 1 hD rfl rfl rfl rfl rfl
 apply o_lenS rfl rfl (v5.mono RN.mono (O.o1.ext.trans (ext_hsetD hD)))
 refine oI (k < m.rel.length) (fun H => ?_) (fun H => ?_)
 ·have hsucc := mvW_succ (fr := 0) (by' := by') H
  have hwl := mvW_len (fr := 0) (by' := by') (m := m) k
  have hwI := mvW_I (fr := 0) (by' := by') hw k
  have hr' := hr _ (List.getElem_mem H)
  obtain ⟨r, hrk⟩ : ∃ r, m.rel[k] = r := ⟨_, rfl⟩
  rw [hrk] at hsucc hr'
  have v5' := v5.mono RN.mono (O.o1.ext.trans (ext_hsetD hD))
  have g2 := hset_get (k := 1) hD rfl
  generalize mvW 0 by' m k = st at hsucc hwl hwI hD O ⊢
  obtain ⟨a, g⟩ := st
  simp only at hwl hwI hD O ⊢
  obtain ⟨i, rfl, hi, hup⟩ := O.poke (r := r.toNat) (by rw [hwl]; exact hr'.2)
  have hv : (nums .i32 a)[r.toNat]? = some (.int .i32 (a.getD r.toNat 0)) := nums_at (by rw [hwl]; exact hr'.2)
  have hI : I32 (a.getD r.toNat 0) := by
   rw [List.getD_eq_getElem?_getD, List.getElem?_eq_getElem (by rw [hwl]; exact hr'.2)]
   exact hwI _ (List.getElem_mem _)
  have hi' := (ext_hsetD hD) _ _ hi
  obtain ⟨e1, e2⟩ := own_up (o := .cells ((nums .i32 a).set r.toNat (.int .i32 (mvC by' (a.getD r.toNat 0))))) hD (show G i ≠ none by rw [hi]; simp)
  refine tA ?_
  apply s_regX [] [.A, .F, .A, .F, .A, .A, .F, .A, .F, .A] (fun _ h => by cases h) rfl
  apply x_v rfl rfl trivial
  apply x_ldF1 rfl rfl g2 rfl
  apply x_v rfl rfl trivial
  apply x_ldF1 rfl rfl g2 rfl
  apply x_v rfl rfl trivial
  apply x_ia0 rfl rfl rfl v5' H
  intro p d hp hd _
  obtain rfl : d = [I r] := by rw [← hrk]; exact hd
  apply x_ldF rfl rfl hp (.one rfl)
  apply x_as (w := .ptr i r.toNat) rfl rfl ⟨rfl, hr'.1, by omega⟩ (by simp)
  apply x_ldF1 rfl rfl hi' hv
  have hms : mvStep 0 by' (a, g) r.toNat = (a.set r.toNat (mvC by' (a.getD r.toNat 0)), g && mvG 0 (a.getD r.toNat 0)) := rfl
  rw [hms] at hsucc
  by_cases hx0 : a.getD r.toNat 0 = 0
  ·apply x_as (w := .bool false) rfl rfl trivial (by rw [hx0]; rfl)
   apply x_nil
   refine tA ?_
   apply o_as (w := I ((k + 1 : Nat) : Int)) rfl rfl trivial (by rw [w64 (by omega) (by omega)]; rfl)
   refine tA ?_
   refine ⟨k + 1, by simp only; omega, tU, rfl, by omega, G, rfl, hD, ?_⟩
   rw [hsucc, hx0]
   rw [show a.set r.toNat (mvC by' 0) = a from set_zero hx0]
   exact O
  ·apply x_as (w := .bool true) rfl rfl trivial (by simpa using hx0)
   apply x_nil
   refine tA ?_
   apply s_regX [] [.A, .F, .A, .F, .A, .A, .F, .A, .F, .A, .A, .A, .D] (fun _ h => by cases h) rfl
   apply x_v rfl rfl trivial
   apply x_ldF1 rfl rfl g2 rfl
   apply x_v rfl rfl trivial
   apply x_ldF1 rfl rfl g2 rfl
   apply x_v rfl rfl trivial
   apply x_ia0 rfl rfl rfl v5' H
   intro p d hp hd _
   obtain rfl : d = [I r] := by rw [← hrk]; exact hd
   apply x_ldF rfl rfl hp (.one rfl)
   apply x_as (w := .ptr i r.toNat) rfl rfl ⟨rfl, hr'.1, by omega⟩ (by simp)
   apply x_ldF1 rfl rfl hi' hv
   apply x_v rfl rfl trivial
   apply x_as (w := .int .i32 (mvC by' (a.getD r.toNat 0))) rfl rfl trivial (by rw [show mvC by' (a.getD r.toNat 0) = Img.w32 (a.getD r.toNat 0 + by') from if_neg hx0, ← wrapC, w32 hb.1 hb.2])
   apply x_as (w := .ptr i r.toNat) rfl rfl ⟨rfl, hr'.1, by omega⟩ (by simp)
   apply x_st1D rfl rfl rfl rfl hi' (by simpa [nums, hwl] using hr'.2)
   apply x_nil
   rw [e1]
   refine tA ?_
   apply o_as (w := I ((k + 1 : Nat) : Int)) rfl rfl trivial (by rw [w64 (by omega) (by omega)]; rfl)
   refine tA ?_
   refine ⟨k + 1, by simp only; omega, tU, rfl, by omega, _, rfl, e2, ?_⟩
   rw [hsucc]
   exact hup _
 obtain rfl : k = m.rel.length := by omega
 have ea : (mvW 0 by' m m.rel.length).1 = (mvd 0 by' m).words := rfl
 have eb : (mvd 0 by' m).stat = (mvS 0 by' m (mvW 0 by' m m.rel.length).2 m.stat.length).1 := rfl
 rw [ea] at O
 generalize (mvW 0 by' m m.rel.length).2 = g0 at eb
 clear hk H
 refine tA ?_
 refine s_loop (fun k : Nat => [(1, .int .i32 by'), (2, .ptr b2 0), (4, .ptr b4 0), (6, I (k : Int))]) (fun k h' => k ≤ m.stat.length ∧ ∃ G, h' = hset G (LmL b2 b4 [vc, vm, I m.entry, I m.need, vg, w, vr, s, vf]) ∧ Dis G (LmL b2 b4 [vc, vm, I m.entry, I m.need, vg, w, vr, s, vf]) ∧ Own2 h w s (mvd 0 by' m).words (mvS 0 by' m g0 k).1 G) (fun k => m.stat.length - k) 0 tU ⟨by omega, G, rfl, hD, O⟩ ?_
 clear hD O
 rintro k _ ⟨hk, G, rfl, hD, O⟩
 have hwl := mvS_len (fr := 0) (by' := by') (m := m) (g := g0) k
 refine tA ?_
 apply o_ldL 1 hD rfl rfl rfl rfl rfl
 apply o_lenV rfl rfl (O.o2.upE (ext_hsetD hD)).view
 rw [hwl]
 refine oI (k < m.stat.length) (fun H => ?_) (fun H => ?_)
 ·have hsucc := mvS_succ (fr := 0) (by' := by') (m := m) (g := g0) (k := k)
  have hwI := mvS_I (fr := 0) (by' := by') (g := g0) hw k
  have H2 : k < m.statref.length := by omega
  have v7' := v7.mono RB.mono (O.o1.ext.trans (ext_hsetD hD))
  generalize mvS 0 by' m g0 k = st at hsucc hwl hwI hD O ⊢
  obtain ⟨b, g⟩ := st
  simp only at hwl hwI hD O ⊢
  unfold stStep at hsucc
  rw [show m.statref.getD k false = m.statref[k] by rw [List.getD_eq_getElem?_getD, List.getElem?_eq_getElem H2]; rfl] at hsucc
  refine tA ?_
  apply o_ldL 1 hD rfl rfl rfl rfl rfl
  refine tA ?_
  apply o_iaS rfl rfl rfl v7' H2
  intro p d hp hd _
  obtain rfl : d = [.bool m.statref[k]] := hd
  refine tA ?_
  apply o_ldG rfl rfl hp (.one rfl) (fun h => by omega)
  generalize m.statref[k] = f at hsucc
  cases f with
  | false =>
   simp only [Bool.false_eq_true, if_false] at hsucc
   refine tA ?_
   apply o_as (w := I ((k + 1 : Nat) : Int)) rfl rfl trivial (by rw [w64 (by omega) (by omega)]; rfl)
   refine tA ?_
   exact ⟨k + 1, by simp only; omega, tU, rfl, by omega, G, rfl, hD, by rw [hsucc]; exact O⟩
  | true =>
   simp only [if_true] at hsucc
   obtain ⟨i, rfl, hi, hup⟩ := O.symm.poke (r := k) (by rw [hwl]; exact H)
   have hv : (nums .i32 b)[k]? = some (.int .i32 (b.getD k 0)) := nums_at (by rw [hwl]; exact H)
   have hI : I32 (b.getD k 0) := by
    rw [List.getD_eq_getElem?_getD, List.getElem?_eq_getElem (by rw [hwl]; exact H)]
    exact hwI _ (List.getElem_mem _)
   have hi' := (ext_hsetD hD) _ _ hi
   obtain ⟨e1, e2⟩ := own_up (o := .cells ((nums .i32 b).set k (.int .i32 (mvC by' (b.getD k 0))))) hD (show G i ≠ none by rw [hi]; simp)
   have hms : mvStep 0 by' (b, g) k = (b.set k (mvC by' (b.getD k 0)), g && mvG 0 (b.getD k 0)) := rfl
   rw [hms] at hsucc
   refine tA ?_
   apply o_ldL 1 hD rfl rfl rfl rfl rfl
   refine tA ?_
   apply o_as (w := .ptr i k) rfl rfl ⟨rfl, by omega, by omega⟩ (by simp)
   refine tA ?_
   apply o_ldh rfl rfl hi' (fun h => by omega) hv
   refine tA ?_
   by_cases hx0 : b.getD k 0 = 0
   ·apply o_as (w := .bool false) rfl rfl trivial (by rw [hx0]; rfl)
    refine tA ?_
    apply o_as (w := I ((k + 1 : Nat) : Int)) rfl rfl trivial (by rw [w64 (by omega) (by omega)]; rfl)
    refine tA ?_
    refine ⟨k + 1, by simp only; omega, tU, rfl, by omega, G, rfl, hD, ?_⟩
    rw [hsucc, hx0, show b.set k (mvC by' 0) = b from set_zero hx0]
    exact O
   ·apply o_as (w := .bool true) rfl rfl trivial (by simpa using hx0)
    refine tA ?_
    apply o_ldL 1 hD rfl rfl rfl rfl rfl
    refine tA ?_
    apply o_as (w := .ptr i k) rfl rfl ⟨rfl, by omega, by omega⟩ (by simp)
    apply o_ldh rfl rfl hi' (fun h => by omega) hv
    refine tA ?_
    apply o_as (w := .int .i32 (mvC by' (b.getD k 0))) rfl rfl trivial (by rw [show mvC by' (b.getD k 0) = Img.w32 (b.getD k 0 + by') from if_neg hx0, ← wrapC, w32 hb.1 hb.2])
    apply o_as (w := .ptr i k) rfl rfl ⟨rfl, by omega, by omega⟩ (by simp)
    apply o_st1 rfl rfl rfl rfl rfl hi' (by simpa [nums, hwl] using H)
    rw [e1]
    refine tA ?_
    apply o_as (w := I ((k + 1 : Nat) : Int)) rfl rfl trivial (by rw [w64 (by omega) (by omega)]; rfl)
    refine tA ?_
    refine ⟨k + 1, by simp only; omega, tU, rfl, by omega, _, rfl, e2, ?_⟩
    rw [hsucc]
    exact (hup _).symm
 obtain rfl : k = m.stat.length := by omega
 rw [← eb] at O
 have hx : Ext h G := O.o1.ext
 have hcy : RImg G [vc, vm, I m.entry, I m.need, vg, w, vr, s, vf] (mvd 0 by' m) := ⟨vc, vm, vg, w, vr, s, vf, rfl, v1.mono RCls.mono hx, v2.mono RMth.mono hx, v3.mono RN.mono hx, ⟨_, O.o1.view, Chunks.of_map⟩, v5.mono RN.mono hx, ⟨_, O.o2.view, Chunks.of_map⟩, v7.mono RB.mono hx⟩
 refine tA ?_
 apply o_ldnL 1 hD rfl rfl rfl rfl rfl
 apply o_stL (v := .agg [vc, vm, I m.entry, I m.need, vg, w, vr, s, vf]) (cs' := [vc, vm, I m.entry, I m.need, vg, w, vr, s, vf]) 0 hD rfl rfl rfl rfl rfl rfl hcy.one (splice_full rfl)
 intro hD
 refine tA ?_
 refine hR_ret (vs := [.agg [vc, vm, I m.entry, I m.need, vg, w, vr, s, vf]]) (.cells (m := 9) rfl (by kernel_rfl) (hset_get (k := 0) hD rfl) rfl .nil) rfl ?_ ?_
 ·rw [show killL [b4, b2] _ = G from kill_hset hD]
  exact ⟨hx, _, rfl, hcy⟩
 ·intro ht
  exact .inl ⟨.refl, _, rfl, tr_i _ _ _ _ (by simpa [tupled, AV.tree, AV.trees] using ht) hcy⟩
end Go.Proofs
end
section
open Go Go.Abs Go.Proofs.SlimCode Go.Img
set_option maxRecDepth 100000
namespace Go.Proofs
theorem p16v {h : Heap} {c : List AV} {m : Image} (hc : RImg h c m) (hw : m.WF) (hb : (Img.body m).length ≤ 50000) : HCallC Tryz.prog ann 16 [.agg c] h fun v h' => OSl h 1 v (ubs (encode m)) (encode m).length h' :=
 (p16 hc hw (by omega)).mono fun v h' q => by
  rcases q with ⟨_, O⟩ | ⟨hq, _⟩
  ·exact O
  ·exfalso
   unfold size at hq
   omega
theorem small_body : (Img.body small).length ≤ 50000 := small_len small_WF small_Small
theorem enc_len {m : Image} (h : (Img.body m).length ≤ 50000) : (encode m).length ≤ 9223372036854775807 := by rw [encode_len]; unfold size; omega
theorem load_small {a : Int} (h : 0 ≤ a ∧ a ≤ 1048576) : loadOf (encode small) a = (0, mvd 0 a small, a) := by
 unfold loadOf
 rw [dec_small]
 simp only [if_pos valid_small, if_pos h]
theorem load_low : loadOf (encode small) (-1) = (9, noImage, 0) := by
 unfold loadOf
 rw [dec_small]
 simp only [if_pos valid_small]
 rw [if_neg (by omega)]
theorem load_nil {a : Int} : loadOf [] a = (6, noImage, 0) := by
 unfold loadOf
 rw [dec_none]
theorem no_body : (Img.body noImage).length ≤ 50000 := by simp [Img.body, eList, noImage, put, zz, leb]
theorem load_no {a : Int} : loadOf (encode noImage) a = (1, noImage, 0) := by
 unfold loadOf
 rw [decode_encode noImage_WF (by have := no_body; unfold size; omega)]
 simp only [if_neg bad_none]
theorem p89 : PureC Tryz.prog ann 89 [] (.bool true) := by
 refine s_pure_of Tryz.func89 (frc (by with_unfolding_all rfl)) rfl rfl rfl ?_
 refine tV ?_
 (refine tG ?_; (with_reducible apply o_call); exact rfl; exact rfl; exact rfl; exact p24)
 refine tW ?_
 (first | apply sret_ret | apply sret_norm); exact res_tmp (vs := [_]) rfl rfl
theorem small_rel : ∀ r ∈ small.rel, 0 ≤ r ∧ r.toNat < small.words.length := by decide
theorem mv100 : mvd 0 100 small = { small with words := [0, 0, 10, 1, 101], stat := [5, 103] } := rfl
theorem mv100_rel : ∀ r ∈ (mvd 0 100 small).rel, 0 ≤ r ∧ r.toNat < (mvd 0 100 small).words.length := by rw [mv100]; exact small_rel
theorem move100 : moveOf (mvd 0 100 small) 100 0 = (true, small, 0) := by
 have e : mvd 100 (0 - 100) (mvd 0 100 small) = small := rfl
 have e2 : mvOk 100 (0 - 100) (mvd 0 100 small) = true := rfl
 unfold moveOf
 rw [if_pos (by omega), if_pos e2, e]
theorem p28 : PureC Tryz.prog ann 28 [] (.bool true) := by
 refine s_pure_of Tryz.func28 (frc (by with_unfolding_all rfl)) rfl rfl rfl ?_
 refine tA ?_
 show SOps _ _ _ _ _ _ _ _ _ (hset hp0 []) _
 apply o_callL dis_nil rfl rfl rfl rfl p27
 rintro _ k1 ⟨_, c1, rfl, hM⟩ hD
 have hM0 := hM
 obtain ⟨vc, vm, vg, vw, vr, vs, vf, rfl, _⟩ := hM0
 refine tA ?_
 apply o_alcL hD rfl
 intro b1 hD
 apply o_stL (v := .agg [vc, vm, I _, I _, vg, vw, vr, vs, vf]) (cs' := [vc, vm, I _, I _, vg, vw, vr, vs, vf]) 0 hD rfl rfl rfl rfl rfl rfl hM.one (splice_full rfl)
 intro hD
 refine tA ?_
 apply o_ldnL 0 hD rfl rfl rfl rfl rfl
 apply o_callL hD rfl rfl rfl rfl (p16v hM small_WF small_body)
 rintro e1 k2 O hD
 replace hM := RImg.mono _ _ _ _ O.ext hM
 apply o_callL hD rfl rfl rfl rfl (p29 (a := 100) O.view (enc_len small_body))
 rintro _ k3 ⟨hx, c2, rfl, hM2⟩ hD
 rw [load_small (by omega)] at hM2 ⊢
 replace hM := RImg.mono _ _ _ _ hx hM
 clear hx O
 have hM0 := hM2
 obtain ⟨wc, wm, wg, ww, wr, ws, wf, rfl, _⟩ := hM0
 refine tA ?_
 apply o_alcL hD rfl
 intro b2 hD
 apply o_stL (v := .agg [wc, wm, I _, I _, wg, ww, wr, ws, wf, I 100]) (cs' := [wc, wm, I _, I _, wg, ww, wr, ws, wf, I 100]) 0 hD rfl rfl rfl rfl rfl rfl (ones_app hM2.one) (splice_full rfl)
 intro hD
 refine tA ?_
 apply o_callL hD rfl rfl rfl rfl (p29 (v := .nil .sl) (bs := []) (a := 0) .nil (by decide))
 rintro _ k4 ⟨hx, c3, rfl, hM3⟩ hD
 rw [load_nil] at hM3 ⊢
 replace hM := RImg.mono _ _ _ _ hx hM
 replace hM2 := RImg.mono _ _ _ _ hx hM2
 clear hx
 have hM0 := hM3
 obtain ⟨_, _, _, _, _, _, _, rfl, _⟩ := hM0
 refine tA ?_
 apply o_alcL hD rfl
 intro b4 hD
 apply o_stL (v := .agg [_, _, I _, I _, _, _, _, _, _, I 0]) (cs' := [_, _, I _, I _, _, _, _, _, _, I 0]) 0 hD rfl rfl rfl rfl rfl rfl (ones_app hM3.one) (splice_full rfl)
 intro hD
 clear hM3
 refine tA ?_
 apply o_ldnL 2 hD rfl rfl rfl rfl rfl
 apply o_callL hD rfl rfl rfl rfl (p16v hM small_WF small_body)
 rintro e2 k5 O hD
 replace hM := RImg.mono _ _ _ _ O.ext hM
 replace hM2 := RImg.mono _ _ _ _ O.ext hM2
 apply o_callL hD rfl rfl rfl rfl (p29 (a := -1) O.view (enc_len small_body))
 rintro _ k6 ⟨hx, c3, rfl, hM3⟩ hD
 rw [load_low] at hM3 ⊢
 replace hM := RImg.mono _ _ _ _ hx hM
 replace hM2 := RImg.mono _ _ _ _ hx hM2
 clear hx O
 have hM0 := hM3
 obtain ⟨_, _, _, _, _, _, _, rfl, _⟩ := hM0
 refine tA ?_
 apply o_alcL hD rfl
 intro b6 hD
 apply o_stL (v := .agg [_, _, I _, I _, _, _, _, _, _, I 0]) (cs' := [_, _, I _, I _, _, _, _, _, _, I 0]) 0 hD rfl rfl rfl rfl rfl rfl (ones_app hM3.one) (splice_full rfl)
 intro hD
 clear hM3
 refine tA ?_
 apply o_val (v := .agg Z9) rfl rfl trivial
 apply o_callL hD rfl rfl rfl rfl (p16v noImage_R noImage_WF no_body)
 rintro e3 k7 O hD
 replace hM := RImg.mono _ _ _ _ O.ext hM
 replace hM2 := RImg.mono _ _ _ _ O.ext hM2
 apply o_callL hD rfl rfl rfl rfl (p29 (a := 0) O.view (enc_len no_body))
 rintro _ k8 ⟨hx, c3, rfl, hM3⟩ hD
 rw [load_no] at hM3 ⊢
 replace hM := RImg.mono _ _ _ _ hx hM
 replace hM2 := RImg.mono _ _ _ _ hx hM2
 clear hx O
 have hM0 := hM3
 obtain ⟨_, _, _, _, _, _, _, rfl, _⟩ := hM0
 refine tA ?_
 apply o_alcL hD rfl
 intro b8 hD
 apply o_stL (v := .agg [_, _, I _, I _, _, _, _, _, _, I 0]) (cs' := [_, _, I _, I _, _, _, _, _, _, I 0]) 0 hD rfl rfl rfl rfl rfl rfl (ones_app hM3.one) (splice_full rfl)
 intro hD
 clear hM3
 refine tA ?_
 apply o_ldnL 3 hD rfl rfl rfl rfl rfl
 apply o_callL hD rfl rfl rfl rfl (p31 (c := [wc, wm, I _, I _, wg, ww, wr, ws, wf]) (a := 0) (b := 100) hM2 (mvd_WF small_WF) mv100_rel (by rw [mv100]; decide) (by rw [mv100]; decide) (by omega))
 rintro _ k9 ⟨hx, c3, rfl, hM3⟩ hD
 rw [move100] at hM3 ⊢
 replace hM := RImg.mono _ _ _ _ hx hM
 replace hM2 := RImg.mono _ _ _ _ hx hM2
 clear hx
 have hM0 := hM3
 obtain ⟨xc, xm, xg, xw, xr, xs, xf, rfl, _⟩ := hM0
 refine tA ?_
 apply o_alcL hD rfl
 intro b10 hD
 apply o_stL (v := .agg [xc, xm, I _, I _, xg, xw, xr, xs, xf, I 0]) (cs' := [xc, xm, I _, I _, xg, xw, xr, xs, xf, I 0]) 0 hD rfl rfl rfl rfl rfl rfl (ones_app hM3.one) (splice_full rfl)
 intro hD
 have hx := ext_hsetD hD
 rw [mv100] at hM2
 have w4 : Sl (RN .i32) 1 k9 ww [0, 0, 10, 1, 101] := by
  obtain ⟨_, _, _, _, _, _, _, e, _, _, _, h4, _⟩ := hM2
  cases e
  exact h4
 have w6 : Sl (RN .i32) 1 k9 ws [5, 103] := by
  obtain ⟨_, _, _, _, _, _, _, e, _, _, _, _, _, h6, _⟩ := hM2
  cases e
  exact h6
 replace w4 := w4.mono RN.mono hx
 replace w6 := w6.mono RN.mono hx
 replace hM := RImg.mono _ _ _ _ hx hM
 replace hM3 := RImg.mono _ _ _ _ hx hM3
 refine tA ?_
 apply o_ldL 4 hD rfl rfl rfl rfl rfl
 apply o_lenS rfl rfl w4
 apply o_as (w := .bool false) rfl rfl trivial rfl
 refine tA ?_
 apply o_ldL 4 hD rfl rfl rfl rfl rfl
 refine tA ?_
 apply o_lenS rfl rfl w6
 refine tA ?_
 apply o_as (w := .bool false) rfl rfl trivial rfl
 refine tA ?_
 (refine tG ?_; (with_reducible apply o_call); exact rfl; exact rfl; exact rfl; exact p89)
 refine tA ?_
 apply o_as (w := .bool true) rfl rfl trivial rfl
 refine tA ?_
 apply o_ldL 4 hD rfl rfl rfl rfl rfl
 refine tA ?_
 apply o_as (w := .bool true) rfl rfl trivial rfl
 refine tA ?_
 apply o_ldL 4 hD rfl rfl rfl rfl rfl
 refine tA ?_
 apply o_iaS (z := 4) rfl rfl rfl w4 (by decide)
 intro p d hp hd _
 obtain rfl : d = [.int .i32 101] := hd
 refine tA ?_
 apply o_ldG rfl rfl hp (.one rfl) (fun h => by omega)
 refine tA ?_
 apply o_as (w := .bool true) rfl rfl trivial rfl
 refine tA ?_
 apply o_ldL 4 hD rfl rfl rfl rfl rfl
 refine tA ?_
 apply o_iaS (z := 1) rfl rfl rfl w6 (by decide)
 intro p d hp hd _
 obtain rfl : d = [.int .i32 103] := hd
 refine tA ?_
 apply o_ldG rfl rfl hp (.one rfl) (fun h => by omega)
 refine tA ?_
 apply o_as (w := .bool true) rfl rfl trivial rfl
 refine tA ?_
 apply o_ldL 4 hD rfl rfl rfl rfl rfl
 refine tA ?_
 apply o_iaS (z := 0) rfl rfl rfl w6 (by decide)
 intro p d hp hd _
 obtain rfl : d = [.int .i32 5] := hd
 refine tA ?_
 apply o_ldG rfl rfl hp (.one rfl) (fun h => by omega)
 refine tA ?_
 apply o_as (w := .bool true) rfl rfl trivial rfl
 refine tA ?_
 apply o_as (w := .bool true) rfl rfl trivial rfl
 refine tA ?_
 apply o_as (w := .bool true) rfl rfl trivial rfl
 refine tA ?_
 apply o_as (w := .bool true) rfl rfl trivial rfl
 refine tA ?_
 apply o_ldL 0 hD rfl rfl rfl rfl rfl
 refine tA ?_
 apply o_as (w := .bool true) rfl rfl trivial rfl
 refine tA ?_
 apply o_ldnL 0 hD rfl rfl rfl rfl rfl
 refine tA ?_
 apply o_ldnL 5 hD rfl rfl rfl rfl rfl
 refine tA ?_
 apply o_hcall rfl rfl rfl rfl (p18 hM3 hM small_WF small_WF).go
 rintro _ k10 ⟨rfl, _⟩
 rw [decide_eq_true (rfl : small = small)]
 refine tW ?_
 (first | apply sret_ret | apply sret_norm); exact res_tmp (vs := [_]) rfl rfl
end Go.Proofs
end
section
open Go Go.Abs Go.Proofs.SlimCode Go.Img
set_option maxRecDepth 100000
namespace Go.Proofs
def smB (b : Int) : Image := { small with words := [0, 0, 10, 1, 1 + b], stat := [5, 3 + b] }
theorem mvC_to {b x : Int} (hx : 1 ≤ x) (h : -2147483648 ≤ x + b ∧ x + b ≤ 2147483647) : mvC b x = x + b := by
 unfold mvC Img.w32
 rw [if_neg (by omega)]
 omega
theorem smB_mv {b : Int} (h : 0 ≤ b ∧ b ≤ 1048576) : mvd 0 b small = smB b := by
 have e : mvd 0 b small = { small with words := [0, 0, 10, 1, mvC b 1], stat := [5, mvC b 3] } := rfl
 rw [e, mvC_to (by omega) (by omega), mvC_to (by omega) (by omega)]
 rfl
theorem smB_move {b c : Int} (h : 0 ≤ b ∧ b ≤ 1048576) (hc : 0 ≤ c ∧ c ≤ 1048576) : moveOf (smB b) b c = (true, smB c, c) := by
 have e : mvd b (c - b) (smB b) = { small with words := [0, 0, 10, 1, mvC (c - b) (1 + b)], stat := [5, mvC (c - b) (3 + b)] } := rfl
 have e2 : mvOk b (c - b) (smB b) = ((true && mvG b (1 + b)) && mvG b (3 + b)) := rfl
 have e3 : mvOk b (c - b) (smB b) = true := by rw [e2]; simp [mvG]; omega
 unfold moveOf
 rw [if_pos hc, if_pos e3, e, mvC_to (by omega) (by omega), mvC_to (by omega) (by omega), show 1 + b + (c - b) = 1 + c by omega, show 3 + b + (c - b) = 3 + c by omega]
 rfl
theorem smB_WF {b : Int} (h : 0 ≤ b ∧ b ≤ 1048576) : (smB b).WF := by
 rw [← smB_mv h]
 exact mvd_WF small_WF
theorem absorb {G : Heap} {i : Nat} {o : AObj} {L : List (Nat × AObj)} (hD : Dis G ((i, o) :: L)) : hset G ((i, o) :: L) = hset (upd G i (some o)) L ∧ Dis (upd G i (some o)) L ∧ Ext G (upd G i (some o)) := by
 have hn := List.nodup_cons.1 (dis_nodup hD)
 refine ⟨(hset_upd hn.1).symm, dis_of hn.2 fun id hid => ?_, .upd (dis_ids hD i (.head _))⟩
 rw [upd_ne fun e => hn.1 (by rw [← e]; exact hid)]
 exact dis_ids hD id (.tail _ hid)
theorem ids_none {h G : Heap} {L : List (Nat × AObj)} (hD : Dis G L) (hx : Ext h G) : ∀ i ∈ L.map Prod.fst, h i = none := fun i hi => by
 cases e : h i with
 | none => rfl
 | some o =>
  have := hx _ _ e
  rw [dis_ids hD i hi] at this
  cases this
abbrev smC (B low : Int) : Image := { smB B with stat := [7, low] }
theorem low_ok {B low : Int} (hB : 0 ≤ B) : mvOk B (5 - B) (smC B low) = decide (low = 0 ∨ B < low) := by
 have e : mvOk B (5 - B) (smC B low) = ((true && mvG B (1 + B)) && mvG B low) := rfl
 rw [e]
 have : mvG B (1 + B) = true := by simp [mvG]; have := hB; omega
 rw [this]
 simp [mvG]
theorem low_good {B low : Int} (hB : 0 ≤ B) (h : low = 0 ∨ B < low) : moveOf (smC B low) B 5 = (true, mvd B (5 - B) (smC B low), 5) := by
 unfold moveOf
 rw [if_pos (by omega), if_pos (by rw [low_ok hB, decide_eq_true h])]
theorem low_bad {B low : Int} (hB : 0 ≤ B) (h : ¬(low = 0 ∨ B < low)) : moveOf (smC B low) B 5 = (false, noImage, 0) := by
 unfold moveOf
 rw [if_pos (by omega), if_neg (by rw [low_ok hB, decide_eq_false h]; decide)]
section
variable {P : Program} {A : Ann} {f nt : Nat} {E : Env} {bx : List Nat} {h : Heap} {Q : AX → Env → List Nat → Heap → Prop} {cls : List Cl} {S : List Nat}
theorem x_ia1 {α : Type} {R : Heap → List AV → α → Prop} {l : List α} {d s : Nat} {x i : SX} {r : List SO} {v : AV} {k : IntKind} {z : Nat} (hlt : (decide (d < nt)) = true) (hx : ev (lk E) x = some v) (hi : ev (lk E) i = some (.int k (z : Int))) (hv : Sl R s h v l) (hz : z < l.length)
  (H : ∀ p c, VPtr h p c → R h c l[z] → c.length = s → SOpsX P A f nt S cls r ((d, p) :: E) bx h Q) : SOpsX P A f nt S (.A :: cls) (⟨some d, none, .ia x i none s⟩ :: r) E bx h Q := by
 obtain ⟨cs, h1, h2⟩ := hv
 obtain ⟨g1, g2⟩ := h2.get hz
 have hl := h1.len
 have hb : z * s + s ≤ l.length * s := by
  have : (z + 1) * s ≤ l.length * s := Nat.mul_le_mul_right s (by omega)
  rw [Nat.add_mul] at this
  omega
 have hsl : sliceL cs (z * s) s = some ((cs.drop (z * s)).take s) := sliceL_of (by omega)
 obtain ⟨a, ha⟩ : ∃ a, a = l[z] := ⟨_, rfl⟩
 rw [← ha] at H g1
 clear ha
 generalize l.length = n at h1 hb hl hz
 have hzi : (0 : Int) ≤ (z : Int) ∧ (z : Int) < n := by omega
 cases h1 with
 | nil => omega
 | tsl _ _ _ => exact x_v (p := (0 : Int) ≤ (z : Int) ∧ (z : Int) < n) (v := .tptr cs (z * s)) hlt (by simp only [sv, hx, hi, Int.toNat_natCast]) hzi (H _ _ (.t _ _ _ (by rw [g2]; exact hsl)) g1 g2)
 | sl id off _ os _ hid hc => exact x_v (p := s = s ∧ (0 : Int) ≤ (z : Int) ∧ (z : Int) < n) (v := .ptr id (off + z * s)) hlt (by simp only [sv, hx, hi, Int.toNat_natCast]) ⟨rfl, hzi⟩ (H _ _ (.p _ _ os _ hid (by rw [g2]; exact sliceL_sub hc hsl)) g1 g2)
end
theorem p13 {h : Heap} {v : AV} {l : List Int} {low : Int} (hv : ∀ h, Sl (RN .i64) 1 h v l) (hl0 : Len l) (hlow0 : I32 low) : HCallC Tryz.prog ann 13 [v, .int .i32 low] h fun v h' => v = .bool true ∧ Ext h h' := by
 refine (show Looks _ _ _ _ _ _ from ?_).go
 have hl := hl0
 have hlow := hlow0
 unfold Len at hl
 unfold I32 at hlow
 refine s_look_of rfl Tryz.func13 (frc (by with_unfolding_all rfl)) rfl ?_
 refine tA ?_
 (refine tG ?_; (with_reducible apply o_call); exact rfl; exact rfl; exact rfl; exact p28)
 refine tA ?_
 apply o_as (w := .bool false) rfl rfl trivial rfl
 refine tA ?_
 show SOps _ _ _ _ _ _ _ _ _ (hset h []) _
 apply o_callL dis_nil rfl rfl rfl rfl p27
 rintro _ k1 ⟨hx, c1, rfl, hM⟩ hD
 apply o_callL hD rfl rfl rfl rfl (p16v hM small_WF small_body)
 rintro e1 k2 O hD
 replace hx := hx.trans O.ext
 apply o_callL hD rfl rfl rfl rfl (p29 (a := 0) O.view (enc_len small_body))
 rintro _ k3 ⟨hx3, c, rfl, hR⟩ hD
 rw [load_small (by omega)] at hR ⊢
 replace hx := hx.trans hx3
 clear hx3 O hM
 rw [smB_mv (by omega)] at hR
 have hR0 := hR
 obtain ⟨vc, vm, vg, vw, vr, vs, vf, rfl, _⟩ := hR0
 refine tA ?_
 apply o_alcL hD rfl
 intro b6 hD
 apply o_stL (v := .agg [vc, vm, I _, I _, vg, vw, vr, vs, vf, I 0]) (cs' := [vc, vm, I _, I _, vg, vw, vr, vs, vf, I 0]) 0 hD rfl rfl rfl rfl rfl rfl (ones_app hR.one) (splice_full rfl)
 intro hD
 refine tA ?_
 apply o_as (w := .bool false) rfl rfl trivial rfl
 refine tA ?_
 refine oI (1073741824 < low) (fun H => ?_) (fun H => ?_)
 ·refine tA ?_
  apply o_as (w := .bool true) rfl rfl trivial rfl
  refine tA ?_
  exact lret_ret (vs := [.bool true]) rfl rfl rfl (hx.trans (ext_hsetD hD)) (ids_none hD hx)
 refine tv ?_
 refine tv ?_
 refine tv ?_
 refine tv ?_
 refine tv ?_
 refine tv ?_
 have hst : (0 : Int) ≤ 0 ∧ (0 : Int) ≤ 1048576 := by decide
 refine s_joinB (σ := Int × List AV × List Nat) (fun s => [(0, v), (1, .int .i32 low), (6, .ptr b6 0)]) (fun s => s.2.2) (fun s h' => (0 ≤ s.1 ∧ s.1 ≤ 1048576) ∧ (∀ i ∈ s.2.2, h i = none) ∧ ∃ G, h' = hset G [(b6, .cells (s.2.1 ++ [I s.1]))] ∧ Dis G [(b6, .cells (s.2.1 ++ [I s.1]))] ∧ Ext h G ∧ RImg G s.2.1 (smB s.1)) ?_ ?_
 rotate_left
 ·rintro ⟨B, c, bx⟩ _ ⟨hB, hbx, G, rfl, hD, hx, hR⟩
  clear hst
  simp only at hB hbx hD hx hR ⊢
  obtain ⟨vc, vm, vg, vw, vr, vs, vf, rfl, v1, v2, v3, v4, v5, _, v7⟩ := hR
  refine tA ?_
  apply o_hbsL (cs := [.int .i32 7, .int .i32 low]) hD rfl rfl rfl
  intro i hD
  obtain ⟨ea, hD, hxi⟩ := absorb hD
  rw [ea]
  have gi : upd G i (some (.cells [.int .i32 7, .int .i32 low])) i = some (.cells [.int .i32 7, .int .i32 low]) := upd_same
  replace hx := hx.trans hxi
  have hR : RImg (upd G i (some (.cells [.int .i32 7, .int .i32 low]))) [vc, vm, I _, I _, vg, vw, vr, .sl i 0 2 1, vf] { smB B with stat := [7, low] } := ⟨_, _, _, _, _, _, _, rfl, v1.mono RCls.mono hxi, v2.mono RMth.mono hxi, v3.mono RN.mono hxi, v4.mono RN.mono hxi, v5.mono RN.mono hxi, ⟨nums .i32 [7, low], .sl i 0 2 _ _ gi (sliceL_all rfl), Chunks.of_map⟩, v7.mono RB.mono hxi⟩
  generalize upd G i (some (.cells [.int .i32 7, .int .i32 low])) = G1 at hD hx hR ⊢
  clear ea v1 v2 v3 v4 v5 v7 hxi gi
  refine tA ?_
  apply o_st1L 0 hD rfl rfl rfl rfl rfl rfl (show 0 + 7 < 10 by decide)
  intro hD
  refine tA ?_
  apply o_ldnL 0 hD rfl rfl rfl rfl rfl
  have hW : Image.WF { smB B with stat := [7, low] } := { smB_WF hB with stat := ⟨(show 2 ≤ 9223372036854775807 by omega), fun n hn => by
   unfold I32
   simp only [List.mem_cons, List.not_mem_nil, or_false] at hn
   omega⟩ }
  apply o_callL hD rfl rfl rfl rfl (p31 (c := [vc, vm, I _, I _, vg, vw, vr, .sl i 0 2 1, vf]) (a := 5) (b := B) hR hW small_rel (show 5 ≤ 1048576 by omega) (show 2 ≤ 1048576 by omega) hB)
  rintro _ k9 ⟨hx9, c3, rfl, hM3⟩ hD
  replace hx := hx.trans hx9
  clear hx9 hR
  have fin : ∀ (b12 : Nat) (G : Heap) (L : List (Nat × AObj)) (E : Env), Dis G L → Ext h G → lk E 4 = some (.bool true) → L.map Prod.fst = [b12, b6] → lret Tryz.prog ann 13 Tryz.f13.results.toList h (.bool true) .ret E (b12 :: bx) (hset G L) := by
   intro b12 G L E hD hx e4 eL
   refine lret_ret (vs := [.bool true]) (by simp only [show Tryz.f13.results.toList = [.tmp 4] from rfl, resE, e4]) rfl rfl (hx.trans (ext_hsetD hD)) fun i hi => ?_
   rcases List.mem_cons.1 hi with rfl | hi
   ·exact ids_none hD hx _ (by rw [eL]; exact .head _)
   ·exact hbx i hi
  by_cases hg : low = 0 ∨ B < low
  ·rw [low_good hB.1 hg] at hM3 ⊢
   have hM0 := hM3
   obtain ⟨xc, xm, xg, xw, xr, xs, xf, rfl, _⟩ := hM0
   refine tA ?_
   apply o_alcL hD rfl
   intro b12 hD
   apply o_stL (v := .agg [xc, xm, I _, I _, xg, xw, xr, xs, xf, I 5]) (cs' := [xc, xm, I _, I _, xg, xw, xr, xs, xf, I 5]) 0 hD rfl rfl rfl rfl rfl rfl (ones_app hM3.one) (splice_full rfl)
   intro hD
   have w6 : Sl (RN .i32) 1 k9 xs [7, mvC (5 - B) low] := by
    obtain ⟨_, _, _, _, _, _, _, e, _, _, _, _, _, h6, _⟩ := hM3
    cases e
    exact h6
   replace w6 := w6.mono RN.mono (ext_hsetD hD)
   refine tA ?_
   by_cases h0 : low = 0
   ·apply o_as (w := .bool true) rfl rfl trivial (by simp [h0])
    refine tA ?_
    refine s_regL [.A, .A, .A, .A, .A, .A, .A, .A, .A, .B, .A, .F, .A, .A, .A, .A, .A, .A, .A, .B, .A, .F, .A, .A, .A, .A, .A, .A, .A, .A, .B, .A, .F, .C, .A, .C, .A, .B, .A, .A, .A, .A, .A, .A, .A, .A, .A] hD ?_
    refine tZ ?_
    apply x_as (w := .bool true) rfl rfl trivial rfl
    refine tZ ?_
    apply x_as (w := .bool false) rfl rfl trivial rfl
    refine tZ ?_
    apply x_ldL 0 hD rfl rfl rfl rfl
    refine tZ ?_
    apply x_ia1 (z := 0) rfl rfl rfl w6 (by simp)
    intro p d hp hd _
    obtain rfl : d = [.int .i32 7] := hd
    refine tZ ?_
    apply x_ldF rfl rfl hp (.one rfl)
    refine tZ ?_
    apply x_as (w := .bool true) rfl rfl trivial rfl
    refine tZ ?_
    apply x_as (w := .bool true) rfl rfl trivial (by simp [h0])
    refine tZ ?_
    apply x_ldL 0 hD rfl rfl rfl rfl
    refine tZ ?_
    apply x_ia1 (z := 1) rfl rfl rfl w6 (by simp)
    intro p d hp hd _
    obtain rfl : d = [.int .i32 (mvC (5 - B) low)] := hd
    refine tZ ?_
    apply x_ldF rfl rfl hp (.one rfl)
    refine tZ ?_
    apply x_as (w := .bool true) rfl rfl trivial (by rw [h0]; rfl)
    refine tZ ?_
    refine tA ?_
    refine fin b12 _ _ _ hD hx ?_ ?_ <;> rfl
   ·have hlow2 : B < low := by omega
    apply o_as (w := .bool false) rfl rfl trivial (by simp [h0])
    refine tA ?_
    apply o_as (w := .int .i64 low) rfl rfl trivial (by rw [w64 (by omega) (by omega)])
    refine tA ?_
    apply o_ldL 1 hD rfl rfl rfl rfl rfl
    refine tA ?_
    apply o_as (w := .bool true) rfl rfl trivial (by simp; omega)
    refine tA ?_
    refine s_regL [.A, .A, .A, .A, .A, .A, .A, .A, .A, .B, .A, .F, .A, .A, .A, .A, .A, .A, .A, .B, .A, .F, .A, .A, .A, .A, .A, .A, .A, .A, .B, .A, .F, .C, .A, .C, .A, .B, .A, .A, .A, .A, .A, .A, .A, .A, .A] hD ?_
    refine tZ ?_
    apply x_as (w := .bool true) rfl rfl trivial rfl
    refine tZ ?_
    apply x_as (w := .bool false) rfl rfl trivial rfl
    refine tZ ?_
    apply x_ldL 0 hD rfl rfl rfl rfl
    refine tZ ?_
    apply x_ia1 (z := 0) rfl rfl rfl w6 (by simp)
    intro p d hp hd _
    obtain rfl : d = [.int .i32 7] := hd
    refine tZ ?_
    apply x_ldF rfl rfl hp (.one rfl)
    refine tZ ?_
    apply x_as (w := .bool true) rfl rfl trivial rfl
    refine tZ ?_
    apply x_as (w := .bool false) rfl rfl trivial (by simp [h0])
    refine tZ ?_
    apply x_as (w := .bool true) rfl rfl trivial (by simp [h0])
    refine tZ ?_
    apply x_ldL 0 hD rfl rfl rfl rfl
    refine tZ ?_
    apply x_ia1 (z := 1) rfl rfl rfl w6 (by simp)
    intro p d hp hd _
    obtain rfl : d = [.int .i32 (mvC (5 - B) low)] := hd
    refine tZ ?_
    apply x_ldF rfl rfl hp (.one rfl)
    refine tZ ?_
    rw [mvC_to (b := 5 - B) (x := low) (by omega) (by omega)]
    apply x_asC (w := .int .i64 (low + (5 - B))) rfl rfl rfl trivial (by rw [w64 (by omega) (by omega)])
    refine tZ ?_
    apply x_asC (w := .int .i64 low) rfl rfl rfl trivial (by rw [w64 (by omega) (by omega)])
    refine tZ ?_
    apply x_ldL 1 hD rfl rfl rfl rfl
    refine tZ ?_
    apply x_as (w := .int .i64 (low - B)) rfl rfl trivial (by rw [w64 (by omega) (by omega)])
    refine tZ ?_
    apply x_as (w := .int .i64 (low - B + 5)) rfl rfl trivial (by rw [w64 (by omega) (by omega)])
    refine tZ ?_
    apply x_as (w := .bool true) rfl rfl trivial (by simp; omega)
    refine tZ ?_
    refine tA ?_
    refine fin b12 _ _ _ hD hx ?_ ?_ <;> rfl
  ·rw [low_bad hB.1 hg] at hM3 ⊢
   have hM0 := hM3
   obtain ⟨xc, xm, xg, xw, xr, xs, xf, rfl, _⟩ := hM0
   refine tA ?_
   apply o_alcL hD rfl
   intro b12 hD
   apply o_stL (v := .agg [xc, xm, I _, I _, xg, xw, xr, xs, xf, I 0]) (cs' := [xc, xm, I _, I _, xg, xw, xr, xs, xf, I 0]) 0 hD rfl rfl rfl rfl rfl rfl (ones_app hM3.one) (splice_full rfl)
   intro hD
   refine tA ?_
   apply o_as (w := .bool false) rfl rfl trivial (by simp; omega)
   refine tA ?_
   apply o_as (w := .int .i64 low) rfl rfl trivial (by rw [w64 (by omega) (by omega)])
   refine tA ?_
   apply o_ldL 1 hD rfl rfl rfl rfl rfl
   refine tA ?_
   apply o_as (w := .bool false) rfl rfl trivial (by simp; omega)
   refine tA ?_
   refine s_regL [.A, .A, .A, .A, .A, .A, .A, .A, .A, .B, .A, .F, .A, .A, .A, .A, .A, .A, .A, .B, .A, .F, .A, .A, .A, .A, .A, .A, .A, .A, .B, .A, .F, .C, .A, .C, .A, .B, .A, .A, .A, .A, .A, .A, .A, .A, .A] hD ?_
   refine tZ ?_
   apply x_as (w := .bool true) rfl rfl trivial rfl
   refine tZ ?_
   apply x_as (w := .bool true) rfl rfl trivial rfl
   refine tZ ?_
   refine tA ?_
   refine fin b12 _ _ _ hD hx ?_ ?_ <;> rfl
 refine tA ?_
 refine s_loopB (fun s : Nat × Int × List AV × List Nat => [(0, v), (1, .int .i32 low), (6, .ptr b6 0), (8, I (s.1 : Int))]) (fun s => s.2.2.2) (fun s h' => s.1 ≤ l.length ∧ (0 ≤ s.2.1 ∧ s.2.1 ≤ 1048576) ∧ (∀ i ∈ s.2.2.2, h i = none) ∧ ∃ G, h' = hset G [(b6, .cells (s.2.2.1 ++ [I s.2.1]))] ∧ Dis G [(b6, .cells (s.2.2.1 ++ [I s.2.1]))] ∧ Ext h G ∧ RImg G s.2.2.1 (smB s.2.1)) (fun s => l.length - s.1)
  (0, 0, [vc, vm, I small.entry, I small.need, vg, vw, vr, vs, vf], [b6]) tU rfl ⟨Nat.zero_le _, (by decide : (0 : Int) ≤ 0 ∧ (0 : Int) ≤ 1048576), ids_none hD hx, k3, rfl, hD, hx, hR⟩ ?_
 clear hD hx hR
 rintro ⟨k, B, c, bx⟩ _ ⟨hk, hB, hbx, G, rfl, hD, hx, hR⟩
 simp only at hk hB hbx hD hx hR ⊢
 have hR0 := hR
 obtain ⟨vc, vm, vg, vw, vr, vs, vf, rfl, _⟩ := hR0
 refine tA ?_
 apply o_lenS rfl rfl (hv _)
 refine oI (k < l.length) (fun H1 => ?_) (fun H1 => ?_)
 ·refine tA ?_
  refine oI (k < 10) (fun H2 => ?_) (fun H2 => ?_)
  ·refine tA ?_
   apply o_iaS rfl rfl rfl (hv _) H1
   intro p d hp hd _
   obtain rfl : d = [I l[k]] := hd
   apply o_ldG rfl rfl hp (.one rfl) (fun h => by omega)
   generalize l[k] = x
   have b1 : -1048576 < x.tmod 1048576 := by have := Int.lt_tmod_of_pos x (b := 1048576) (by omega); omega
   have b2 : x.tmod 1048576 < 1048576 := Int.tmod_lt_of_pos x (by omega)
   apply o_val rfl rfl (by decide : (1048576 : Int) ≠ 0)
   apply o_as (w := I (x.tmod 1048576 + 1048576)) rfl rfl trivial (by rw [w64 (by omega) (by omega)])
   apply o_val rfl rfl (by decide : (1048576 : Int) ≠ 0)
   have b3 : 0 ≤ (x.tmod 1048576 + 1048576).tmod 1048576 := Int.tmod_nonneg _ (by omega)
   have b4 : (x.tmod 1048576 + 1048576).tmod 1048576 < 1048576 := Int.tmod_lt_of_pos _ (by omega)
   generalize (x.tmod 1048576 + 1048576).tmod 1048576 = C at b3 b4 ⊢
   have hC : 0 ≤ C ∧ C ≤ 1048576 := ⟨b3, by omega⟩
   clear b1 b2
   refine tA ?_
   apply o_ldnL 0 hD rfl rfl rfl rfl rfl
   refine tA ?_
   apply o_callL hD rfl rfl rfl rfl (p31 (c := [vc, vm, I _, I _, vg, vw, vr, vs, vf]) (a := C) (b := B) hR (smB_WF hB) small_rel (show 5 ≤ 1048576 by omega) (show 2 ≤ 1048576 by omega) hB)
   rintro _ k9 ⟨hx9, c3, rfl, hM3⟩ hD
   rw [smB_move hB hC] at hM3 ⊢
   replace hx := hx.trans hx9
   clear hx9 hR
   have hM0 := hM3
   obtain ⟨xc, xm, xg, xw, xr, xs, xf, rfl, _⟩ := hM0
   refine tA ?_
   apply o_alcL hD rfl
   intro b10 hD
   apply o_stL (v := .agg [xc, xm, I _, I _, xg, xw, xr, xs, xf, I C]) (cs' := [xc, xm, I _, I _, xg, xw, xr, xs, xf, I C]) 0 hD rfl rfl rfl rfl rfl rfl (ones_app hM3.one) (splice_full rfl)
   intro hD
   refine tA ?_
   refine s_regL [.A, .A, .A, .A, .B, .A, .A, .A, .A, .A, .B, .A, .A, .C, .A, .A, .A, .A] hD ?_
   apply x_v rfl rfl trivial
   apply x_v rfl rfl trivial
   apply x_v rfl rfl trivial
   apply x_gT rfl
   apply x_v rfl rfl trivial
   apply x_gT rfl
   apply x_ldL 0 hD rfl rfl rfl rfl
   apply x_gT rfl
   apply x_v rfl rfl trivial
   apply x_gT rfl
   apply x_as (w := .bool false) rfl rfl trivial (by simp)
   apply x_v rfl rfl trivial
   apply x_v rfl rfl trivial
   apply x_gT rfl
   apply x_v rfl rfl trivial
   apply x_gT rfl
   apply x_ldnL 0 hD rfl rfl rfl rfl
   apply x_gT rfl
   apply x_callL hD rfl rfl rfl p27
   rintro _ k10 ⟨hx9, c4, rfl, hM4⟩ hD
   replace hx := hx.trans hx9
   replace hM3 := RImg.mono _ _ _ _ hx9 hM3
   clear hx9
   apply x_gT rfl
   apply x_v rfl rfl trivial
   apply x_gT rfl
   apply x_asC (w := .int .i32 C) rfl rfl rfl trivial (by rw [w32 (by omega) (by omega)])
   apply x_gT rfl
   apply x_callL hD rfl rfl rfl (p30 (by' := C) hM4 small_WF small_rel (by decide) (by decide) (by decide) (by unfold I32; omega))
   rintro _ k11 ⟨hx9, c5, rfl, hM5⟩ hD
   rw [smB_mv hC] at hM5
   replace hx := hx.trans hx9
   replace hM3 := RImg.mono _ _ _ _ hx9 hM3
   clear hx9 hM4
   apply x_gT rfl
   apply x_callL hD rfl rfl rfl (p18 hM3 hM5 (smB_WF hC) (smB_WF hC)).go
   rintro _ k12 ⟨rfl, hx9⟩ hD
   rw [decide_eq_true (rfl : smB C = smB C)]
   replace hx := hx.trans hx9
   replace hM3 := RImg.mono _ _ _ _ hx9 hM3
   clear hx9 hM5
   apply x_gT rfl
   apply x_v rfl rfl trivial
   apply x_v rfl rfl trivial
   apply x_nil
   refine tA ?_
   apply o_ldnL 0 hD rfl rfl rfl rfl rfl
   apply o_stL (v := .agg [xc, xm, I _, I _, xg, xw, xr, xs, xf, I C]) (cs' := [xc, xm, I _, I _, xg, xw, xr, xs, xf, I C]) 1 hD rfl rfl rfl rfl rfl rfl (ones_app hM3.one) (splice_full rfl)
   intro hD
   refine tA ?_
   apply o_as (w := I ((k + 1 : Nat) : Int)) rfl rfl trivial (by rw [w64 (by omega) (by omega)]; rfl)
   refine tA ?_
   obtain ⟨ea, hD', hx9⟩ := absorb hD
   refine ⟨(k + 1, C, [xc, xm, I _, I _, xg, xw, xr, xs, xf], b10 :: bx), by simp only; omega, tU, rfl, by simp only; omega, hC, ?_, _, ea, hD', hx.trans hx9, RImg.mono _ _ _ _ hx9 hM3⟩
   intro i hi
   rcases List.mem_cons.1 hi with rfl | hi
   ·exact ids_none hD hx _ (.head _)
   ·exact hbx i hi
  ·refine tA ?_
   exact ⟨(B, [vc, vm, I _, I _, vg, vw, vr, vs, vf], bx), tU, rfl, hB, hbx, G, rfl, hD, hx, hR⟩
 ·refine tA ?_
  exact ⟨(B, [vc, vm, I _, I _, vg, vw, vr, vs, vf], bx), tU, rfl, hB, hbx, G, rfl, hD, hx, hR⟩
end Go.Proofs
end
section
open Go Go.Abs Go.Img
namespace Go.Proofs
set_option maxRecDepth 100000
theorem wf_i64 {n : Int} (h : (Lit.int .i64 n).wf = true) : I64 n := by
 simp [Lit.wf, IntKind.min, IntKind.max, IntKind.bits, IntKind.signed] at h
 unfold I64
 omega
theorem wf_i32 {n : Int} (h : (Lit.int .i32 n).wf = true) : I32 n := by
 simp [Lit.wf, IntKind.min, IntKind.max, IntKind.bits, IntKind.signed] at h
 unfold I32
 omega
theorem im_int {k : Nat} {l : List AV} (h : TyC Tryz.prog (k + 1) 3 l) : ∃ n, (∀ h : Heap, RN .i64 h l n) ∧ I64 n := by
 obtain ⟨n, rfl, hw⟩ := tyc_int (i := .i64) (by kernel_rfl) h
 exact ⟨n, fun _ => rfl, wf_i64 hw⟩
theorem im_ints {k : Nat} {l : List AV} (h : TyC Tryz.prog (k + 2) 24 l) : ∃ v x, l = [v] ∧ (∀ h, Sl (RN .i64) 1 h v x) ∧ Len x ∧ ∀ a ∈ x, I64 a := by
 obtain ⟨v, x, e, hx, hl, hw⟩ := tyc_list (e := 3) (s := 1) (by kernel_rfl) (by kernel_rfl) (fun l _ h => im_int h) h
 exact ⟨v, x, e, hx, hl, hw⟩
theorem tyv_c {P : Program} {k : Nat} {t e : TypeId} {a : AV} (ht : P.underlying t = some (.slice e)) (h : TyV P k t a) : TyC P k t [a] := by
 unfold TyV at h
 rw [ht] at h
 exact h
theorem extok : ExtOK Tryz.prog SlimCode.ann := by
 intro f e h
 cases h
end Go.Proofs
end
section
open Go Go.Abs Go.Proofs.SlimCode Go.Img
namespace Go.Proofs
set_option maxRecDepth 100000
theorem run_of_h {A : Ann} {P : Program} {f : Nat} {vs : List AV} {Q : Heap → Prop} (h : HCallC P A f vs (fun _ => none) fun v h' => v = .bool true ∧ Q h') : ∃ n h' n' lg, callN P A n f vs (fun _ => none) 0 = some (.bool true, h', n', lg) := by
 obtain ⟨k, v, h', n', lg, e, rfl, _⟩ := h 0 (fun _ _ => rfl)
 exact ⟨k, h', n', lg, e⟩
theorem law_run (ps : List AV) (h : TyVs Tryz.prog 6 Tryz.f13.params.toList ps) : ∃ n h' n' lg, callN Tryz.prog ann n 13 ps (fun _ => none) 0 = some (.bool true, h', n', lg) := by
 obtain ⟨a, _, rfl, ha, b, _, rfl, hb, rfl⟩ := h
 obtain ⟨v, x, e, hv, hl, _⟩ := im_ints (k := 4) (tyv_c (e := 3) (by kernel_rfl) ha)
 obtain rfl := (List.cons.inj e).1
 obtain ⟨low, rfl, hw⟩ := ty_int (i := .i32) (by kernel_rfl) hb
 exact run_of_h (p13 hv hl (wf_i32 hw))
end Go.Proofs
end
