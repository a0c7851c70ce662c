import Derived.Test.YtmnnmgfjlokmkaaGreatAbsTac
import Derived.Test.YtmnnmgfjlokmkaaGreatImVal21
import Derived.Test.YtmnnmgfjlokmkaaGreatAbsLs
import Derived.Test.YtmnnmgfjlokmkaaGreatImBegin
import Derived.Test.YtmnnmgfjlokmkaaGreatImCrc
import Derived.Test.YtmnnmgfjlokmkaaGreatImCut
import Derived.Test.YtmnnmgfjlokmkaaGreatAbsLaw
import Derived.Test.YtmnnmgfjlokmkaaGreatAbsTy
section
open Go Go.Abs Go.Proofs.SlimCode Go.Img
namespace Go.Img
def mvC (by' x : Int) : Int := if x = 0 then 0 else w32 (x + by')
def mvG (fr x : Int) : Bool := decide (x = 0) || decide (fr < x)
def mvStep (fr by' : Int) (s : List Int × Bool) (r : Nat) : List Int × Bool := (s.1.set r (mvC by' (s.1.getD r 0)), s.2 && mvG fr (s.1.getD r 0))
def stStep (fr by' : Int) (f : List Bool) (s : List Int × Bool) (i : Nat) : List Int × Bool := if f.getD i false = true then mvStep fr by' s i else s
def mvW (fr by' : Int) (m : Image) (k : Nat) : List Int × Bool := (m.rel.take k).foldl (fun s r => mvStep fr by' s r.toNat) (m.words, true)
def mvS (fr by' : Int) (m : Image) (g : Bool) (k : Nat) : List Int × Bool := (List.range k).foldl (stStep fr by' m.statref) (m.stat, g)
def mvd (fr by' : Int) (m : Image) : Image := { m with words := (mvW fr by' m m.rel.length).1, stat := (mvS fr by' m (mvW fr by' m m.rel.length).2 m.stat.length).1 }
def mvOk (fr by' : Int) (m : Image) : Bool := (mvS fr by' m (mvW fr by' m m.rel.length).2 m.stat.length).2
theorem mvW_succ {fr by' : Int} {m : Image} {k : Nat} (hk : k < m.rel.length) : mvW fr by' m (k + 1) = mvStep fr by' (mvW fr by' m k) m.rel[k].toNat := by
 unfold mvW
 rw [List.take_add_one, List.getElem?_eq_getElem hk, List.foldl_append]
 rfl
theorem mvS_succ {fr by' : Int} {m : Image} {g : Bool} {k : Nat} : mvS fr by' m g (k + 1) = stStep fr by' m.statref (mvS fr by' m g k) k := by
 unfold mvS
 rw [List.range_succ, List.foldl_append]
 rfl
theorem mvW_len {fr by' : Int} {m : Image} : ∀ k, (mvW fr by' m k).1.length = m.words.length := by
 intro k
 unfold mvW
 generalize m.rel.take k = l
 suffices h : ∀ (s : List Int × Bool), (l.foldl (fun s r => mvStep fr by' s r.toNat) s).1.length = s.1.length from h _
 induction l with
 | nil => exact fun _ => rfl
 | cons r l ih => exact fun s => (ih _).trans (by simp [mvStep])
theorem mvS_len {fr by' : Int} {m : Image} {g : Bool} : ∀ k, (mvS fr by' m g k).1.length = m.stat.length := by
 intro k
 induction k with
 | zero => rfl
 | succ k ih =>
  rw [mvS_succ]
  unfold stStep
  split
  ·simpa [mvStep] using ih
  ·exact ih
theorem w32_I (n : Int) : I32 (w32 n) := by unfold I32 w32; omega
theorem mvC_I {by' x : Int} : I32 (mvC by' x) := by
 unfold mvC
 split
 ·unfold I32; omega
 ·exact w32_I _
theorem mvStep_I {fr by' : Int} {s : List Int × Bool} {r : Nat} (h : ∀ x ∈ s.1, I32 x) : ∀ x ∈ (mvStep fr by' s r).1, I32 x := by
 intro x hx
 rcases List.mem_or_eq_of_mem_set hx with h1 | rfl
 ·exact h x h1
 ·exact mvC_I
theorem mvW_I {fr by' : Int} {m : Image} (hw : m.WF) (k : Nat) : ∀ x ∈ (mvW fr by' m k).1, I32 x := by
 unfold mvW
 generalize m.rel.take k = l
 suffices h : ∀ (s : List Int × Bool), (∀ x ∈ s.1, I32 x) → ∀ x ∈ (l.foldl (fun s r => mvStep fr by' s r.toNat) s).1, I32 x from h _ hw.words.2
 induction l with
 | nil => exact fun _ h => h
 | cons r l ih => exact fun s h => ih _ (mvStep_I h)
theorem mvS_I {fr by' : Int} {m : Image} {g : Bool} (hw : m.WF) (k : Nat) : ∀ x ∈ (mvS fr by' m g k).1, I32 x := by
 induction k with
 | zero => exact hw.stat.2
 | succ k ih =>
  rw [mvS_succ]
  unfold stStep
  split
  ·exact mvStep_I ih
  ·exact ih
theorem mvd_WF {fr by' : Int} {m : Image} (hw : m.WF) : (mvd fr by' m).WF := { hw with
 words := ⟨by have := hw.words.1; unfold Len at *; rw [show (mvd fr by' m).words.length = _ from mvW_len _]; exact this, mvW_I hw _⟩
 stat := ⟨by have := hw.stat.1; unfold Len at *; rw [show (mvd fr by' m).stat.length = _ from mvS_len _]; exact this, mvS_I hw _⟩ }
end Go.Img
set_option maxRecDepth 100000
namespace Go.Proofs
theorem upd2_or {K : Heap} {b i : Nat} {o o' O O' : AObj} (hb : K b = some o') (hi : K i = some O') : upd (upd K b (some o)) i (some O) = K ∨ ∃ id, K id ≠ none ∧ upd (upd K b (some o)) i (some O) id ≠ K id := by
 by_cases e : upd (upd K b (some o)) i (some O) = K
 ·exact .inl e
 ·right
  obtain ⟨id, h⟩ : ∃ id, upd (upd K b (some o)) i (some O) id ≠ K id := Classical.byContradiction fun h => e (funext fun id => Classical.byContradiction fun h' => h ⟨id, h'⟩)
  refine ⟨id, fun h0 => h ?_, h⟩
  have e1 : id ≠ i := fun e => by rw [e, hi] at h0; cases h0
  have e2 : id ≠ b := fun e => by rw [e, hb] at h0; cases h0
  rw [upd_ne e1, upd_ne e2]
theorem wrapC (x b : Int) : IntKind.wrap .i32 (x + IntKind.wrap .i32 b) = Img.w32 (x + b) := by
 simp [IntKind.wrap, IntKind.bits, IntKind.signed, Img.w32]
 omega
theorem p144 {K : Heap} {i j b8 b4 b5 : Nat} {cs : List AV} {x fr by' : Int} {g : Bool} (hi : K i = some (.cells cs)) (hx : cs[j]? = some (.int .i32 x)) (h8 : K b8 = some (.cells [.bool g])) (h4 : K b4 = some (.cells [I fr])) (h5 : K b5 = some (.cells [I by']))
  (hn : i ≠ b8) (h32 : I32 x) : HCallC Tryz.prog ann 144 [.ptr i j, .ptr b8 0, .ptr b4 0, .ptr b5 0] K fun v K' => v = .tup [] ∧ K' = upd (upd K b8 (some (.cells [.bool (g && mvG fr x)]))) i (some (.cells (cs.set j (.int .i32 (mvC by' x))))) := by
 have n5 : b5 ≠ b8 := fun e => by rw [e, h8] at h5; cases h5
 have hj := (List.getElem?_eq_some_iff.1 hx).1
 refine s_call_x rfl Tryz.func144 (frc (by with_unfolding_all rfl)) rfl ?_
 refine tV ?_
 apply o_ldh rfl rfl hi (fun h => by omega) hx
 refine oI (x ≠ 0) (fun H => ?_) (fun H => ?_)
 rotate_left
 ·obtain rfl : x = 0 := by omega
  refine tW ?_
  have e : upd (upd K b8 (some (.cells [.bool (g && mvG fr 0)]))) i (some (.cells (cs.set j (.int .i32 (mvC by' 0))))) = K := by
   have e1 : cs.set j (.int .i32 (mvC by' 0)) = cs := by
    apply List.ext_getElem?
    intro n
    rw [List.getElem?_set]
    split
    ·rename_i e; subst e; exact hx.symm
    ·rfl
   rw [e1, show (g && mvG fr 0) = g by simp [mvG], upd_self h8, upd_self hi]
  (first | apply hx_ret | apply hx_norm)
  ·exact (rfl : resE _ [] = some [])
  ·exact rfl
  ·rw [killL_nil]; exact ⟨rfl, e.symm⟩
  ·exact fun _ => .inl ⟨rfl, e.symm⟩
 have hg : mvG fr x = decide (fr < x) := by simp [mvG, H]
 have hc : mvC by' x = Img.w32 (x + by') := if_neg H
 unfold I32 at h32
 ((with_reducible apply o_nil); (with_reducible apply ssq_norm))
 (with_reducible apply s_condT)
 exact rfl
 refine s_join (σ := Unit) (fun _ => [(0, .ptr i j), (3, .ptr b5 0)]) (fun _ h' => h' = upd K b8 (some (.cells [.bool (g && mvG fr x)]))) ?_ ?_
 ·refine tV ?_
  apply o_ldh rfl rfl h8 (fun _ => by rw [h8]; simp) rfl
  rw [hg]
  cases g with
  | false =>
   refine tW ?_
   apply o_st1 rfl rfl rfl rfl rfl h8 (by decide)
   refine tW ?_
   exact ⟨(), tU, rfl, rfl⟩
  | true =>
   refine tW ?_
   apply o_ldh rfl rfl hi (fun _ => by rw [hi]; simp) hx
   refine tV ?_
   apply o_as (w := I x) rfl rfl trivial (by rw [w64 (by omega) (by omega)])
   refine tV ?_
   apply o_ldh rfl rfl h4 (fun _ => by rw [h4]; simp) rfl
   refine tV ?_
   apply o_val rfl rfl trivial
   apply o_val rfl rfl trivial
   apply o_st1 rfl rfl rfl rfl rfl h8 (by decide)
   refine tW ?_
   exact ⟨(), tU, rfl, rfl⟩
 rintro _ _ rfl
 have hi' : upd K b8 (some (.cells [.bool (g && mvG fr x)])) i = some (.cells cs) := (upd_ne hn).trans hi
 have h5' : upd K b8 (some (.cells [.bool (g && mvG fr x)])) b5 = some (.cells [I by']) := (upd_ne n5).trans h5
 refine tV ?_
 apply o_ldh rfl rfl hi' (fun _ => by rw [hi']; simp) hx
 apply o_ldh rfl rfl h5' (fun _ => by rw [h5']; simp) rfl
 apply o_val rfl rfl trivial
 apply o_as (w := .int .i32 (mvC by' x)) rfl rfl trivial (by rw [wrapC, hc])
 refine tV ?_
 apply o_st1 rfl rfl rfl rfl rfl hi' hj
 refine tW ?_
 (first | apply hx_ret | apply hx_norm)
 ·exact (rfl : resE _ [] = some [])
 ·exact rfl
 ·rw [killL_nil]; exact ⟨rfl, rfl⟩
 ·intro _
  rcases upd2_or (o := .cells [.bool (g && mvG fr x)]) (O := .cells (cs.set j (.int .i32 (mvC by' x)))) h8 hi with e | e
  ·exact .inl ⟨rfl, e.symm⟩
  ·exact .inr e
theorem p90 {h : Heap} {n : Int} : Looks Tryz.prog ann 90 [I n] h (.bool (BP (0 ≤ n ∧ n ≤ 1048576))) := by
 refine s_look_of rfl Tryz.func90 (frc (by with_unfolding_all rfl)) rfl ?_
 refine tV ?_
 refine oI (0 ≤ n) (fun H => ?_) (fun H => ?_)
 rotate_left
 ·refine tW ?_
  exact noB rfl (fun h => H h.1) .refl (by simp)
 refine tV ?_
 refine oI (n ≤ 1048576) (fun H2 => ?_) (fun H2 => ?_)
 ·refine tW ?_
  exact yesB rfl ⟨H, H2⟩ .refl (by simp)
 ·refine tW ?_
  exact noB rfl (fun h => H2 h.2) .refl (by simp)
end Go.Proofs
end
section
open Go Go.Abs Go.Proofs.SlimCode Go.Img
set_option maxRecDepth 100000
namespace Go.Proofs
structure Own2 (h : Heap) (w s : AV) (a b : List Int) (G : Heap) : Prop where
 o1 : OSl h 1 w (nums .i32 a) a.length G
 o2 : OSl h 1 s (nums .i32 b) b.length G
 dj : ∀ i ∈ slIds w, i ∉ slIds s
theorem own2_of {h G1 G : Heap} {w s : AV} {a b : List Int} (O1 : OSl h 1 w (nums .i32 a) a.length G1) (O2 : OSl G1 1 s (nums .i32 b) b.length G) : Own2 h w s a b G := ⟨O1.upE O2.ext, O2.weaken O1.ext, fun i h1 h2 => by
 rcases O1.own with ⟨rfl, _⟩ | ⟨j, rfl, g1, g2, g3⟩
 ·cases h1
 rcases O2.own with ⟨rfl, _⟩ | ⟨k, rfl, k1, k2, k3⟩
 ·cases h2
 obtain rfl := List.mem_singleton.1 h1
 obtain rfl := List.mem_singleton.1 h2
 rw [g2] at k1
 cases k1⟩
theorem Own2.symm {h G : Heap} {w s : AV} {a b : List Int} (H : Own2 h w s a b G) : Own2 h s w b a G := ⟨H.o2, H.o1, fun i h1 h2 => H.dj i h2 h1⟩
theorem nums_set {k : IntKind} {l : List Int} {r : Nat} {x : Int} : (nums k l).set r (.int k x) = nums k (l.set r x) := by unfold nums; rw [List.map_set]
theorem Own2.poke {h G : Heap} {w s : AV} {a b : List Int} (H : Own2 h w s a b G) {r : Nat} (hr : r < a.length) : ∃ i, w = .sl i 0 a.length 1 ∧ G i = some (.cells (nums .i32 a)) ∧ ∀ x, Own2 h w s (a.set r x) b (upd G i (some (.cells ((nums .i32 a).set r (.int .i32 x))))) := by
 rcases H.o1.own with ⟨_, _, e⟩ | ⟨i, rfl, h1, h2, h3⟩
 ·omega
 refine ⟨i, rfl, h2, fun x => ?_⟩
 have hx : Ext h (upd G i (some (.cells ((nums .i32 a).set r (.int .i32 x))))) := fun id o e => by
  rw [upd_ne fun e' => by rw [e', h1] at e; cases e]
  exact H.o1.ext _ _ e
 refine ⟨⟨hx, .inr ⟨i, by rw [List.length_set], h1, by rw [upd_same, nums_set], by simp [nums]⟩⟩, ⟨hx, ?_⟩, H.dj⟩
 rcases H.o2.own with h0 | ⟨j, rfl, g1, g2, g3⟩
 ·exact .inl h0
 ·have : j ≠ i := fun e => H.dj i (.head _) (by rw [e]; exact .head _)
  exact .inr ⟨j, rfl, g1, by rw [upd_ne this]; exact g2, g3⟩
theorem nums_at {k : IntKind} {l : List Int} {r : Nat} (hr : r < l.length) : (nums k l)[r]? = some (.int k (l.getD r 0)) := by
 unfold nums
 rw [List.getElem?_map, List.getElem?_eq_getElem hr, List.getD_eq_getElem?_getD, List.getElem?_eq_getElem hr]
 rfl
abbrev LdL (b3 b4 b5 b6 b8 : Nat) (g : Bool) (c : List AV) (fr by' : Int) : List (Nat × AObj) := [(b8, .cells [.bool g]), (b6, .cells Z9), (b5, .cells [I by']), (b4, .cells [I fr]), (b3, .cells c)]
theorem ld_poke {b3 b4 b5 b6 b8 i : Nat} {g g' : Bool} {c : List AV} {fr by' : Int} {G : Heap} {o : AObj} (hD : Dis G (LdL b3 b4 b5 b6 b8 g c fr by')) (hi : G i ≠ none) :
  upd (upd (hset G (LdL b3 b4 b5 b6 b8 g c fr by')) b8 (some (.cells [.bool g']))) i (some o) = hset (upd G i (some o)) (LdL b3 b4 b5 b6 b8 g' c fr by') ∧ Dis (upd G i (some o)) (LdL b3 b4 b5 b6 b8 g' c fr by') := by
 have hni : i ∉ (LdL b3 b4 b5 b6 b8 g' c fr by').map Prod.fst := fun h => hi (dis_ids hD i h)
 refine ⟨?_, dis_of (dis_nodup hD) fun id hid => ?_⟩
 ·rw [hset_upd hni]
  show upd (upd (upd _ b8 _) b8 _) i _ = _
  rw [upd_upd]
  rfl
 ·rw [upd_ne fun e => hni (by rw [← e]; exact hid)]
  exact dis_ids hD id hid
set_option maxHeartbeats 1000000 in
theorem p91 {h : Heap} {c : List AV} {m : Image} {fr by' : Int} (hc : RImg h c m) (hw : m.WF) (hr : ∀ r ∈ m.rel, 0 ≤ r ∧ r.toNat < m.words.length) (hl : m.words.length ≤ 1048576) (hs : m.stat.length ≤ 1048576) :
  HCallC Tryz.prog ann 91 [.agg c, I fr, I by'] h fun v h' => Ext h h' ∧ ∃ c', v = .tup [.agg c', .bool (mvOk fr by' m)] ∧ RImg h' c' (mvd fr by' m) := by
 have hR := hc
 have hone := hc.one
 have lr : Len m.rel := hw.rel.1
 have lf : Len m.statref := hw.statref
 unfold Len at lr lf
 obtain ⟨vc, vm, vg, vw, vr, vs, vf, rfl, v1, v2, v3, v4, v5, v6, v7⟩ := hc
 refine s_call_R rfl Tryz.func91 (frc (by with_unfolding_all rfl)) rfl ?_
 refine tS ?_
 show SOps _ _ _ _ _ _ _ _ _ (hset h []) _
 apply o_hboxL (v := .agg [vc, vm, I m.entry, I m.need, vg, vw, vr, vs, vf]) dis_nil rfl rfl hone
 intro b3 hD
 apply o_hboxL (v := I fr) hD rfl rfl rfl
 intro b4 hD
 apply o_hboxL (v := I by') hD rfl rfl rfl
 intro b5 hD
 apply o_alcL hD rfl
 intro b6 hD
 refine tA ?_
 apply o_alcL hD rfl
 intro b8 hD
 apply o_st1L 0 hD rfl rfl rfl rfl rfl rfl (by decide)
 intro hD
 show SOps _ _ _ _ _ _ _ _ [b8, b6, b5, b4, b3] (hset h (LdL b3 b4 b5 b6 b8 true [vc, vm, I m.entry, I m.need, vg, vw, vr, vs, vf] fr by')) _
 change Dis h (LdL b3 b4 b5 b6 b8 true [vc, vm, I m.entry, I m.need, vg, vw, vr, vs, vf] fr by') at hD
 refine tA ?_
 refine s_regL (L := LdL b3 b4 b5 b6 b8 true [vc, vm, I m.entry, I m.need, vg, vw, vr, vs, vf] fr by') [.A, .B, .A, .A, .B, .A, .A, .D, .A, .D] hD ?_
 apply x_v rfl rfl trivial
 apply x_ldL 4 hD rfl rfl rfl rfl
 apply x_callL hD rfl rfl rfl (p145o v4 hl)
 intro w G1 O1 hD
 apply x_v rfl rfl trivial
 apply x_ldL 4 hD rfl rfl rfl rfl
 apply x_callL hD rfl rfl rfl (p145o (v6.mono RN.mono O1.ext) hs)
 intro s G O2 hD
 apply x_v rfl rfl trivial
 apply x_st1L 4 hD rfl rfl rfl rfl O1.ones (show 5 < 9 by decide)
 intro hD
 apply x_v rfl rfl trivial
 apply x_st1L 4 hD rfl rfl rfl rfl O2.ones (show 7 < 9 by decide)
 intro hD
 apply x_nil
 change Dis G (LdL b3 b4 b5 b6 b8 true [vc, vm, I m.entry, I m.need, vg, w, vr, s, vf] fr by') at hD
 show ssq _ _ _ _ _ _ _ _ _ (hset G (LdL b3 b4 b5 b6 b8 true [vc, vm, I m.entry, I m.need, vg, w, vr, s, vf] fr by'))
 have O : Own2 h w s m.words m.stat G := own2_of O1 O2
 clear O1 O2
 refine tA ?_
 apply o_ldL 4 hD rfl rfl rfl rfl rfl
 apply o_lenS rfl rfl (v5.mono RN.mono (O.o1.ext.trans (ext_hsetD hD)))
 refine tA ?_
 have hn0 : (LdL b3 b4 b5 b6 b8 true [vc, vm, I m.entry, I m.need, vg, w, vr, s, vf] fr by').map Prod.fst = [b8, b6, b5, b4, b3] := rfl
 refine s_loop (fun k : Nat => [(3, .ptr b3 0), (6, .ptr b6 0), (8, .ptr b8 0), (9, .fn 144 [] [.ptr b8 0, .ptr b4 0, .ptr b5 0]), (23, vr), (24, I m.rel.length), (25, I (k : Int))]) (fun k h' => k ≤ m.rel.length ∧ ∃ G, h' = hset G (LdL b3 b4 b5 b6 b8 (mvW fr by' m k).2 [vc, vm, I m.entry, I m.need, vg, w, vr, s, vf] fr by') ∧ Dis G (LdL b3 b4 b5 b6 b8 (mvW fr by' m k).2 [vc, vm, I m.entry, I m.need, vg, w, vr, s, vf] fr by') ∧ Own2 h w s (mvW fr by' m k).1 m.stat G) (fun k => m.rel.length - k) 0 tU ⟨by omega, G, rfl, hD, O⟩ ?_
 clear hD O
 rintro k _ ⟨hk, G, rfl, hD, O⟩
 refine tA ?_
 refine oI (k < m.rel.length) (fun H => ?_) (fun H => ?_)
 ·have hsucc := mvW_succ (fr := fr) (by' := by') H
  have hwl := mvW_len (fr := fr) (by' := by') (m := m) k
  have hwI := mvW_I (fr := fr) (by' := by') hw k
  have hr' := hr _ (List.getElem_mem H)
  refine tA ?_
  apply o_iaS rfl rfl rfl (v5.mono RN.mono (O.o1.ext.trans (ext_hsetD hD))) H
  intro p d hp hd _
  obtain rfl : d = [I m.rel[k]] := hd
  apply o_ldG rfl rfl hp (.one rfl) (fun h => by omega)
  generalize m.rel[k] = r at hsucc hr'
  generalize mvW fr by' m k = st at hsucc hwl hwI hD O ⊢
  obtain ⟨a, g⟩ := st
  simp only at hwl hwI hD O ⊢
  obtain ⟨i, rfl, hi, hup⟩ := O.poke (r := r.toNat) (by rw [hwl]; exact hr'.2)
  have hv : (nums .i32 a)[r.toNat]? = some (.int .i32 (a.getD r.toNat 0)) := nums_at (by rw [hwl]; exact hr'.2)
  have hI : I32 (a.getD r.toNat 0) := by
   rw [List.getD_eq_getElem?_getD, List.getElem?_eq_getElem (by rw [hwl]; exact hr'.2)]
   exact hwI _ (List.getElem_mem _)
  refine tA ?_
  apply o_as (w := .bool false) rfl rfl trivial (by simp; omega)
  refine tA ?_
  apply o_ldL 4 hD rfl rfl rfl rfl rfl
  refine tA ?_
  apply o_as (w := .bool false) rfl rfl trivial (by simp; omega)
  refine tA ?_
  apply o_ldL 4 hD rfl rfl rfl rfl rfl
  refine tA ?_
  apply o_as (w := .ptr i r.toNat) rfl rfl ⟨rfl, hr'.1, by omega⟩ (by simp)
  refine tA ?_
  have hni : i ∉ (LdL b3 b4 b5 b6 b8 g [vc, vm, I m.entry, I m.need, vg, .sl i 0 a.length 1, vr, s, vf] fr by').map Prod.fst := fun e => by rw [dis_ids hD i e] at hi; cases hi
  apply o_hcall rfl rfl rfl rfl (p144 (g := g) (fr := fr) (by' := by') ((hset_out hni).trans hi) hv (hset_get (k := 0) hD rfl) (hset_get (k := 3) hD rfl) (hset_get (k := 2) hD rfl) (fun e => hni (by rw [e]; exact .head _)) hI)
  rintro _ _ ⟨rfl, rfl⟩
  obtain ⟨e1, e2⟩ := ld_poke (g' := g && mvG fr (a.getD r.toNat 0)) (o := .cells ((nums .i32 a).set r.toNat (.int .i32 (mvC by' (a.getD r.toNat 0))))) hD (by rw [hi]; simp)
  rw [e1]
  refine tA ?_
  apply o_as (w := I ((k + 1 : Nat) : Int)) rfl rfl trivial (by rw [w64 (by omega) (by omega)]; rfl)
  refine tA ?_
  refine ⟨k + 1, by simp only; omega, tU, rfl, by omega, upd G i (some (.cells ((nums .i32 a).set r.toNat (.int .i32 (mvC by' (a.getD r.toNat 0)))))), ?_, ?_, ?_⟩
  ·rw [hsucc]; rfl
  ·rw [hsucc]; exact e2
  ·rw [hsucc]; exact hup _
 obtain rfl : k = m.rel.length := by omega
 clear hk H
 have ea : (mvW fr by' m m.rel.length).1 = (mvd fr by' m).words := rfl
 have hok : mvOk fr by' m = (mvS fr by' m (mvW fr by' m m.rel.length).2 m.stat.length).2 := rfl
 have eb : (mvd fr by' m).stat = (mvS fr by' m (mvW fr by' m m.rel.length).2 m.stat.length).1 := rfl
 rw [ea] at O
 generalize mvW fr by' m m.rel.length = st at hD O hok eb ⊢
 obtain ⟨a0, g0⟩ := st
 simp only at hD O hok eb ⊢
 refine tA ?_
 apply o_ldL 4 hD rfl rfl rfl rfl rfl
 apply o_lenV rfl rfl (O.o2.upE (ext_hsetD hD)).view
 refine tA ?_
 refine s_loop (fun k : Nat => [(3, .ptr b3 0), (6, .ptr b6 0), (8, .ptr b8 0), (9, .fn 144 [] [.ptr b8 0, .ptr b4 0, .ptr b5 0]), (48, I m.stat.length), (49, I (k : Int))]) (fun k h' => k ≤ m.stat.length ∧ ∃ G, h' = hset G (LdL b3 b4 b5 b6 b8 (mvS fr by' m g0 k).2 [vc, vm, I m.entry, I m.need, vg, w, vr, s, vf] fr by') ∧ Dis G (LdL b3 b4 b5 b6 b8 (mvS fr by' m g0 k).2 [vc, vm, I m.entry, I m.need, vg, w, vr, s, vf] fr by') ∧ Own2 h w s (mvd fr by' m).words (mvS fr by' m g0 k).1 G) (fun k => m.stat.length - k) 0 tU ⟨by omega, G, rfl, hD, O⟩ ?_
 clear hD O
 rintro k _ ⟨hk, G, rfl, hD, O⟩
 refine tA ?_
 refine oI (k < m.stat.length) (fun H => ?_) (fun H => ?_)
 ·have hsucc := mvS_succ (fr := fr) (by' := by') (m := m) (g := g0) (k := k)
  have hwl := mvS_len (fr := fr) (by' := by') (m := m) (g := g0) k
  have hwI := mvS_I (fr := fr) (by' := by') (g := g0) hw k
  generalize mvS fr by' m g0 k = st at hsucc hwl hwI hD O ⊢
  obtain ⟨b, g⟩ := st
  simp only at hwl hwI hD O ⊢
  refine tA ?_
  apply o_ldL 4 hD rfl rfl rfl rfl rfl
  apply o_lenS rfl rfl (v7.mono RB.mono (O.o1.ext.trans (ext_hsetD hD)))
  unfold stStep at hsucc
  refine oI (k < m.statref.length) (fun H2 => ?_) (fun H2 => ?_)
  rotate_left
  ·rw [show m.statref.getD k false = false by rw [List.getD_eq_getElem?_getD, List.getElem?_eq_none (by omega)]; rfl] at hsucc
   simp only [Bool.false_eq_true, if_false] at hsucc
   refine tA ?_
   apply o_as (w := I ((k + 1 : Nat) : Int)) rfl rfl trivial (by rw [w64 (by omega) (by omega)]; rfl)
   refine tA ?_
   exact ⟨k + 1, by simp only; omega, tU, rfl, by omega, G, by rw [hsucc], by rw [hsucc]; exact hD, by rw [hsucc]; exact O⟩
  refine tA ?_
  apply o_ldL 4 hD rfl rfl rfl rfl rfl
  refine tA ?_
  apply o_iaS rfl rfl rfl (v7.mono RB.mono (O.o1.ext.trans (ext_hsetD hD))) H2
  intro p d hp hd _
  obtain rfl : d = [.bool m.statref[k]] := hd
  refine tA ?_
  apply o_ldG rfl rfl hp (.one rfl) (fun h => by omega)
  rw [show m.statref.getD k false = m.statref[k] by rw [List.getD_eq_getElem?_getD, List.getElem?_eq_getElem H2]; rfl] at hsucc
  generalize m.statref[k] = f at hsucc
  cases f with
  | false =>
   simp only [Bool.false_eq_true, if_false] at hsucc
   refine tA ?_
   apply o_as (w := I ((k + 1 : Nat) : Int)) rfl rfl trivial (by rw [w64 (by omega) (by omega)]; rfl)
   refine tA ?_
   exact ⟨k + 1, by simp only; omega, tU, rfl, by omega, G, by rw [hsucc], by rw [hsucc]; exact hD, by rw [hsucc]; exact O⟩
  | true =>
   simp only [if_true] at hsucc
   obtain ⟨i, rfl, hi, hup⟩ := O.symm.poke (r := k) (by rw [hwl]; exact H)
   have hv : (nums .i32 b)[k]? = some (.int .i32 (b.getD k 0)) := nums_at (by rw [hwl]; exact H)
   have hI : I32 (b.getD k 0) := by
    rw [List.getD_eq_getElem?_getD, List.getElem?_eq_getElem (by rw [hwl]; exact H)]
    exact hwI _ (List.getElem_mem _)
   refine tA ?_
   apply o_ldL 4 hD rfl rfl rfl rfl rfl
   refine tA ?_
   apply o_as (w := .ptr i k) rfl rfl ⟨rfl, by omega, by omega⟩ (by simp)
   refine tA ?_
   have hni : i ∉ (LdL b3 b4 b5 b6 b8 g [vc, vm, I m.entry, I m.need, vg, w, vr, .sl i 0 b.length 1, vf] fr by').map Prod.fst := fun e => by rw [dis_ids hD i e] at hi; cases hi
   apply o_hcall rfl rfl rfl rfl (p144 (g := g) (fr := fr) (by' := by') ((hset_out hni).trans hi) hv (hset_get (k := 0) hD rfl) (hset_get (k := 3) hD rfl) (hset_get (k := 2) hD rfl) (fun e => hni (by rw [e]; exact .head _)) hI)
   rintro _ _ ⟨rfl, rfl⟩
   obtain ⟨e1, e2⟩ := ld_poke (g' := g && mvG fr (b.getD k 0)) (o := .cells ((nums .i32 b).set k (.int .i32 (mvC by' (b.getD k 0))))) hD (by rw [hi]; simp)
   rw [e1]
   refine tA ?_
   apply o_as (w := I ((k + 1 : Nat) : Int)) rfl rfl trivial (by rw [w64 (by omega) (by omega)]; rfl)
   refine tA ?_
   refine ⟨k + 1, by simp only; omega, tU, rfl, by omega, upd G i (some (.cells ((nums .i32 b).set k (.int .i32 (mvC by' (b.getD k 0)))))), ?_, ?_, ?_⟩
   ·rw [hsucc]; rfl
   ·rw [hsucc]; exact e2
   ·rw [hsucc]; exact (hup _).symm
 obtain rfl : k = m.stat.length := by omega
 rw [← eb] at O
 rw [← hok] at hD ⊢
 have hx : Ext h G := O.o1.ext
 have hcy : RImg G [vc, vm, I m.entry, I m.need, vg, w, vr, s, vf] (mvd fr by' m) := ⟨vc, vm, vg, w, vr, s, vf, rfl, v1.mono RCls.mono hx, v2.mono RMth.mono hx, v3.mono RN.mono hx, ⟨_, O.o1.view, Chunks.of_map⟩, v5.mono RN.mono hx, ⟨_, O.o2.view, Chunks.of_map⟩, v7.mono RB.mono hx⟩
 refine tA ?_
 have hn := dis_nodup hD
 have g3 := hset_get (k := 4) hD rfl
 have g6 := hset_get (k := 1) hD rfl
 have g8 := hset_get (k := 0) hD rfl
 refine s_regX [b6] [.F, .G, .E, .A] (fun id hid => by obtain rfl := List.mem_singleton.1 hid; rw [g6]; simp) rfl ?_
 apply x_ldF (v := .agg [vc, vm, I m.entry, I m.need, vg, w, vr, s, vf]) rfl rfl (.p b3 0 _ _ g3 (sliceL_all rfl)) (.many rfl rfl)
 apply x_ldO rfl rfl g8 (fun h => by obtain rfl := List.mem_singleton.1 h; exact absurd (.head _) (List.nodup_cons.1 hn).1) rfl
 apply x_stE (v := .agg [vc, vm, I m.entry, I m.need, vg, w, vr, s, vf]) (cs' := [vc, vm, I m.entry, I m.need, vg, w, vr, s, vf]) rfl rfl rfl rfl hcy.one g6 (.head _) (splice_full rfl)
 rw [(hset_set (k := 1) hD rfl).1]
 replace hD := (hset_set (k := 1) (o' := .cells [vc, vm, I m.entry, I m.need, vg, w, vr, s, vf]) hD rfl).2
 apply x_v rfl rfl trivial
 apply x_nil
 refine tA ?_
 refine hR_ret (vs := [.agg [vc, vm, I m.entry, I m.need, vg, w, vr, s, vf], .bool (mvOk fr by' m)]) (.cells (m := 9) rfl (by kernel_rfl) (hset_get (k := 1) hD rfl) rfl (.tmp rfl .nil)) rfl ?_ ?_
 ·have ek := kill_hset hD
  rw [show killL [b8, b6, b5, b4, b3] _ = G from ek]
  exact ⟨hx, _, rfl, hcy⟩
 ·intro ht
  exact .inl ⟨.refl, _, rfl, tr_i _ _ _ _ (by simpa [tupled, AV.tree, AV.trees] using ht) hcy⟩
end Go.Proofs
end
section
open Go Go.Abs Go.Proofs.SlimCode Go.Img
namespace Go.Img
theorem flat_mem {α : Type} {e : α → B} {a : α} : ∀ {l : List α}, a ∈ l → (e a).length ≤ (l.flatMap e).length
 | b :: l, h => by
  rw [List.flatMap_cons, List.length_append]
  rcases List.mem_cons.1 h with rfl | h
  ·omega
  ·have := flat_mem (e := e) h
   omega
theorem faces_le {m : Image} (h : size m ≤ 1048576) : ∀ x ∈ m.classes, x.faces.length ≤ 1048577 := by
 intro x hx
 have h1 := flat_mem (e := eCls) hx
 have h2 : x.faces.length ≤ (x.faces.flatMap ePair).length := Proofs.flat_ge (fun a => by unfold ePair; rw [List.length_append]; have := Proofs.put_ge a.1; omega) _
 have h3 : (x.faces.flatMap ePair).length ≤ (eCls x).length := by
  unfold eCls eList
  simp only [List.length_append]
  omega
 have h4 : (m.classes.flatMap eCls).length ≤ size m := by
  unfold size body
  rw [List.length_append]
  unfold eList
  rw [List.length_append]
  omega
 omega
end Go.Img
set_option maxRecDepth 100000
namespace Go.Proofs
open Classical in
noncomputable def loadOf (bs : B) (a : Int) : Int × Image × Int := match Img.decode bs with
 | none => (6, noImage, 0)
 | some m => if ValidP m then (if 0 ≤ a ∧ a ≤ 1048576 then (0, mvd 0 a m, a) else (9, noImage, 0)) else (1, noImage, 0)
theorem valid_rel {m : Image} (h : ValidP m) : (∀ r ∈ m.rel, 0 ≤ r ∧ r.toNat < m.words.length) ∧ m.words.length ≤ 1048576 ∧ m.stat.length ≤ 1048576 := by
 obtain ⟨l, h1, h2⟩ := h.heap
 refine ⟨fun r hr => ?_, ?_, by have := h.first.sizes.2.2.1; omega⟩
 ·rw [← h2.rel] at hr
  exact relOf_at (fun x hx => by
   unfold parse at h1
   split at h1
   ·exact scan_mem _ _ _ (Nat.le_refl _) h1 x hx
   ·cases h1) hr
 ·unfold parse at h1
  split at h1
  ·assumption
  ·cases h1
abbrev Z10 : List AV := Z9 ++ [I 0]
def LoadQ (x : Int × Image × Int) (h : Heap) : AV → Heap → Prop := fun r h' => Ext h h' ∧ ∃ c, r = .tup [.agg (c ++ [I x.2.2]), I x.1] ∧ RImg h' c x.2.1
theorem ones_app {l : List AV} {n : Int} (h : l.all AV.one = true) : (l ++ [I n]).all AV.one = true := by rw [List.all_append, h]; rfl
theorem p29 {h : Heap} {v : AV} {bs : B} {a : Int} (hv : VSl h 1 v (ubs bs) bs.length) (hl : bs.length ≤ 9223372036854775807) : HCallC Tryz.prog ann 29 [v, I a] h (LoadQ (loadOf bs a) h) := by
 refine s_call_R rfl Tryz.func29 (frc (by with_unfolding_all rfl)) rfl ?_
 refine tA ?_
 show SOps _ _ _ _ _ _ _ _ _ (hset h []) _
 apply o_alcL dis_nil rfl
 intro b4 hD
 refine tA ?_
 apply o_callL hD rfl rfl rfl rfl (p17 hv hl)
 rintro _ k1 ⟨hx1, c, e, m, rfl, hR, hw, hcase⟩ hD
 have hR0 := hR
 obtain ⟨vc, vm, vg, vw, vr, vs, vf, rfl, _⟩ := hR0
 refine tA ?_
 apply o_alcL hD rfl
 intro b6 hD
 apply o_stL (v := .agg [vc, vm, I m.entry, I m.need, vg, vw, vr, vs, vf]) (cs' := [vc, vm, I m.entry, I m.need, vg, vw, vr, vs, vf]) 0 hD rfl rfl rfl rfl rfl rfl hR.one (splice_full rfl)
 intro hD
 show SOps _ _ _ _ _ _ _ _ [b6, b4] (hset k1 [(b6, .cells [vc, vm, I m.entry, I m.need, vg, vw, vr, vs, vf]), (b4, .cells Z10)]) _
 change Dis k1 [(b6, .cells [vc, vm, I m.entry, I m.need, vg, vw, vr, vs, vf]), (b4, .cells Z10)] at hD
 have fin : ∀ (k : Heap) (E : Env) (c6 c' : List AV) (x : Int × Image × Int), lk E 4 = some (.ptr b4 0) → lk E 5 = some (I x.1) → c'.length = 9 → Ext h k → RImg k c' x.2.1 → loadOf bs a = x → Dis k [(b6, .cells c6), (b4, .cells (c' ++ [I x.2.2]))] → hretR Tryz.prog ann 29 Tryz.f29.results.toList h (LoadQ (loadOf bs a) h) .ret E [b6, b4] (hset k [(b6, .cells c6), (b4, .cells (c' ++ [I x.2.2]))]) := by
  intro k E c6 c' x e4 e5 hc' hk hr hx hD
  rw [hx]
  refine hR_ret (vs := [.agg (c' ++ [I x.2.2]), I x.1]) (.cells (m := 10) e4 (by kernel_rfl) (hset_get (k := 1) hD rfl) (sliceL_all (by simp [hc'])) (.tmp e5 .nil)) rfl ?_ ?_
  ·rw [show killL [b6, b4] _ = k from kill_hset hD]
   exact ⟨hk, c', rfl, hr⟩
  ·intro ht
   refine .inl ⟨.refl, c', rfl, tr_i _ _ _ _ ?_ hr⟩
   have := ht
   simp only [tupled, AV.tree, AV.trees, trees_append, Bool.and_eq_true] at this
   exact this.1.1
 rcases hcase with ⟨rfl, hd⟩ | ⟨rfl, hd, rfl⟩
 rotate_left
 ·have e : loadOf bs a = (6, noImage, 0) := by unfold loadOf; rw [hd]
  refine tW ?_
  apply o_stL (v := .agg Z10) (cs' := Z10) 1 hD rfl rfl rfl rfl rfl rfl rfl (splice_full rfl)
  intro hD
  refine tW ?_
  exact fin k1 _ _ Z9 _ rfl rfl rfl hx1 noImage_R e hD
 have hsz := (decode_some hd).2
 refine tW ?_
 apply o_ldnL 0 hD rfl rfl rfl rfl rfl
 apply o_callL hD rfl rfl rfl rfl (p25 hR hw (faces_le hsz)).go
 rintro _ k3 ⟨rfl, hy⟩ hD
 replace hx1 := hx1.trans hy
 replace hR := RImg.mono _ _ _ _ hy hR
 clear hy
 by_cases hV : ValidP m
 rotate_left
 ·have e : loadOf bs a = (1, noImage, 0) := by unfold loadOf; rw [hd]; simp only [if_neg hV]
  rw [BP_false hV]
  refine tW ?_
  apply o_stL (v := .agg Z10) (cs' := Z10) 1 hD rfl rfl rfl rfl rfl rfl rfl (splice_full rfl)
  intro hD
  refine tW ?_
  exact fin k3 _ _ Z9 _ rfl rfl rfl hx1 noImage_R e hD
 rw [BP_true hV]
 refine tW ?_
 apply o_callL hD rfl rfl rfl rfl p90.go
 rintro _ k4 ⟨rfl, hy⟩ hD
 replace hx1 := hx1.trans hy
 replace hR := RImg.mono _ _ _ _ hy hR
 clear hy
 by_cases hB : 0 ≤ a ∧ a ≤ 1048576
 rotate_left
 ·have e : loadOf bs a = (9, noImage, 0) := by unfold loadOf; rw [hd]; simp only [if_pos hV, if_neg hB]
  rw [BP_false hB]
  refine tW ?_
  apply o_stL (v := .agg Z10) (cs' := Z10) 1 hD rfl rfl rfl rfl rfl rfl rfl (splice_full rfl)
  intro hD
  refine tW ?_
  exact fin k4 _ _ Z9 _ rfl rfl rfl hx1 noImage_R e hD
 have e : loadOf bs a = (0, mvd 0 a m, a) := by unfold loadOf; rw [hd]; simp only [if_pos hV, if_pos hB]
 rw [BP_true hB]
 refine tW ?_
 apply o_ldnL 0 hD rfl rfl rfl rfl rfl
 refine tW ?_
 apply o_callL hD rfl rfl rfl rfl (p91 hR hw (valid_rel hV).1 (valid_rel hV).2.1 (valid_rel hV).2.2)
 rintro _ k5 ⟨hy, c', rfl, hR'⟩ hD
 replace hx1 := hx1.trans hy
 have hR0 := hR'
 obtain ⟨wc, wm, wg, ww, wr, ws, wf, rfl, _⟩ := hR0
 refine tW ?_
 apply o_stL (v := .agg [wc, wm, I _, I _, wg, ww, wr, ws, wf]) (cs' := [wc, wm, I _, I _, wg, ww, wr, ws, wf]) 0 hD rfl rfl rfl rfl rfl rfl hR'.one (splice_full rfl)
 intro hD
 refine tW ?_
 apply o_ldnL 0 hD rfl rfl rfl rfl rfl
 refine tW ?_
 apply o_stL (v := .agg [wc, wm, I _, I _, wg, ww, wr, ws, wf, I a]) (cs' := [wc, wm, I _, I _, wg, ww, wr, ws, wf, I a]) 1 hD rfl rfl rfl rfl rfl rfl (ones_app hR'.one) (splice_full rfl)
 intro hD
 refine tW ?_
 exact fin k5 _ _ [wc, wm, I _, I _, wg, ww, wr, ws, wf] (0, mvd 0 a m, a) rfl rfl rfl hx1 hR' e hD
open Classical in
noncomputable def moveOf (m : Image) (b a : Int) : Bool × Image × Int := if 0 ≤ a ∧ a ≤ 1048576 then (if mvOk b (a - b) m = true then (true, mvd b (a - b) m, a) else (false, noImage, 0)) else (false, noImage, 0)
def MoveQ (x : Bool × Image × Int) (h : Heap) : AV → Heap → Prop := fun r h' => Ext h h' ∧ ∃ c, r = .tup [.agg (c ++ [I x.2.2]), .bool x.1] ∧ RImg h' c x.2.1
theorem p31 {h : Heap} {c : List AV} {m : Image} {a b : Int} (hR : RImg h c m) (hw : m.WF) (hr : ∀ r ∈ m.rel, 0 ≤ r ∧ r.toNat < m.words.length) (hl : m.words.length ≤ 1048576) (hs : m.stat.length ≤ 1048576) (hb : 0 ≤ b ∧ b ≤ 1048576) :
  HCallC Tryz.prog ann 31 [.agg (c ++ [I b]), I a] h (MoveQ (moveOf m b a) h) := by
 have hR0 := hR
 obtain ⟨vc, vm, vg, vw, vr, vs, vf, rfl, _⟩ := hR0
 refine s_call_R rfl Tryz.func31 (frc (by with_unfolding_all rfl)) rfl ?_
 refine tS ?_
 apply o_val rfl rfl (ones_app hR.one)
 show SOps _ _ _ _ _ _ _ _ _ (hset h []) _
 apply o_alcL dis_nil rfl
 intro b4 hD
 have fin : ∀ (k : Heap) (E : Env) (c' : List AV) (L : List (Nat × AObj)) (n : Nat) (x : Bool × Image × Int), lk E 4 = some (.ptr b4 0) → lk E 5 = some (.bool x.1) → c'.length = 9 → Ext h k → RImg k c' x.2.1 → moveOf m b a = x → Dis k L → L[n]? = some (b4, .cells (c' ++ [I x.2.2])) → hretR Tryz.prog ann 31 Tryz.f31.results.toList h (MoveQ (moveOf m b a) h) .ret E (L.map Prod.fst) (hset k L) := by
  intro k E c' L n x e4 e5 hc' hk hr hx hD hL
  rw [hx]
  refine hR_ret (vs := [.agg (c' ++ [I x.2.2]), .bool x.1]) (.cells (m := 10) e4 (by kernel_rfl) (hset_get hD hL) (sliceL_all (by simp [hc'])) (.tmp e5 .nil)) rfl ?_ ?_
  ·rw [kill_hset hD]
   exact ⟨hk, c', rfl, hr⟩
  ·intro ht
   refine .inl ⟨.refl, c', rfl, tr_i _ _ _ _ ?_ hr⟩
   have := ht
   simp only [tupled, AV.tree, AV.trees, trees_append, Bool.and_eq_true] at this
   exact this.1.1
 refine tA ?_
 apply o_callL hD rfl rfl rfl rfl p90.go
 rintro _ k1 ⟨rfl, hx1⟩ hD
 by_cases hB : 0 ≤ a ∧ a ≤ 1048576
 rotate_left
 ·have e : moveOf m b a = (false, noImage, 0) := by unfold moveOf; rw [if_neg hB]
  rw [BP_false hB]
  refine tW ?_
  apply o_stL (v := .agg Z10) (cs' := Z10) 0 hD rfl rfl rfl rfl rfl rfl rfl (splice_full rfl)
  intro hD
  refine tW ?_
  exact fin k1 _ Z9 [_] 0 _ rfl rfl rfl hx1 noImage_R e hD rfl
 rw [BP_true hB]
 refine tW ?_
 rw [w64 (n := a - b) (by omega) (by omega)]
 apply o_callL hD rfl rfl rfl rfl (p91 (RImg.mono _ _ _ _ hx1 hR) hw hr hl hs)
 rintro _ k2 ⟨hy, c', rfl, hR'⟩ hD
 replace hx1 := hx1.trans hy
 have hR0 := hR'
 obtain ⟨wc, wm, wg, ww, wr, ws, wf, rfl, _⟩ := hR0
 refine tW ?_
 apply o_alcL hD rfl
 intro b6 hD
 apply o_stL (v := .agg [wc, wm, I _, I _, wg, ww, wr, ws, wf]) (cs' := [wc, wm, I _, I _, wg, ww, wr, ws, wf]) 0 hD rfl rfl rfl rfl rfl rfl hR'.one (splice_full rfl)
 intro hD
 cases hok : mvOk b (a - b) m with
 | false =>
  have e : moveOf m b a = (false, noImage, 0) := by unfold moveOf; rw [if_pos hB, if_neg (by rw [hok]; simp)]
  refine tW ?_
  apply o_stL (v := .agg Z10) (cs' := Z10) 1 hD rfl rfl rfl rfl rfl rfl rfl (splice_full rfl)
  intro hD
  refine tW ?_
  exact fin k2 _ Z9 [_, _] 1 _ rfl rfl rfl hx1 noImage_R e hD rfl
 | true =>
  have e : moveOf m b a = (true, mvd b (a - b) m, a) := by unfold moveOf; rw [if_pos hB, if_pos hok]
  refine tW ?_
  apply o_ldnL 0 hD rfl rfl rfl rfl rfl
  refine tW ?_
  apply o_stL (v := .agg [wc, wm, I _, I _, wg, ww, wr, ws, wf, I a]) (cs' := [wc, wm, I _, I _, wg, ww, wr, ws, wf, I a]) 1 hD rfl rfl rfl rfl rfl rfl (ones_app hR'.one) (splice_full rfl)
  intro hD
  refine tW ?_
  exact fin k2 _ [wc, wm, I _, I _, wg, ww, wr, ws, wf] [_, _] 1 (true, mvd b (a - b) m, a) rfl rfl rfl hx1 hR' e hD rfl
end Go.Proofs
end
section
open Go Go.Abs Go.Proofs.SlimCode Go.Img
set_option maxRecDepth 100000
namespace Go.Proofs
theorem own_up {G : Heap} {L : List (Nat × AObj)} {i : Nat} {o : AObj} (hD : Dis G L) (hi : G i ≠ none) : upd (hset G L) i (some o) = hset (upd G i (some o)) L ∧ Dis (upd G i (some o)) L := by
 have hni : i ∉ L.map Prod.fst := fun h => hi (dis_ids hD i h)
 refine ⟨(hset_upd hni).symm, dis_of (dis_nodup hD) fun id hid => ?_⟩
 rw [upd_ne fun e => hni (by rw [← e]; exact hid)]
 exact dis_ids hD id hid
theorem p16v {h : Heap} {c : List AV} {m : Image} (hc : RImg h c m) (hw : m.WF) (hb : (Img.body m).length ≤ 50000) : HCallC Tryz.prog ann 16 [.agg c] h fun v h' => OSl h 1 v (ubs (encode m)) (encode m).length h' :=
 (p16 hc hw (by omega)).mono fun v h' q => by
  rcases q with ⟨_, O⟩ | ⟨hq, _⟩
  ·exact O
  ·exfalso
   unfold size at hq
   omega
theorem small_body : (Img.body small).length ≤ 50000 := small_len small_WF small_Small
theorem enc_len {m : Image} (h : (Img.body m).length ≤ 50000) : (encode m).length ≤ 9223372036854775807 := by rw [encode_len]; unfold size; omega
theorem load_small {a : Int} (h : 0 ≤ a ∧ a ≤ 1048576) : loadOf (encode small) a = (0, mvd 0 a small, a) := by
 unfold loadOf
 rw [dec_small]
 simp only [if_pos valid_small, if_pos h]
theorem load_low : loadOf (encode small) (-1) = (9, noImage, 0) := by
 unfold loadOf
 rw [dec_small]
 simp only [if_pos valid_small]
 rw [if_neg (by omega)]
theorem load_nil {a : Int} : loadOf [] a = (6, noImage, 0) := by
 unfold loadOf
 rw [dec_none]
theorem no_body : (Img.body noImage).length ≤ 50000 := by simp [Img.body, eList, noImage, put, zz, leb]
theorem load_no {a : Int} : loadOf (encode noImage) a = (1, noImage, 0) := by
 unfold loadOf
 rw [decode_encode noImage_WF (by have := no_body; unfold size; omega)]
 simp only [if_neg bad_none]
theorem p89 : PureC Tryz.prog ann 89 [] (.bool true) := by
 refine s_pure_of Tryz.func89 (frc (by with_unfolding_all rfl)) rfl rfl rfl ?_
 refine tV ?_
 (refine tG ?_; (with_reducible apply o_call); exact rfl; exact rfl; exact rfl; exact p24)
 refine tW ?_
 (first | apply sret_ret | apply sret_norm); exact res_tmp (vs := [_]) rfl rfl
theorem small_rel : ∀ r ∈ small.rel, 0 ≤ r ∧ r.toNat < small.words.length := by decide
theorem mv100 : mvd 0 100 small = { small with words := [0, 0, 10, 1, 101], stat := [5, 103] } := rfl
theorem mv100_rel : ∀ r ∈ (mvd 0 100 small).rel, 0 ≤ r ∧ r.toNat < (mvd 0 100 small).words.length := by rw [mv100]; exact small_rel
theorem move100 : moveOf (mvd 0 100 small) 100 0 = (true, small, 0) := by
 have e : mvd 100 (0 - 100) (mvd 0 100 small) = small := rfl
 have e2 : mvOk 100 (0 - 100) (mvd 0 100 small) = true := rfl
 unfold moveOf
 rw [if_pos (by omega), if_pos e2, e]
theorem p28 : PureC Tryz.prog ann 28 [] (.bool true) := by
 refine s_pure_of Tryz.func28 (frc (by with_unfolding_all rfl)) rfl rfl rfl ?_
 refine tA ?_
 show SOps _ _ _ _ _ _ _ _ _ (hset hp0 []) _
 apply o_callL dis_nil rfl rfl rfl rfl p27
 rintro _ k1 ⟨_, c1, rfl, hM⟩ hD
 have hM0 := hM
 obtain ⟨vc, vm, vg, vw, vr, vs, vf, rfl, _⟩ := hM0
 refine tA ?_
 apply o_alcL hD rfl
 intro b1 hD
 apply o_stL (v := .agg [vc, vm, I _, I _, vg, vw, vr, vs, vf]) (cs' := [vc, vm, I _, I _, vg, vw, vr, vs, vf]) 0 hD rfl rfl rfl rfl rfl rfl hM.one (splice_full rfl)
 intro hD
 refine tA ?_
 apply o_ldnL 0 hD rfl rfl rfl rfl rfl
 apply o_callL hD rfl rfl rfl rfl (p16v hM small_WF small_body)
 rintro e1 k2 O hD
 replace hM := RImg.mono _ _ _ _ O.ext hM
 apply o_callL hD rfl rfl rfl rfl (p29 (a := 100) O.view (enc_len small_body))
 rintro _ k3 ⟨hx, c2, rfl, hM2⟩ hD
 rw [load_small (by omega)] at hM2 ⊢
 replace hM := RImg.mono _ _ _ _ hx hM
 clear hx O
 have hM0 := hM2
 obtain ⟨wc, wm, wg, ww, wr, ws, wf, rfl, _⟩ := hM0
 refine tA ?_
 apply o_alcL hD rfl
 intro b2 hD
 apply o_stL (v := .agg [wc, wm, I _, I _, wg, ww, wr, ws, wf, I 100]) (cs' := [wc, wm, I _, I _, wg, ww, wr, ws, wf, I 100]) 0 hD rfl rfl rfl rfl rfl rfl (ones_app hM2.one) (splice_full rfl)
 intro hD
 refine tA ?_
 apply o_callL hD rfl rfl rfl rfl (p29 (v := .nil .sl) (bs := []) (a := 0) .nil (by decide))
 rintro _ k4 ⟨hx, c3, rfl, hM3⟩ hD
 rw [load_nil] at hM3 ⊢
 replace hM := RImg.mono _ _ _ _ hx hM
 replace hM2 := RImg.mono _ _ _ _ hx hM2
 clear hx
 have hM0 := hM3
 obtain ⟨_, _, _, _, _, _, _, rfl, _⟩ := hM0
 refine tA ?_
 apply o_alcL hD rfl
 intro b4 hD
 apply o_stL (v := .agg [_, _, I _, I _, _, _, _, _, _, I 0]) (cs' := [_, _, I _, I _, _, _, _, _, _, I 0]) 0 hD rfl rfl rfl rfl rfl rfl (ones_app hM3.one) (splice_full rfl)
 intro hD
 clear hM3
 refine tA ?_
 apply o_ldnL 2 hD rfl rfl rfl rfl rfl
 apply o_callL hD rfl rfl rfl rfl (p16v hM small_WF small_body)
 rintro e2 k5 O hD
 replace hM := RImg.mono _ _ _ _ O.ext hM
 replace hM2 := RImg.mono _ _ _ _ O.ext hM2
 apply o_callL hD rfl rfl rfl rfl (p29 (a := -1) O.view (enc_len small_body))
 rintro _ k6 ⟨hx, c3, rfl, hM3⟩ hD
 rw [load_low] at hM3 ⊢
 replace hM := RImg.mono _ _ _ _ hx hM
 replace hM2 := RImg.mono _ _ _ _ hx hM2
 clear hx O
 have hM0 := hM3
 obtain ⟨_, _, _, _, _, _, _, rfl, _⟩ := hM0
 refine tA ?_
 apply o_alcL hD rfl
 intro b6 hD
 apply o_stL (v := .agg [_, _, I _, I _, _, _, _, _, _, I 0]) (cs' := [_, _, I _, I _, _, _, _, _, _, I 0]) 0 hD rfl rfl rfl rfl rfl rfl (ones_app hM3.one) (splice_full rfl)
 intro hD
 clear hM3
 refine tA ?_
 apply o_val (v := .agg Z9) rfl rfl trivial
 apply o_callL hD rfl rfl rfl rfl (p16v noImage_R noImage_WF no_body)
 rintro e3 k7 O hD
 replace hM := RImg.mono _ _ _ _ O.ext hM
 replace hM2 := RImg.mono _ _ _ _ O.ext hM2
 apply o_callL hD rfl rfl rfl rfl (p29 (a := 0) O.view (enc_len no_body))
 rintro _ k8 ⟨hx, c3, rfl, hM3⟩ hD
 rw [load_no] at hM3 ⊢
 replace hM := RImg.mono _ _ _ _ hx hM
 replace hM2 := RImg.mono _ _ _ _ hx hM2
 clear hx O
 have hM0 := hM3
 obtain ⟨_, _, _, _, _, _, _, rfl, _⟩ := hM0
 refine tA ?_
 apply o_alcL hD rfl
 intro b8 hD
 apply o_stL (v := .agg [_, _, I _, I _, _, _, _, _, _, I 0]) (cs' := [_, _, I _, I _, _, _, _, _, _, I 0]) 0 hD rfl rfl rfl rfl rfl rfl (ones_app hM3.one) (splice_full rfl)
 intro hD
 clear hM3
 refine tA ?_
 apply o_ldnL 3 hD rfl rfl rfl rfl rfl
 apply o_callL hD rfl rfl rfl rfl (p31 (c := [wc, wm, I _, I _, wg, ww, wr, ws, wf]) (a := 0) (b := 100) hM2 (mvd_WF small_WF) mv100_rel (by rw [mv100]; decide) (by rw [mv100]; decide) (by omega))
 rintro _ k9 ⟨hx, c3, rfl, hM3⟩ hD
 rw [move100] at hM3 ⊢
 replace hM := RImg.mono _ _ _ _ hx hM
 replace hM2 := RImg.mono _ _ _ _ hx hM2
 clear hx
 have hM0 := hM3
 obtain ⟨xc, xm, xg, xw, xr, xs, xf, rfl, _⟩ := hM0
 refine tA ?_
 apply o_alcL hD rfl
 intro b10 hD
 apply o_stL (v := .agg [xc, xm, I _, I _, xg, xw, xr, xs, xf, I 0]) (cs' := [xc, xm, I _, I _, xg, xw, xr, xs, xf, I 0]) 0 hD rfl rfl rfl rfl rfl rfl (ones_app hM3.one) (splice_full rfl)
 intro hD
 have hx := ext_hsetD hD
 rw [mv100] at hM2
 have w4 : Sl (RN .i32) 1 k9 ww [0, 0, 10, 1, 101] := by
  obtain ⟨_, _, _, _, _, _, _, e, _, _, _, h4, _⟩ := hM2
  cases e
  exact h4
 have w6 : Sl (RN .i32) 1 k9 ws [5, 103] := by
  obtain ⟨_, _, _, _, _, _, _, e, _, _, _, _, _, h6, _⟩ := hM2
  cases e
  exact h6
 replace w4 := w4.mono RN.mono hx
 replace w6 := w6.mono RN.mono hx
 replace hM := RImg.mono _ _ _ _ hx hM
 replace hM3 := RImg.mono _ _ _ _ hx hM3
 refine tA ?_
 apply o_ldL 4 hD rfl rfl rfl rfl rfl
 apply o_lenS rfl rfl w4
 apply o_as (w := .bool false) rfl rfl trivial rfl
 refine tA ?_
 apply o_ldL 4 hD rfl rfl rfl rfl rfl
 refine tA ?_
 apply o_lenS rfl rfl w6
 refine tA ?_
 apply o_as (w := .bool false) rfl rfl trivial rfl
 refine tA ?_
 (refine tG ?_; (with_reducible apply o_call); exact rfl; exact rfl; exact rfl; exact p89)
 refine tA ?_
 apply o_as (w := .bool true) rfl rfl trivial rfl
 refine tA ?_
 apply o_ldL 4 hD rfl rfl rfl rfl rfl
 refine tA ?_
 apply o_as (w := .bool true) rfl rfl trivial rfl
 refine tA ?_
 apply o_ldL 4 hD rfl rfl rfl rfl rfl
 refine tA ?_
 apply o_iaS (z := 4) rfl rfl rfl w4 (by decide)
 intro p d hp hd _
 obtain rfl : d = [.int .i32 101] := hd
 refine tA ?_
 apply o_ldG rfl rfl hp (.one rfl) (fun h => by omega)
 refine tA ?_
 apply o_as (w := .bool true) rfl rfl trivial rfl
 refine tA ?_
 apply o_ldL 4 hD rfl rfl rfl rfl rfl
 refine tA ?_
 apply o_iaS (z := 1) rfl rfl rfl w6 (by decide)
 intro p d hp hd _
 obtain rfl : d = [.int .i32 103] := hd
 refine tA ?_
 apply o_ldG rfl rfl hp (.one rfl) (fun h => by omega)
 refine tA ?_
 apply o_as (w := .bool true) rfl rfl trivial rfl
 refine tA ?_
 apply o_ldL 4 hD rfl rfl rfl rfl rfl
 refine tA ?_
 apply o_iaS (z := 0) rfl rfl rfl w6 (by decide)
 intro p d hp hd _
 obtain rfl : d = [.int .i32 5] := hd
 refine tA ?_
 apply o_ldG rfl rfl hp (.one rfl) (fun h => by omega)
 refine tA ?_
 apply o_as (w := .bool true) rfl rfl trivial rfl
 refine tA ?_
 apply o_as (w := .bool true) rfl rfl trivial rfl
 refine tA ?_
 apply o_as (w := .bool true) rfl rfl trivial rfl
 refine tA ?_
 apply o_as (w := .bool true) rfl rfl trivial rfl
 refine tA ?_
 apply o_ldL 0 hD rfl rfl rfl rfl rfl
 refine tA ?_
 apply o_as (w := .bool true) rfl rfl trivial rfl
 refine tA ?_
 apply o_ldnL 0 hD rfl rfl rfl rfl rfl
 refine tA ?_
 apply o_ldnL 5 hD rfl rfl rfl rfl rfl
 refine tA ?_
 apply o_hcall rfl rfl rfl rfl (p18 hM3 hM small_WF small_WF).go
 rintro _ k10 ⟨rfl, _⟩
 rw [decide_eq_true (rfl : small = small)]
 refine tW ?_
 (first | apply sret_ret | apply sret_norm); exact res_tmp (vs := [_]) rfl rfl
theorem ids_none {h G : Heap} {L : List (Nat × AObj)} (hD : Dis G L) (hx : Ext h G) : ∀ i ∈ L.map Prod.fst, h i = none := fun i hi => by
 cases e : h i with
 | none => rfl
 | some o =>
  have := hx _ _ e
  rw [dis_ids hD i hi] at this
  cases this
theorem ext_joinS {S : List Nat} {h h1 : Heap} (h0 : ∀ id ∈ S, h1 id = none) : Ext h1 (joinS S h h1) := ext_joinR .refl h0
theorem join_at {S : List Nat} {h h1 : Heap} {i : Nat} (hi : i ∈ S) : joinS S h h1 i = h i := by
 unfold joinS
 rw [if_pos (by simpa using hi)]
theorem dec_enc {m : Image} (hw : m.WF) (hs : Image.Small m) : Img.decode (encode m) = some m := decode_encode hw (by have := small_len hw hs; unfold size; omega)
theorem enc_eq_iff {a b : Image} (ha : a.WF) (hb : b.WF) (sa : Image.Small a) (sb : Image.Small b) : decide (encode a = encode b) = decide (a = b) := by
 have h := encode_inj ha hb (by have := small_len ha sa; unfold size; omega) (by have := small_len hb sb; unfold size; omega)
 by_cases e : a = b
 ·rw [decide_eq_true e, decide_eq_true (h.2 e)]
 ·rw [decide_eq_false e, decide_eq_false (fun x => e (h.1 x))]
theorem dec_of {m : Image} {bs : B} {h h' : Heap} {v : AV} (H : DecQ bs h v h') (hd : Img.decode bs = some m) : Ext h h' ∧ ∃ c, v = .tup [.agg c, I 0] ∧ RImg h' c m := by
 obtain ⟨hx, c, e, m', rfl, hR, _, h2⟩ := H
 rcases h2 with ⟨rfl, h3⟩ | ⟨_, h3, _⟩
 ·rw [hd] at h3
  cases h3
  exact ⟨hx, c, rfl, hR⟩
 ·rw [hd] at h3
  cases h3
theorem p3 {h : Heap} {c1 c2 : List AV} {a0 b0 : Image} (hc1 : ∀ h, RImg h c1 a0) (hc2 : ∀ h, RImg h c2 b0) (hw1 : a0.Wide) (hw2 : b0.Wide) : HCallC Tryz.prog ann 3 [.agg c1, .agg c2] h fun v h' => v = .bool true ∧ Ext h h' := by
 have hone1 := (hc1 h).one
 have hone2 := (hc2 h).one
 have hl1 : c1.length = 9 := by obtain ⟨_, _, _, _, _, _, _, rfl, _⟩ := hc1 h; rfl
 have hl2 : c2.length = 9 := by obtain ⟨_, _, _, _, _, _, _, rfl, _⟩ := hc2 h; rfl
 refine (show Looks _ _ _ _ _ _ from ?_).go
 refine s_look_of rfl Tryz.func3 (frc (by with_unfolding_all rfl)) rfl ?_
 refine tS ?_
 apply o_hbox (v := .agg c1) rfl rfl hone1
 intro b2 hb2
 have ha : Ext h (upd h b2 (some (.cells c1))) := .upd hb2
 have e2 : upd h b2 (some (.cells c1)) b2 = some (.cells c1) := upd_same
 show SOps _ _ _ _ _ _ _ _ [b2] (upd h b2 (some (.cells c1))) _
 generalize upd h b2 (some (.cells c1)) = k0 at ha e2 ⊢
 apply o_hbox (v := .agg c2) rfl rfl hone2
 intro b3 hb3
 have hne : b2 ≠ b3 := fun hc => by rw [← hc, e2] at hb3; cases hb3
 have hh3 : h b3 = none := by
  cases e : h b3 with
  | none => rfl
  | some o => rw [ha _ _ e] at hb3; cases hb3
 replace ha : Ext h (upd k0 b3 (some (.cells c2))) := ha.trans (.upd hb3)
 replace e2 : upd k0 b3 (some (.cells c2)) b2 = _ := (upd_ne hne).trans e2
 have e3 : upd k0 b3 (some (.cells c2)) b3 = some (.cells c2) := upd_same
 show SOps _ _ _ _ _ _ _ _ [b3, b2] (upd k0 b3 (some (.cells c2))) _
 generalize upd k0 b3 (some (.cells c2)) = k1 at ha e2 e3 ⊢
 have hbx : ∀ i ∈ [b3, b2], h i = none := fun i hi => by
  simp only [List.mem_cons, List.not_mem_nil, or_false] at hi
  rcases hi with rfl | rfl
  ·exact hh3
  ·exact hb2
 refine tV ?_
 (refine tG ?_; (with_reducible apply o_call); exact rfl; exact rfl; exact rfl; exact p14)
 refine tV ?_
 apply o_val rfl rfl trivial
 ((with_reducible apply o_nil); (with_reducible apply ssq_norm))
 (with_reducible apply s_condF)
 exact rfl
 (with_reducible apply s_skip)
 (with_reducible apply ssq_norm)
 (with_reducible apply s_seq)
 have hS : ∀ id ∈ [b2, b3], k1 id ≠ none := fun id hid => by
  simp only [List.mem_cons, List.not_mem_nil, or_false] at hid
  rcases hid with rfl | rfl
  ·rw [e2]; simp
  ·rw [e3]; simp
 have hhS : ∀ id ∈ [b2, b3], h id = none := fun id hid => by
  simp only [List.mem_cons, List.not_mem_nil, or_false] at hid
  rcases hid with rfl | rfl
  ·exact hb2
  ·exact hh3
 apply s_regX [b2, b3] [.B, .A, .B, .A, .D, .D] hS rfl
 apply x_ldB (v := .agg c1) rfl rfl (.p b2 0 c1 c1 e2 (sliceL_all rfl)) (.head _) (.many rfl hl1)
 refine x_A (R := fun E' bx' k => ∃ c, E' = (15, .agg c) :: _ ∧ bx' = [b3, b2] ∧ Ext (killL [b2, b3] k1) k ∧ ∃ m, RImg k c m ∧ m.WF ∧ Image.Small m ∧ m = m)
  (o_hcall rfl rfl rfl rfl (p15 (hc1 _) hw1) fun v k q => by
   obtain ⟨hx, c, m, rfl, hR, hw, hs⟩ := q
   exact o_nil ⟨rfl, c, rfl, rfl, hx, m, hR, hw, hs, rfl⟩) ?_
 rintro _ _ kA ⟨cA, rfl, rfl, hxA, mA, hRA, hwA, hsA, _⟩ hnA
 have eA2 := (join_at (h := k1) (h1 := kA) (S := [b2, b3]) (i := b2) (.head _)).trans e2
 have eA3 := (join_at (h := k1) (h1 := kA) (S := [b2, b3]) (i := b3) (.tail _ (.head _))).trans e3
 have hjA := ext_joinS (S := [b2, b3]) (h := k1) hnA
 have hhA : Ext h kA := (ha.kill hhS).trans hxA
 generalize joinS [b2, b3] k1 kA = kB at eA2 eA3 hjA ⊢
 apply x_ldB (v := .agg c2) rfl rfl (.p b3 0 c2 c2 eA3 (sliceL_all rfl)) (.tail _ (.head _)) (.many rfl hl2)
 refine x_A (R := fun E' bx' k => ∃ c, E' = (17, .agg c) :: _ ∧ bx' = [b3, b2] ∧ Ext (killL [b2, b3] kB) k ∧ ∃ m, RImg k c m ∧ m.WF ∧ Image.Small m ∧ m = m)
  (o_hcall rfl rfl rfl rfl (p15 (hc2 _) hw2) fun v k q => by
   obtain ⟨hx, c, m, rfl, hR, hw, hs⟩ := q
   exact o_nil ⟨rfl, c, rfl, rfl, hx, m, hR, hw, hs, rfl⟩) ?_
 rintro _ _ G ⟨cB, rfl, rfl, hxB, mB, hRB, hwB, hsB, _⟩ hnG
 have eB2 := (join_at (h := kB) (h1 := G) (S := [b2, b3]) (i := b2) (.head _)).trans eA2
 have eB3 := (join_at (h := kB) (h1 := G) (S := [b2, b3]) (i := b3) (.tail _ (.head _))).trans eA3
 have hjB := ext_joinS (S := [b2, b3]) (h := kB) hnG
 have hAG : Ext kA G := (hjA.kill hnA).trans hxB
 have hhG : Ext h G := hhA.trans hAG
 replace hRA := mono_I hRA hAG
 generalize joinS [b2, b3] kB G = kC at eB2 eB3 hjB ⊢
 have hG2 : G b2 = none := hnG b2 (.head _)
 have hG3 : G b3 = none := hnG b3 (.tail _ (.head _))
 clear hAG hhA hjA hxA hxB eA2 eA3 hnA e2 e3 hS
 have hlA : cA.length = 9 := by obtain ⟨_, _, _, _, _, _, _, rfl, _⟩ := hRA; rfl
 have hlB : cB.length = 9 := by obtain ⟨_, _, _, _, _, _, _, rfl, _⟩ := hRB; rfl
 refine x_D (R := fun E' bx' k => E' = _ ∧ bx' = [b3, b2] ∧ k = upd kC b2 (some (.cells cA))) (o_st (v := .agg cA) (cs' := cA) rfl rfl rfl rfl hlA hRA.one eB2 (splice_all (hl1.trans hlA.symm)) (o_nil ⟨rfl, rfl, rfl, rfl⟩)) ?_
 rintro _ _ _ ⟨rfl, rfl, rfl⟩
 replace hjB := ext_set (b := b2) (X := some (.cells cA)) hjB hG2
 replace eB3 : upd kC b2 (some (.cells cA)) b3 = _ := (upd_ne (Ne.symm hne)).trans eB3
 have eC2 : upd kC b2 (some (.cells cA)) b2 = some (.cells cA) := upd_same
 generalize upd kC b2 (some (.cells cA)) = kD at hjB eB3 eC2 ⊢
 refine ⟨fun id hid => by
  simp only [List.mem_cons, List.not_mem_nil, or_false] at hid
  rcases hid with rfl | rfl
  ·rw [eC2]; simp
  ·rw [eB3]; simp, ?_⟩
 refine x_D (R := fun E' bx' k => E' = _ ∧ bx' = [b3, b2] ∧ k = upd kD b3 (some (.cells cB))) (o_st (v := .agg cB) (cs' := cB) rfl rfl rfl rfl hlB hRB.one eB3 (splice_all (hl2.trans hlB.symm)) (o_nil ⟨rfl, rfl, rfl, rfl⟩)) ?_
 rintro _ _ _ ⟨rfl, rfl, rfl⟩
 replace hjB := ext_set (b := b3) (X := some (.cells cB)) hjB hG3
 have e2 : upd kD b3 (some (.cells cB)) b2 = _ := (upd_ne hne).trans eC2
 have e3 : upd kD b3 (some (.cells cB)) b3 = some (.cells cB) := upd_same
 generalize upd kD b3 (some (.cells cB)) = kE at hjB e2 e3 ⊢
 have hS : ∀ id ∈ [b2, b3], kE id ≠ none := fun id hid => by
  simp only [List.mem_cons, List.not_mem_nil, or_false] at hid
  rcases hid with rfl | rfl
  ·rw [e2]; simp
  ·rw [e3]; simp
 refine ⟨hS, ?_⟩
 apply x_nil
 clear eB2 eB3 eC2
 have hlbA := small_len hwA hsA
 have hlbB := small_len hwB hsB
 (with_reducible apply ssq_norm)
 (with_reducible apply s_seq)
 apply s_regX [b2, b3] [.B, .A, .B, .A, .A, .A] hS rfl
 apply x_ldB (v := .agg cA) rfl rfl (.p b2 0 cA cA e2 (sliceL_all rfl)) (.head _) (.many rfl hlA)
 refine x_A (R := fun E' bx' k => ∃ v, E' = (19, v) :: _ ∧ bx' = [b3, b2] ∧ OSl (killL [b2, b3] kE) 1 v (ubs (encode mA)) (encode mA).length k)
  (o_hcall rfl rfl rfl rfl (p16 (mono_I hRA (hjB.kill hnG)) hwA (by omega)) fun v k q => by
   rcases q with ⟨_, O⟩ | ⟨hb, _⟩
   ·exact o_nil ⟨rfl, v, rfl, rfl, O⟩
   ·unfold size at hb; omega) ?_
 rintro _ _ kF ⟨vA, rfl, rfl, OA⟩ hnF
 have eF2 := (join_at (h := kE) (h1 := kF) (S := [b2, b3]) (i := b2) (.head _)).trans e2
 have eF3 := (join_at (h := kE) (h1 := kF) (S := [b2, b3]) (i := b3) (.tail _ (.head _))).trans e3
 have hjF := ext_joinS (S := [b2, b3]) (h := kE) hnF
 have hGF : Ext G kF := (hjB.kill hnG).trans OA.ext
 generalize joinS [b2, b3] kE kF = kH at eF2 eF3 hjF ⊢
 apply x_ldB (v := .agg cB) rfl rfl (.p b3 0 cB cB eF3 (sliceL_all rfl)) (.tail _ (.head _)) (.many rfl hlB)
 refine x_A (R := fun E' bx' k => ∃ v, E' = (21, v) :: _ ∧ bx' = [b3, b2] ∧ OSl (killL [b2, b3] kH) 1 v (ubs (encode mB)) (encode mB).length k)
  (o_hcall rfl rfl rfl rfl (p16 (mono_I hRB (hGF.trans (hjF.kill hnF))) hwB (by omega)) fun v k q => by
   rcases q with ⟨_, O⟩ | ⟨hb, _⟩
   ·exact o_nil ⟨rfl, v, rfl, rfl, O⟩
   ·unfold size at hb; omega) ?_
 rintro _ _ kI ⟨vB, rfl, rfl, OB⟩ hnI
 have e2' := (join_at (h := kH) (h1 := kI) (S := [b2, b3]) (i := b2) (.head _)).trans eF2
 have e3' := (join_at (h := kH) (h1 := kI) (S := [b2, b3]) (i := b3) (.tail _ (.head _))).trans eF3
 have hjI := ext_joinS (S := [b2, b3]) (h := kH) hnI
 have hFI : Ext kF kI := (hjF.kill hnF).trans OB.ext
 have hvA := (OA.view.mono hFI).mono hjI
 have hvB := OB.view.mono hjI
 have hGK := (hGF.trans hFI).trans hjI
 generalize joinS [b2, b3] kH kI = kk at e2' e3' hjI hvA hvB hGK ⊢
 apply x_v rfl rfl trivial
 apply x_v rfl rfl trivial
 apply x_nil
 replace hRA := mono_I hRA hGK
 replace hRB := mono_I hRB hGK
 have hhK := hhG.trans hGK
 clear hGF hFI hjF hjI hjB OA OB eF2 eF3 hnF hnI hGK hS e2 e3 hnG hhG hG2 hG3
 refine tV ?_
 apply o_hcall rfl rfl rfl rfl (p17 hvA (by rw [encode_len]; unfold size; omega))
 intro vd kd hd
 obtain ⟨hx, cD, rfl, hRD⟩ := dec_of hd (dec_enc hwA hsA)
 clear hd
 replace e2' := hx _ _ e2'
 replace e3' := hx _ _ e3'
 replace hRA := mono_I hRA hx
 replace hRB := mono_I hRB hx
 replace hvA := hvA.mono hx
 replace hvB := hvB.mono hx
 replace hhK := hhK.trans hx
 clear hx
 refine tW ?_
 apply o_alc rfl
 intro b8 hn
 have hlD : cD.length = 9 := by obtain ⟨_, _, _, _, _, _, _, rfl, _⟩ := hRD; rfl
 apply o_st (v := .agg cD) (cs := [.nil .sl, .nil .sl, I 0, I 0, .nil .sl, .nil .sl, .nil .sl, .nil .sl, .nil .sl]) (cs' := cD) rfl rfl rfl rfl hlD hRD.one upd_same (splice_all hlD.symm)
 rw [upd_upd]
 have hx : Ext kd (upd kd b8 (some (.cells cD))) := .upd hn
 have e8 : upd kd b8 (some (.cells cD)) b8 = some (.cells cD) := upd_same
 have hh8 : h b8 = none := by
  cases e : h b8 with
  | none => rfl
  | some o => rw [hhK _ _ e] at hn; cases hn
 generalize upd kd b8 (some (.cells cD)) = ke at hx e8 ⊢
 replace e2' := hx _ _ e2'
 replace e3' := hx _ _ e3'
 replace hRA := mono_I hRA hx
 replace hRB := mono_I hRB hx
 replace hRD := mono_I hRD hx
 replace hvA := hvA.mono hx
 replace hvB := hvB.mono hx
 replace hhK := hhK.trans hx
 clear hx
 refine tV ?_
 apply o_ldhn (l := cA) rfl rfl e2' (fun h => by omega) (sliceL_all hlA)
 refine tV ?_
 apply o_ldhn (l := cB) rfl rfl e3' (fun h => by omega) (sliceL_all hlB)
 refine tV ?_
 apply o_hcall rfl rfl rfl rfl (p18 hRA hRB hwA hwB).go
 rintro _ k18 ⟨rfl, hx⟩
 replace e2' := hx _ _ e2'
 replace e3' := hx _ _ e3'
 replace e8 := hx _ _ e8
 replace hRA := mono_I hRA hx
 replace hRB := mono_I hRB hx
 replace hRD := mono_I hRD hx
 replace hvA := hvA.mono hx
 replace hvB := hvB.mono hx
 replace hhK := hhK.trans hx
 clear hx
 refine tV ?_
 apply o_ldhn (l := cA) rfl rfl e2' (fun h => by omega) (sliceL_all hlA)
 refine tV ?_
 apply o_ldhn (l := cB) rfl rfl e3' (fun h => by omega) (sliceL_all hlB)
 refine tV ?_
 apply o_hcall rfl rfl rfl rfl (p19 hRA hRB hwA hwB).go
 rintro _ k19 ⟨rfl, hx⟩
 replace e2' := hx _ _ e2'
 replace e3' := hx _ _ e3'
 replace e8 := hx _ _ e8
 replace hRA := mono_I hRA hx
 replace hRB := mono_I hRB hx
 replace hRD := mono_I hRD hx
 replace hvA := hvA.mono hx
 replace hvB := hvB.mono hx
 replace hhK := hhK.trans hx
 clear hx
 refine tV ?_
 refine oB fun b hb => ?_
 obtain rfl : b = true := by rw [hb]; simp
 refine tV ?_
 apply o_ldhn (l := cA) rfl rfl e2' (fun h => by omega) (sliceL_all hlA)
 refine tV ?_
 apply o_ldhn (l := cA) rfl rfl e2' (fun h => by omega) (sliceL_all hlA)
 refine tV ?_
 apply o_hcall rfl rfl rfl rfl (p19 hRA hRA hwA hwA).go
 rintro _ k20 ⟨rfl, hx⟩
 replace e2' := hx _ _ e2'
 replace e3' := hx _ _ e3'
 replace e8 := hx _ _ e8
 replace hRA := mono_I hRA hx
 replace hRB := mono_I hRB hx
 replace hRD := mono_I hRD hx
 replace hvA := hvA.mono hx
 replace hvB := hvB.mono hx
 replace hhK := hhK.trans hx
 clear hx
 rw [decide_eq_true (rfl : mA = mA)]
 refine tV ?_
 refine oB fun b hb => ?_
 obtain rfl : b = true := by rw [hb]; rfl
 refine tV ?_
 apply o_ldhn (l := cD) rfl rfl e8 (fun h => by omega) (sliceL_all hlD)
 refine tV ?_
 apply o_ldhn (l := cA) rfl rfl e2' (fun h => by omega) (sliceL_all hlA)
 refine tV ?_
 apply o_hcall rfl rfl rfl rfl (p18 hRD hRA hwA hwA).go
 rintro _ k21 ⟨rfl, hx⟩
 replace e2' := hx _ _ e2'
 replace e3' := hx _ _ e3'
 replace e8 := hx _ _ e8
 replace hRA := mono_I hRA hx
 replace hRB := mono_I hRB hx
 replace hRD := mono_I hRD hx
 replace hvA := hvA.mono hx
 replace hvB := hvB.mono hx
 replace hhK := hhK.trans hx
 clear hx
 rw [decide_eq_true (rfl : mA = mA)]
 refine tV ?_
 apply o_b2sV rfl rfl hvA (fun h => by omega)
 refine tV ?_
 apply o_b2sV rfl rfl hvB (fun h => by omega)
 refine tV ?_
 apply o_as (w := .bool (decide (encode mA = encode mB))) rfl rfl trivial (by
  by_cases e : encode mA = encode mB
  ·simp [e]
  ·simp [e])
 rw [enc_eq_iff hwA hwB hsA hsB]
 refine tV ?_
 refine oB fun b hb => ?_
 obtain rfl : b = true := by rw [hb]; simp
 refine tW ?_
 (first | apply lret_ret | apply lret_norm)
 ·exact rfl
 ·exact rfl
 ·exact rfl
 ·exact hhK
 ·intro i hi
  rcases List.mem_cons.1 hi with rfl | hi
  ·exact hh8
  ·exact hbx i hi
theorem tree_sl {s n : Nat} {v : AV} {cs : List AV} (H : ∀ h, VSl h s v cs n) : (v = .nil .sl ∧ cs = [] ∧ n = 0) ∨ (v = .tsl cs n ∧ cs.length = n * s) := by
 have H := H (fun _ => none)
 cases H with
 | nil => exact .inl ⟨rfl, rfl, rfl⟩
 | tsl _ _ hl => exact .inr ⟨rfl, hl⟩
 | sl id _ _ os _ hid _ => cases hid
theorem burst_dec {m : Image} {cur : B} {a e : Nat} (hw : m.WF) (hs : Image.Small m) (hl : cur.length = (encode m).length) (ha : a ≤ 8 * (encode m).length) (he : e < 2 ^ 32) (h : WN cur = WN (encode m) ^^^ (2 ^ a * e)) : (Img.decode cur).isSome = !decide (e ≠ 0) := by
 by_cases e0 : e = 0
 ·subst e0
  rw [Nat.mul_zero, Nat.xor_zero] at h
  have : cur = encode m := WN_inj hl h
  rw [this, dec_enc hw hs]
  rfl
 ·cases hd : Img.decode cur with
  | none => simp [e0]
  | some n =>
   obtain ⟨h1, _⟩ := decode_some hd
   exfalso
   refine e0 (burst (x := front m) (y := front n) (at' := a) ?_ he ha ?_)
   ·show (encode m).length = (encode n).length
    rw [h1, hl]
   ·show WN (encode n) = WN (encode m) ^^^ _
    rw [h1, h]
theorem xor8 (a b : UInt8) : AV.int .u8 (IntKind.wrap .u8 ((BitVec.ofInt (IntKind.bits .u8) (a.toNat : Int) ^^^ BitVec.ofInt (IntKind.bits .u8) (b.toNat : Int)).toNat)) = ub (a ^^^ b) := by
 show AV.int .u8 (IntKind.wrap .u8 ((BitVec.ofInt 8 (a.toNat : Int) ^^^ BitVec.ofInt 8 (b.toNat : Int)).toNat)) = AV.int .u8 ((a ^^^ b).toNat : Int)
 have e : ∀ x : Nat, BitVec.ofInt 8 (x : Int) = BitVec.ofNat 8 x := fun x => BitVec.ofInt_natCast ..
 have ha := a.toNat_lt
 have hb := b.toNat_lt
 rw [e, e, BitVec.toNat_xor, BitVec.toNat_ofNat, BitVec.toNat_ofNat, Nat.mod_eq_of_lt ha, Nat.mod_eq_of_lt hb, UInt8.toNat_xor]
 have h : a.toNat ^^^ b.toNat < 2 ^ 8 := Nat.xor_lt_two_pow ha hb
 congr 1
 simp only [IntKind.wrap, IntKind.bits, IntKind.signed]
 simp
 omega
theorem p21e {h : Heap} {v : AV} {bs : B} (hv : ∀ h, VSl h 1 v (ubs bs) bs.length) (hl : bs.length ≤ 9223372036854775807) : HCallC Tryz.prog ann 21 [v, I 80] h fun w h' => Ext h h' ∧ ∀ h, VSl h 1 w (ubs (bs.take 80)) (bs.take 80).length := by
 have fin : ∀ (w : AV), (∀ h, VSl h 1 w (ubs (bs.take 80)) (bs.take 80).length) → ∀ (E : Env), lk E 4 = some w → hretx Tryz.prog ann 21 [.tmp 4] h (fun w h' => Ext h h' ∧ ∀ h, VSl h 1 w (ubs (bs.take 80)) (bs.take 80).length) .ret E [] h := fun w hw E e => hx_ret (vs := [w]) (by simp only [resE, e]) rfl (by rw [killL_nil]; exact ⟨.refl, hw⟩) (fun _ => .inl ⟨.refl, hw⟩)
 refine s_call_x rfl Tryz.func21 (frc (by with_unfolding_all rfl)) rfl ?_
 refine tV ?_
 apply o_lenV rfl rfl (hv h)
 refine tV ?_
 refine oI (80 < bs.length) (fun H => ?_) (fun H => ?_)
 ·refine tV ?_
  rcases tree_sl hv with ⟨_, _, h0⟩ | ⟨rfl, hln⟩
  ·omega
  apply o_val (p := (0 : Int) ≤ 0 ∧ (0 : Int) ≤ 80 ∧ (80 : Int) ≤ bs.length) (v := .tsl ((ubs bs).take 80) 80) rfl rfl ⟨by omega, by omega, by omega⟩
  refine tW ?_
  refine fin _ (fun h => ?_) _ rfl
  have e : (bs.take 80).length = 80 := by rw [List.length_take]; omega
  have e2 : ubs (bs.take 80) = (ubs bs).take 80 := by unfold ubs; rw [List.map_take]
  rw [e, e2]
  exact .tsl _ _ (by rw [List.length_take]; simp [ubs]; omega)
 ·refine tW ?_
  exact fin _ (by rw [List.take_of_length_le (by omega)]; exact hv) _ rfl
theorem load_turned {j : Nat} (hj : j < (encode small).length) (x : UInt8) : (loadOf ((encode small).set j ((encode small)[j] ^^^ x)) 0).1 = if x = 0 then 0 else 6 := by
 have h8 : WN ((encode small).set j ((encode small)[j] ^^^ x)) = WN (encode small) ^^^ (2 ^ (8 * j) * x.toNat) := by
  rw [WN_set hj, show (256 : Nat) ^ j = 2 ^ (8 * j) by rw [Nat.pow_mul]]
 by_cases hx : x = 0
 ·subst hx
  have e : (encode small).set j ((encode small)[j] ^^^ 0) = encode small := by
   rw [UInt8.xor_zero]
   exact List.set_getElem_self hj
  rw [e, load_small (by omega)]
  rfl
 ·have hb := burst_dec (e := x.toNat) small_WF small_Small (by rw [List.length_set]) (by omega) (by have := x.toNat_lt; omega) h8
  rw [if_neg hx]
  unfold loadOf
  cases hd : Img.decode ((encode small).set j ((encode small)[j] ^^^ x)) with
  | none => rfl
  | some m =>
   rw [hd] at hb
   have : x.toNat ≠ 0 := fun e => hx (by exact UInt8.toNat_inj.1 (by rw [e]; rfl))
   simp [this] at hb
theorem p12 {h : Heap} {v0 : AV} {bs0 : B} {base at' : Int} {x : UInt8} (hv0 : ∀ h, VSl h 1 v0 (ubs bs0) bs0.length) (hl0 : bs0.length ≤ 9223372036854775807) (hat0 : I64 at') : HCallC Tryz.prog ann 12 [v0, I base, I at', ub x] h fun v h' => v = .bool true ∧ Ext h h' := by
 refine (show Looks _ _ _ _ _ _ from ?_).go
 have hat := hat0
 unfold I64 at hat
 refine s_look_of rfl Tryz.func12 (frc (by with_unfolding_all rfl)) rfl ?_
 refine tA ?_
 (refine tG ?_; (with_reducible apply o_call); exact rfl; exact rfl; exact rfl; exact p28)
 refine tA ?_
 apply o_as (w := .bool false) rfl rfl trivial rfl
 refine tA ?_
 show SOps _ _ _ _ _ _ _ _ _ (hset h []) _
 apply o_callL dis_nil rfl rfl rfl rfl (p21e hv0 hl0)
 rintro v k1 ⟨hx, hv⟩ hD
 have hl : (bs0.take 80).length ≤ 9223372036854775807 := by rw [List.length_take]; omega
 generalize bs0.take 80 = bs at hv hl
 refine tA ?_
 apply o_callL hD rfl rfl rfl rfl (p29 (a := base) (hv _) hl)
 rintro _ k2 ⟨hx1, c, rfl, hR⟩ hD
 replace hx := hx.trans hx1
 clear hx1
 obtain ⟨E, hE⟩ : ∃ E, (loadOf bs base).1 = E := ⟨_, rfl⟩
 obtain ⟨B, hB⟩ : ∃ B, (loadOf bs base).2.2 = B := ⟨_, rfl⟩
 rw [hE, hB]
 have hone := hR.one
 obtain ⟨vc, vm, vg, vw, vr, vs, vf, rfl, _⟩ := hR
 refine tA ?_
 apply o_alcL hD rfl
 intro b10 hD
 apply o_stL (v := .agg [vc, vm, I _, I _, vg, vw, vr, vs, vf, I B]) (cs' := [vc, vm, I _, I _, vg, vw, vr, vs, vf, I B]) 0 hD rfl rfl rfl rfl rfl rfl (ones_app hone) (splice_full rfl)
 intro hD
 clear hone hB
 refine tA ?_
 apply o_callL hD rfl rfl rfl rfl (p17 (hv _) hl)
 rintro _ k3 ⟨hx1, c, e, m, rfl, hR, hw, hcase⟩ hD
 replace hx := hx.trans hx1
 clear hx1
 have hR0 := hR
 obtain ⟨wc, wm, wg, ww, wr, ws, wf, rfl, _⟩ := hR0
 refine tA ?_
 apply o_alcL hD rfl
 intro b12 hD
 apply o_stL (v := .agg [wc, wm, I _, I _, wg, ww, wr, ws, wf]) (cs' := [wc, wm, I _, I _, wg, ww, wr, ws, wf]) 0 hD rfl rfl rfl rfl rfl rfl hR.one (splice_full rfl)
 intro hD
 refine tv ?_
 refine tv ?_
 refine tv ?_
 refine s_joinB (σ := Heap × List (Nat × AObj)) (fun _ => [(2, I at'), (3, ub x), (11, I E), (13, I E)]) (fun s => s.2.map Prod.fst) (fun s h' => h' = hset s.1 s.2 ∧ Dis s.1 s.2 ∧ Ext h s.1) ?_ ?_
 ·have tell : ∀ (k : Heap) (L : List (Nat × AObj)) (F : Env), Dis k L → Ext h k → lk F 2 = some (I at') → lk F 3 = some (ub x) → lk F 11 = some (I E) → lk F 13 = some (I E) → ∃ s : Heap × List (Nat × AObj), Sub [(2, I at'), (3, ub x), (11, I E), (13, I E)] F ∧ L.map Prod.fst = s.2.map Prod.fst ∧ hset k L = hset s.1 s.2 ∧ Dis s.1 s.2 ∧ Ext h s.1 :=
   fun k L F hD hx e1 e2 e3 e4 => ⟨(k, L), sub_cons e1 (sub_cons e2 (sub_cons e3 (sub_cons e4 sub_nil))), rfl, rfl, hD, hx⟩
  rcases hcase with ⟨rfl, hd⟩ | ⟨rfl, hd, rfl⟩
  rotate_left
  ·have e : loadOf bs base = (6, noImage, 0) := by unfold loadOf; rw [hd]
   rw [e] at hE
   obtain rfl : E = 6 := hE.symm
   refine tW ?_
   refine tell _ [_, _] _ hD hx ?_ ?_ ?_ ?_ <;> rfl
  refine tW ?_
  apply o_ldnL 0 hD rfl rfl rfl rfl rfl
  apply o_callL hD rfl rfl rfl rfl (p26 hR hw).go
  rintro _ k4 ⟨rfl, hx1⟩ hD
  replace hx := hx.trans hx1
  by_cases hV : ValidP m
  rotate_left
  ·have e : loadOf bs base = (1, noImage, 0) := by unfold loadOf; rw [hd]; simp only [if_neg hV]
   rw [e] at hE
   obtain rfl : E = 1 := hE.symm
   rw [BP_false hV]
   refine tW ?_
   refine tell _ [_, _] _ hD hx ?_ ?_ ?_ ?_ <;> rfl
  rw [BP_true hV]
  refine tW ?_
  refine oI (base < 0) (fun H1 => ?_) (fun H1 => ?_)
  ·have e : loadOf bs base = (9, noImage, 0) := by unfold loadOf; rw [hd]; simp only [if_pos hV]; rw [if_neg (by omega)]
   rw [e] at hE
   obtain rfl : E = 9 := hE.symm
   refine tW ?_
   refine tell _ [_, _] _ hD hx ?_ ?_ ?_ ?_ <;> rfl
  refine tA ?_
  refine oI (1048576 < base) (fun H2 => ?_) (fun H2 => ?_)
  ·have e : loadOf bs base = (9, noImage, 0) := by unfold loadOf; rw [hd]; simp only [if_pos hV]; rw [if_neg (by omega)]
   rw [e] at hE
   obtain rfl : E = 9 := hE.symm
   refine tW ?_
   refine tell _ [_, _] _ hD hx ?_ ?_ ?_ ?_ <;> rfl
  ·have e : loadOf bs base = (0, mvd 0 base m, base) := by unfold loadOf; rw [hd]; simp only [if_pos hV]; rw [if_pos (by omega)]
   rw [e] at hE
   obtain rfl : E = 0 := hE.symm
   refine tW ?_
   refine tell _ [_, _] _ hD hx ?_ ?_ ?_ ?_ <;> rfl
 clear hcase hw hR hD hx hE
 rintro ⟨k4, L⟩ _ ⟨rfl, hD, hx⟩
 simp only at hD hx ⊢
 refine tA ?_
 apply o_callL hD rfl rfl rfl rfl p27
 rintro _ k5 ⟨hx1, c, rfl, hM⟩ hD
 replace hx := hx.trans hx1
 apply o_callL hD rfl rfl rfl rfl (p16v hM small_WF small_body)
 rintro w k6 O hD
 have hlen : (encode small).length ≤ 60000 := by rw [encode_len]; have := small_body; unfold size; omega
 have hpos : 0 < (encode small).length := by rw [encode_len]; unfold size; omega
 obtain ⟨ib, rfl, n0, gb, _⟩ := own_pos O hpos
 have hx0 := hx
 replace hx := hx.trans O.ext
 clear hx1 hM O
 have nh : h ib = none := by
  cases e : h ib with
  | none => rfl
  | some o => rw [hx0 _ _ e] at n0; cases n0
 clear n0 hx0
 obtain ⟨n, hn⟩ : ∃ n, (encode small).length = n := ⟨_, rfl⟩
 rw [hn] at hlen hpos ⊢
 refine tA ?_
 refine oI (at' < 0) (fun H1 => ?_) (fun H1 => ?_)
 ·refine tA ?_
  apply o_as (w := .bool true) rfl rfl trivial (by simp)
  refine tA ?_
  apply o_as (w := .bool true) rfl rfl trivial (by simp; omega)
  refine tA ?_
  exact lret_ret (vs := [.bool true]) rfl rfl rfl (hx.trans (ext_hsetD hD)) (ids_none hD hx)
 refine tA ?_
 apply o_as (w := .bool false) rfl rfl trivial (by simp; omega)
 refine tA ?_
 obtain ⟨a, rfl⟩ := Int.eq_ofNat_of_zero_le (show 0 ≤ at' by omega)
 (refine tG ?_; (with_reducible apply o_remN (a := a) (b := n)); exact rfl; exact rfl; exact rfl; omega)
 have hj : a % n < n := Nat.mod_lt _ hpos
 generalize a % n = j at hj ⊢
 have hj2 : j < (encode small).length := by omega
 have hc : (ubs (encode small))[j]? = some (ub (encode small)[j]) := by simp [ubs, hj2]
 have gb' := (ext_hsetD hD) _ _ gb
 apply o_as (w := .ptr ib j) rfl rfl ⟨rfl, by omega, by omega⟩ (by simp)
 apply o_ldh rfl rfl gb' (fun h => by omega) hc
 refine tA ?_
 apply o_as (w := ub ((encode small)[j] ^^^ x)) rfl rfl trivial (xor8 _ _)
 apply o_as (w := .ptr ib j) rfl rfl ⟨rfl, by omega, by omega⟩ (by simp)
 apply o_st1 rfl rfl rfl rfl rfl gb' (by simpa [ubs] using hj2)
 obtain ⟨e1, e2⟩ := own_up (o := .cells ((ubs (encode small)).set j (ub ((encode small)[j] ^^^ x)))) hD (show k6 ib ≠ none by rw [gb]; simp)
 rw [e1]
 have hK : Ext h (upd k6 ib (some (.cells ((ubs (encode small)).set j (ub ((encode small)[j] ^^^ x)))))) := fun id o e => by
  rw [upd_ne fun e' => by rw [e', nh] at e; cases e]
  exact hx _ _ e
 have hcur : (ubs (encode small)).set j (ub ((encode small)[j] ^^^ x)) = ubs ((encode small).set j ((encode small)[j] ^^^ x)) := by unfold ubs; rw [List.map_set]
 have gK : upd k6 ib (some (.cells ((ubs (encode small)).set j (ub ((encode small)[j] ^^^ x))))) ib = some (.cells (ubs ((encode small).set j ((encode small)[j] ^^^ x)))) := by rw [← hcur]; exact upd_same
 have hlt := load_turned hj2 x
 generalize upd k6 ib (some (.cells ((ubs (encode small)).set j (ub ((encode small)[j] ^^^ x))))) = K at hK gK e2 ⊢
 clear e1 hx hD gb gb' hc hcur
 have hcl : ((encode small).set j ((encode small)[j] ^^^ x)).length = n := by rw [List.length_set, hn]
 generalize (encode small).set j ((encode small)[j] ^^^ x) = cur at gK hlt hcl
 have hv : VSl K 1 (.sl ib 0 n 1) (ubs cur) cur.length := by rw [hcl]; exact .sl ib 0 n _ _ gK (sliceL_all (by simp [ubs, hcl]))
 refine tA ?_
 apply o_callL e2 rfl rfl rfl rfl (p29 (a := 0) hv (by omega))
 rintro _ k7 ⟨hx1, c, rfl, hR⟩ hD
 have hx := hK.trans hx1
 rw [hlt]
 obtain ⟨B, hB⟩ : ∃ B, (loadOf cur 0).2.2 = B := ⟨_, rfl⟩
 rw [hB]
 have hone := hR.one
 obtain ⟨vc, vm, vg, vw, vr, vs, vf, rfl, _⟩ := hR
 refine tA ?_
 apply o_alcL hD rfl
 intro b15 hD
 apply o_stL (v := .agg [vc, vm, I _, I _, vg, vw, vr, vs, vf, I B]) (cs' := [vc, vm, I _, I _, vg, vw, vr, vs, vf, I B]) 0 hD rfl rfl rfl rfl rfl rfl (ones_app hone) (splice_full rfl)
 intro hD
 refine tA ?_
 apply o_as (w := .bool true) rfl rfl trivial (by simp)
 refine tA ?_
 by_cases hx0 : x = 0
 ·subst hx0
  apply o_as (w := .bool true) rfl rfl trivial rfl
  refine tA ?_
  apply o_as (w := .bool true) rfl rfl trivial rfl
  refine tW ?_
  exact lret_ret (vs := [.bool true]) rfl rfl rfl (hx.trans (ext_hsetD hD)) (ids_none (L := (_, _) :: L) hD hx)
 ·rw [if_neg hx0]
  have h0 : ¬ (x.toNat : Int) = 0 := fun e => hx0 (UInt8.toNat_inj.1 (by simpa using e))
  apply o_as (w := .bool false) rfl rfl trivial rfl
  refine tA ?_
  apply o_as (w := .bool false) rfl rfl trivial (by simpa using h0)
  refine tW ?_
  exact lret_ret (vs := [.bool true]) rfl rfl rfl (hx.trans (ext_hsetD hD)) (ids_none (L := (_, _) :: L) hD hx)
end Go.Proofs
end
section
open Go Go.Abs Go.Img
namespace Go.Proofs
set_option maxRecDepth 100000
theorem wf_i64 {n : Int} (h : (Lit.int .i64 n).wf = true) : I64 n := by
 simp [Lit.wf, IntKind.min, IntKind.max, IntKind.bits, IntKind.signed] at h
 unfold I64
 omega
theorem tyv_c {P : Program} {k : Nat} {t e : TypeId} {a : AV} (ht : P.underlying t = some (.slice e)) (h : TyV P k t a) : TyC P k t [a] := by
 unfold TyV at h
 rw [ht] at h
 exact h
theorem im_u8 {k : Nat} {l : List AV} (h : TyC Tryz.prog (k + 1) 5 l) : ∃ a : UInt8, (∀ h : Heap, RU h l a) ∧ True := by
 obtain ⟨n, rfl, hw⟩ := tyc_int (i := .u8) (by kernel_rfl) h
 refine ⟨UInt8.ofNat n.toNat, fun _ => ?_, trivial⟩
 simp [Lit.wf, IntKind.min, IntKind.max, IntKind.bits, IntKind.signed] at hw
 show [AV.int .u8 n] = [AV.int .u8 ((UInt8.ofNat n.toNat).toNat : Int)]
 congr 2
 simp
 omega
theorem ty_bytes {v : AV} (h : TyV Tryz.prog 6 31 v) : ∃ bs : B, (∀ h, VSl h 1 v (ubs bs) bs.length) ∧ bs.length ≤ 9223372036854775807 := by
 obtain ⟨w, x, e, hx, hl, _⟩ := tyc_list (k := 5) (e := 5) (s := 1) (R := RU) (W := fun _ => True) (by kernel_rfl) (by kernel_rfl) (fun l _ h => im_u8 h) (tyv_c (e := 5) (by kernel_rfl) h)
 obtain rfl := (List.cons.inj e).1
 exact ⟨x, fun h => (hx h).ubs, hl⟩
theorem extok : ExtOK Tryz.prog SlimCode.ann := by
 intro f e h
 cases h
end Go.Proofs
end
section
open Go Go.Abs Go.Proofs.SlimCode Go.Img
namespace Go.Proofs
set_option maxRecDepth 100000
theorem run_of_h {A : Ann} {P : Program} {f : Nat} {vs : List AV} {Q : Heap → Prop} (h : HCallC P A f vs (fun _ => none) fun v h' => v = .bool true ∧ Q h') : ∃ n h' n' lg, callN P A n f vs (fun _ => none) 0 = some (.bool true, h', n', lg) := by
 obtain ⟨k, v, h', n', lg, e, rfl, _⟩ := h 0 (fun _ _ => rfl)
 exact ⟨k, h', n', lg, e⟩
theorem law_run (ps : List AV) (h : TyVs Tryz.prog 6 Tryz.f12.params.toList ps) : ∃ n h' n' lg, callN Tryz.prog ann n 12 ps (fun _ => none) 0 = some (.bool true, h', n', lg) := by
 obtain ⟨a, _, rfl, ha, b, _, rfl, hb, c, _, rfl, hc, d, _, rfl, hd, rfl⟩ := h
 obtain ⟨bs, hv, hl⟩ := ty_bytes ha
 obtain ⟨base, rfl, _⟩ := ty_int (i := .i64) (by kernel_rfl) hb
 obtain ⟨at', rfl, ht⟩ := ty_int (i := .i64) (by kernel_rfl) hc
 obtain ⟨x, rfl, hx⟩ := ty_int (i := .u8) (by kernel_rfl) hd
 obtain ⟨u, rfl⟩ : ∃ u : UInt8, x = (u.toNat : Int) := by
  simp [Lit.wf, IntKind.min, IntKind.max, IntKind.bits, IntKind.signed] at hx
  refine ⟨UInt8.ofNat x.toNat, ?_⟩
  simp
  omega
 exact run_of_h (p12 hv hl (wf_i64 ht))
end Go.Proofs
end
