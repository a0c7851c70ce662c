import Derived.Test.YtmnnmgfjlokmkaaGreatAbsTac
import Derived.Test.YtmnnmgfjlokmkaaGreatImSum
open Go Go.Abs Go.Proofs.SlimCode Go.Img
set_option maxRecDepth 100000
namespace Go.Proofs
theorem p49 {h : Heap} {v : AV} {bs : B} (hv : VSl h 1 v (ubs bs) bs.length) (hl : bs.length ≤ 9223372036854775807) : Looks Tryz.prog ann 49 [v] h (.int .u32 (crc bs : Int)) := by
 refine s_look_of rfl Tryz.func49 (frc (by with_unfolding_all rfl)) rfl ?_
 refine tV ?_
 apply o_hcall rfl rfl rfl rfl (p103 hv hl).go
 rintro _ h1 ⟨rfl, hx⟩
 refine tW ?_
 (first | apply lret_ret | apply lret_norm)
 ·exact rfl
 ·exact rfl
 ·exact rfl
 ·exact hx
 ·simp
def turnL (a b c d : UInt8) : Nat → List AV
 | 0 => [ub a, ub b, ub c, ub d]
 | 1 => [ub d, ub b, ub c, ub a]
 | _ => [ub d, ub c, ub b, ub a]
theorem upd_self {h : Heap} {i : Nat} {o : AObj} (hi : h i = some o) : upd h i (some o) = h := by
 funext j
 unfold upd
 split
 ·rename_i e; rw [e, hi]
 ·rfl
theorem p50 {h : Heap} {i : Nat} {a b c d : UInt8} (hi : h i = some (.cells [ub a, ub b, ub c, ub d])) : HCallC Tryz.prog ann 50 [.sl i 0 4 1] h fun v h' => v = .tup [] ∧ h' = upd h i (some (.cells [ub d, ub c, ub b, ub a])) := by
 refine s_call_x rfl Tryz.func50 (frc (by with_unfolding_all rfl)) rfl ?_
 refine tV ?_
 refine tw ?_
 refine tV ?_
 refine s_loop (fun k : Nat => [(0, .sl i 0 4 1), (2, .int .i64 (k : Int)), (3, .int .i64 ((3 - k : Nat) : Int))]) (fun k h' => k ≤ 2 ∧ h' = upd h i (some (.cells (turnL a b c d k)))) (fun k => 3 - k) 0
  tU ⟨by omega, (upd_self hi).symm⟩ ?_
 rintro k h' ⟨hk, rfl⟩
 obtain rfl | rfl | rfl : k = 0 ∨ k = 1 ∨ k = 2 := by omega
 ·refine tW ?_
  apply o_val rfl rfl ⟨rfl, by decide, by decide⟩
  apply o_ldh rfl rfl upd_same (fun _ => by rw [upd_same]; simp) rfl
  refine tV ?_
  apply o_val rfl rfl ⟨rfl, by decide, by decide⟩
  apply o_ldh rfl rfl upd_same (fun _ => by rw [upd_same]; simp) rfl
  apply o_val rfl rfl ⟨rfl, by decide, by decide⟩
  apply o_st1 rfl rfl rfl rfl rfl upd_same (show (0 : Nat) < 4 by decide)
  apply o_val rfl rfl ⟨rfl, by decide, by decide⟩
  apply o_st1 rfl rfl rfl rfl rfl upd_same (show (3 : Nat) < 4 by decide)
  refine tW ?_
  rw [upd_upd, upd_upd]
  exact ⟨1, by decide, tU, rfl, by decide, rfl⟩
 ·refine tW ?_
  apply o_val rfl rfl ⟨rfl, by decide, by decide⟩
  apply o_ldh rfl rfl upd_same (fun _ => by rw [upd_same]; simp) rfl
  refine tV ?_
  apply o_val rfl rfl ⟨rfl, by decide, by decide⟩
  apply o_ldh rfl rfl upd_same (fun _ => by rw [upd_same]; simp) rfl
  apply o_val rfl rfl ⟨rfl, by decide, by decide⟩
  apply o_st1 rfl rfl rfl rfl rfl upd_same (show (1 : Nat) < 4 by decide)
  apply o_val rfl rfl ⟨rfl, by decide, by decide⟩
  apply o_st1 rfl rfl rfl rfl rfl upd_same (show (2 : Nat) < 4 by decide)
  refine tW ?_
  rw [upd_upd, upd_upd]
  exact ⟨2, by decide, tU, rfl, by decide, rfl⟩
 ·refine tW ?_
  (first | apply hx_ret | apply hx_norm)
  ·exact (rfl : resE _ [] = some [])
  ·exact rfl
  ·rw [killL_nil]
   exact ⟨rfl, rfl⟩
  ·intro _
   by_cases e : AObj.cells (turnL a b c d 2) = .cells [ub a, ub b, ub c, ub d]
   ·left
    refine ⟨rfl, ?_⟩
    show h = upd h i (some (.cells (turnL a b c d 2)))
    rw [e, upd_self hi]
   ·right
    refine ⟨i, by rw [hi]; simp, ?_⟩
    rw [upd_same, hi]
    intro e'
    exact e (Option.some.inj e')
theorem p37 {g h : Heap} {c : List AV} {x : Cls} (hc : RCls g c x) (hn : x.name.length ≤ 1048576) : Looks Tryz.prog ann 37 [.agg c] h (.bool false) := by
 have hone := hc.one
 obtain ⟨vr, vs, vt, vf, rfl, v1, v2, v3, v4⟩ := hc
 refine s_look_of rfl Tryz.func37 (frc (by with_unfolding_all rfl)) rfl ?_
 refine tS ?_
 apply o_val rfl rfl hone
 refine tV ?_
 (refine tG ?_; refine oB fun b hb => ?_)
 have : b = false := by rw [hb]; simp; omega
 subst this
 refine tW ?_
 (first | apply lret_ret | apply lret_norm)
 ·exact rfl
 ·exact rfl
 ·exact rfl
 ·exact .refl
 ·simp
theorem p94 {h : Heap} {v : AV} {l : List Cls} (hv : Sl RCls 10 h v l) (hl : l.length ≤ 9223372036854775807) (hn : ∀ x ∈ l, x.name.length ≤ 1048576) : Looks Tryz.prog ann 94 [v, .fn 37 [] []] h (.int .i64 (-1)) := by
 refine s_look_of rfl Tryz.func94 (frc (by with_unfolding_all rfl)) rfl ?_
 refine tV ?_
 apply o_lenG rfl rfl .refl hv
 refine tV ?_
 refine s_loop (fun i : Nat => [(0, v), (1, .fn 37 [] []), (7, .int .i64 l.length), (8, .int .i64 (i : Int))]) (fun i h' => Ext h h' ∧ i ≤ l.length) (fun i => l.length - i) 0
  tU ⟨.refl, Nat.zero_le _⟩ ?_
 rintro i h' ⟨hx, hi⟩
 refine tW ?_
 (refine tG ?_; refine oB fun b hb => ?_; cases b)
 case false =>
  refine tW ?_
  (first | apply lret_ret | apply lret_norm)
  ·exact rfl
  ·exact rfl
  ·exact rfl
  ·exact hx
  ·simp
 have hil : i < l.length := by simpa using hb
 refine tV ?_
 apply o_iaG rfl rfl rfl hx hv hil
 intro p c hpc hc hcl
 apply o_ldVn rfl rfl hpc hcl (fun h => by omega)
 apply o_hcall rfl rfl rfl rfl (p37 hc (hn _ (List.getElem_mem hil))).go
 rintro _ h3 ⟨rfl, hx3⟩
 refine tW ?_
 rw [w64 (n := (i : Int) + 1) (by omega) (by omega)]
 exact ⟨i + 1, by simp only; omega, tU, rfl, hx.trans hx3, hil⟩
theorem p36 {h : Heap} {v : AV} {l : List Cls} (hv : Sl RCls 10 h v l) (hl : l.length ≤ 9223372036854775807) (hn : ∀ x ∈ l, x.name.length ≤ 1048576) : Looks Tryz.prog ann 36 [v, .fn 37 [] []] h (.bool false) := by
 refine s_look_of rfl Tryz.func36 (frc (by with_unfolding_all rfl)) rfl ?_
 refine tV ?_
 apply o_hcall rfl rfl rfl rfl (p94 hv hl hn).go
 rintro _ h3 ⟨rfl, hx3⟩
 refine tW ?_
 (first | apply lret_ret | apply lret_norm)
 ·exact rfl
 ·exact rfl
 ·exact rfl
 ·exact hx3
 ·simp
end Go.Proofs
