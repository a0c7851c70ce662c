import Derived.Test.YtmnnmgfjlokmkaaGreatImClass
section
open Go Go.Abs Go.Proofs.SlimCode Go.Img
set_option maxRecDepth 100000
namespace Go.Proofs
theorem cvb (m : Nat) : AV.int .u8 (IntKind.wrap .u8 (m : Int)) = ub (UInt8.ofNat m) := by
  simp [IntKind.wrap, IntKind.bits, IntKind.signed, ub]
theorem bvn (a : Nat) : BitVec.ofInt 32 (a : Int) = BitVec.ofNat 32 a := BitVec.ofInt_natCast ..
theorem wrap32 {a : Nat} (h : a < 4294967296) : IntKind.wrap .u32 (a : Int) = (a : Int) := wu32 (by omega) (by omega)
theorem xor32 {a b : Nat} (ha : a < 4294967296) (hb : b < 4294967296) : AV.int .u32 (IntKind.wrap .u32 ((BitVec.ofInt (IntKind.bits .u32) (a : Int) ^^^ BitVec.ofInt (IntKind.bits .u32) (b : Int)).toNat)) = .int .u32 ((a ^^^ b : Nat) : Int) := by
  show AV.int .u32 (IntKind.wrap .u32 ((BitVec.ofInt 32 (a : Int) ^^^ BitVec.ofInt 32 (b : Int)).toNat)) = _
  rw [bvn, bvn, BitVec.toNat_xor, BitVec.toNat_ofNat, BitVec.toNat_ofNat, Nat.mod_eq_of_lt ha, Nat.mod_eq_of_lt hb, wrap32 (Nat.xor_lt_two_pow (n := 32) ha hb)]
theorem and32 {a b : Nat} (ha : a < 4294967296) (hb : b < 4294967296) : AV.int .u32 (IntKind.wrap .u32 ((BitVec.ofInt (IntKind.bits .u32) (a : Int) &&& BitVec.ofInt (IntKind.bits .u32) (b : Int)).toNat)) = .int .u32 ((a &&& b : Nat) : Int) := by
  show AV.int .u32 (IntKind.wrap .u32 ((BitVec.ofInt 32 (a : Int) &&& BitVec.ofInt 32 (b : Int)).toNat)) = _
  rw [bvn, bvn, BitVec.toNat_and, BitVec.toNat_ofNat, BitVec.toNat_ofNat, Nat.mod_eq_of_lt ha, Nat.mod_eq_of_lt hb, wrap32 (Nat.lt_of_le_of_lt Nat.and_le_left ha)]
theorem neg32 (x : Nat) : AV.int .u32 (IntKind.wrap .u32 (0 - ((x % 2 : Nat) : Int))) = .int .u32 ((if x % 2 = 1 then 4294967295 else 0 : Nat) : Int) := by
  rcases Nat.mod_two_eq_zero_or_one x with h | h
  · rw [h]; rfl
  · rw [h]; rfl
theorem poly32 (x : Nat) : (3988292384 &&& (if x % 2 = 1 then 4294967295 else 0) : Nat) = if x % 2 = 1 then poly else 0 := by
  split <;> rfl
theorem p48 {h : Heap} {n : Nat} (_hn : n < 4294967296) : HCallC Tryz.prog ann 48 [.int .u32 (n : Int)] h fun v h' => OSl h 1 v (ubs (four n)) (four n).length h' := by
  refine s_call_x rfl Tryz.func48 (frc (by with_unfolding_all rfl)) rfl ?_
  (repeat (first | ((with_reducible apply o_valM); exact rfl; exact rfl; exact rfl; exact trivial) | (with_reducible first | apply s_seq | apply s_reg0 | apply o_nil | apply ssq_norm)))
  ((with_reducible apply o_shrN (a := n) (b := 24)); exact rfl; exact rfl; exact rfl; (decide))
  apply o_as (w := ub (UInt8.ofNat (n / 2 ^ 24))) rfl rfl trivial (cvb _)
  (repeat ((with_reducible apply o_valM); exact rfl; exact rfl; exact rfl; exact trivial))
  ((with_reducible apply o_shrN (a := n) (b := 16)); exact rfl; exact rfl; exact rfl; (decide))
  apply o_as (w := ub (UInt8.ofNat (n / 2 ^ 16))) rfl rfl trivial (cvb _)
  (repeat ((with_reducible apply o_valM); exact rfl; exact rfl; exact rfl; exact trivial))
  ((with_reducible apply o_shrN (a := n) (b := 8)); exact rfl; exact rfl; exact rfl; (decide))
  apply o_as (w := ub (UInt8.ofNat (n / 2 ^ 8))) rfl rfl trivial (cvb _)
  (repeat ((with_reducible apply o_valM); exact rfl; exact rfl; exact rfl; exact trivial))
  apply o_as (w := ub (UInt8.ofNat n)) rfl rfl trivial (cvb _)
  apply o_hbs rfl rfl rfl
  intro i hi
  have H : OSl h 1 (.sl i 0 4 1) (ubs (four n)) (four n).length (upd h i (some (.cells (ubs (four n))))) := ⟨.upd hi, .inr ⟨i, rfl, hi, upd_same, rfl⟩⟩
  (repeat (first | ((with_reducible apply o_valW); exact rfl; exact rfl; exact rfl; exact trivial) | (with_reducible first | apply s_ret | apply o_nil | apply ssq_norm)))
  (first | apply hx_ret | apply hx_norm)
  · exact rfl
  · exact rfl
  · rw [killL_nil]
    exact H
  · exact fun h => by cases h
theorem p103 {h : Heap} {v : AV} {bs : B} (hv : VSl h 1 v (ubs bs) bs.length) (hl : bs.length ≤ 9223372036854775807) : Looks Tryz.prog ann 103 [.int .u32 0, v] h (.int .u32 (crc bs : Int)) := by
  refine s_look_of rfl Tryz.func103 (frc (by with_unfolding_all rfl)) rfl ?_
  (repeat (first | ((with_reducible apply o_valM); exact rfl; exact rfl; exact rfl; exact trivial) | (with_reducible first | apply s_seq | apply s_reg0 | apply o_nil | apply ssq_norm)))
  apply o_as (w := .int .u32 ((4294967295 : Nat) : Int)) rfl rfl trivial rfl
  (repeat (first | ((with_reducible apply o_valM); exact rfl; exact rfl; exact rfl; exact trivial) | (with_reducible first | apply s_seq | apply s_reg0 | apply o_nil | apply ssq_norm)))
  apply o_lenV rfl rfl hv
  (repeat (first | ((with_reducible apply o_valM); exact rfl; exact rfl; exact rfl; exact trivial) | (with_reducible first | apply s_block | apply o_nil | apply ssq_norm)))
  refine s_loop (fun i : Nat => [(5, .int .u32 (RS 4294967295 (bs.take i) : Int)), (10, v), (11, .int .i64 bs.length), (12, .int .i64 (i : Int))]) (fun i h' => h' = h ∧ i ≤ bs.length) (fun i => bs.length - i) 0
    (sub_cons rfl (sub_cons rfl (sub_cons rfl (sub_cons rfl sub_nil)))) ⟨rfl, Nat.zero_le _⟩ ?_
  rintro i h' ⟨rfl, hi⟩
  (repeat (with_reducible first | apply s_seq | apply s_reg0))
  ((with_reducible apply o_bool); exact rfl; exact rfl; exact trivial; intro b hb; cases b)
  case false =>
    have hil : i = bs.length := by simp at hb; omega
    subst hil
    rw [List.take_of_length_le (Nat.le_refl _)]
    (repeat (first | ((with_reducible apply o_valM); exact rfl; exact rfl; exact rfl; exact trivial) | (with_reducible first | apply s_seq | apply s_reg0 | apply s_exit | apply o_nil | apply ssq_norm | apply ssq_exit | apply sbq_hit | apply slq_exit) | ((with_reducible apply s_condF); exact rfl)))
    apply o_as (w := .int .u32 (crc bs : Int)) rfl rfl trivial (by
      have := xor32 (a := 4294967295) (b := RS 4294967295 bs) (by decide) (RS_lt (by decide))
      refine Eq.trans this ?_
      rw [Nat.xor_comm]
      rfl)
    (repeat (first | ((with_reducible apply o_valW); exact rfl; exact rfl; exact rfl; exact trivial) | (with_reducible first | apply s_ret | apply o_nil | apply ssq_norm)))
    (first | apply lret_ret | apply lret_norm)
    · exact rfl
    · exact rfl
    · exact rfl
    · exact .refl
    · simp
  have hil : i < bs.length := by simpa using hb
  (repeat (first | (with_reducible first | apply s_seq | apply s_reg0 | apply s_skip | apply s_block | apply o_nil | apply ssq_norm) | ((with_reducible apply s_condT); exact rfl)))
  apply o_iaV rfl rfl rfl hv (by omega) (by omega)
  intro p hp
  have hc : ((ubs bs).drop ((i : Int).toNat * 1)).take 1 = [ub bs[i]] := by
    rw [Int.toNat_natCast, Nat.mul_one]
    unfold ubs
    rw [List.drop_eq_getElem_cons (by simpa using hil)]
    simp
  rw [hc] at hp
  apply o_ldV rfl rfl hp (fun h => by omega)
  (repeat (first | ((with_reducible apply o_valM); exact rfl; exact rfl; exact rfl; exact trivial) | (with_reducible first | apply s_seq | apply s_reg0 | apply o_nil | apply ssq_norm)))
  have hb8 : (bs[i].toNat : Int) < 256 := by have := bs[i].toNat_lt; omega
  ((with_reducible apply o_cvN (a := bs[i].toNat)); exact rfl; exact rfl; exact wu32 (by omega) (by omega))
  have hr : RS 4294967295 (bs.take i) < 4294967296 := RS_lt (by decide)
  apply o_as (w := .int .u32 ((RS 4294967295 (bs.take i) ^^^ bs[i].toNat : Nat) : Int)) rfl rfl trivial (xor32 hr (by omega))
  (repeat (first | ((with_reducible apply o_valM); exact rfl; exact rfl; exact rfl; exact trivial) | (with_reducible first | apply s_seq | apply s_reg0 | apply s_block | apply o_nil | apply ssq_norm)))
  refine s_loop (fun j : Nat => [(5, .int .u32 (TI j (RS 4294967295 (bs.take i) ^^^ bs[i].toNat) : Int)), (10, v), (11, .int .i64 bs.length), (12, .int .i64 (i : Int)), (20, .int .i64 (j : Int))]) (fun j h2 => h2 = h' ∧ j ≤ 8) (fun j => 8 - j) 0
    (sub_cons rfl (sub_cons rfl (sub_cons rfl (sub_cons rfl (sub_cons rfl sub_nil))))) ⟨rfl, by omega⟩ ?_
  rintro j h2 ⟨rfl, hj⟩
  have hx : TI j (RS 4294967295 (bs.take i) ^^^ bs[i].toNat) < 4294967296 := TI_lt (Nat.xor_lt_two_pow (n := 32) hr (by omega))
  have hnext : TI (j + 1) (RS 4294967295 (bs.take i) ^^^ bs[i].toNat) = TN (TI j (RS 4294967295 (bs.take i) ^^^ bs[i].toNat)) := by rw [TI_add]; rfl
  (repeat (with_reducible first | apply s_seq | apply s_reg0))
  ((with_reducible apply o_bool); exact rfl; exact rfl; exact trivial; intro b hb; cases b)
  case false =>
    have hj8 : j = 8 := by simp at hb; omega
    subst hj8
    (repeat (first | ((with_reducible apply o_valW); exact rfl; exact rfl; exact rfl; exact trivial) | (with_reducible first | apply s_seq | apply s_reg0 | apply s_exit | apply o_nil | apply ssq_norm | apply ssq_exit | apply sbq_hit | apply sbq_norm | apply slq_exit) | ((with_reducible apply s_condF); exact rfl)))
    rw [w64 (n := (i : Int) + 1) (by omega) (by omega)]
    refine ⟨i + 1, by simp only; omega, sub_cons ?_ (sub_cons rfl (sub_cons rfl (sub_cons rfl sub_nil))), rfl, rfl, hil⟩
    have : RS 4294967295 (bs.take (i + 1)) = TI 8 (RS 4294967295 (bs.take i) ^^^ bs[i].toNat) := by
      rw [List.take_add_one, List.getElem?_eq_getElem hil, Option.toList_some, RS_append]
      rfl
    rw [this]
    rfl
  generalize TI j (RS 4294967295 (bs.take i) ^^^ bs[i].toNat) = x at hx hnext ⊢
  (repeat (first | ((with_reducible apply o_valM); exact rfl; exact rfl; exact rfl; exact trivial) | (with_reducible first | apply s_seq | apply s_reg0 | apply s_skip | apply s_block | apply o_nil | apply ssq_norm) | ((with_reducible apply s_condT); exact rfl)))
  ((with_reducible apply o_shrN (a := x) (b := 1)); exact rfl; exact rfl; exact rfl; (decide))
  (repeat ((with_reducible apply o_valM); exact rfl; exact rfl; exact rfl; exact trivial))
  apply o_as (w := .int .u32 ((x % 2 : Nat) : Int)) rfl rfl trivial (by
    refine (and32 hx (b := 1) (by decide)).trans ?_
    rw [Nat.and_one_is_mod])
  apply o_as rfl rfl trivial (neg32 x)
  apply o_as (w := .int .u32 ((if x % 2 = 1 then poly else 0 : Nat) : Int)) rfl rfl trivial (by
    refine (and32 (a := 3988292384) (by decide) (by split <;> decide)).trans ?_
    rw [poly32])
  apply o_as (w := .int .u32 (TN x : Int)) rfl rfl trivial (xor32 (by omega) (by split <;> decide))
  (repeat (first | ((with_reducible apply o_valW); exact rfl; exact rfl; exact rfl; exact trivial) | (with_reducible first | apply s_reg0 | apply o_nil | apply ssq_norm | apply sbq_norm)))
  rw [w64 (n := (j : Int) + 1) (by omega) (by omega)]
  refine ⟨j + 1, by simp only; simp at hb; omega, sub_cons ?_ (sub_cons rfl (sub_cons rfl (sub_cons rfl (sub_cons rfl sub_nil)))), rfl, rfl, by simp at hb; omega⟩
  rw [hnext]
  rfl
end Go.Proofs
end
section
open Go Go.Abs Go.Proofs.SlimCode Go.Img
set_option maxRecDepth 100000
namespace Go.Proofs
theorem p49 {h : Heap} {v : AV} {bs : B} (hv : VSl h 1 v (ubs bs) bs.length) (hl : bs.length ≤ 9223372036854775807) : Looks Tryz.prog ann 49 [v] h (.int .u32 (crc bs : Int)) := by
  refine s_look_of rfl Tryz.func49 (frc (by with_unfolding_all rfl)) rfl ?_
  (repeat (first | ((with_reducible apply o_valM); exact rfl; exact rfl; exact rfl; exact trivial) | (with_reducible first | apply s_seq | apply s_reg0 | apply o_nil | apply ssq_norm)))
  apply o_hcall rfl rfl rfl rfl (p103 hv hl).go
  rintro _ h1 ⟨rfl, hx⟩
  (repeat (first | ((with_reducible apply o_valW); exact rfl; exact rfl; exact rfl; exact trivial) | (with_reducible first | apply s_ret | apply o_nil | apply ssq_norm)))
  (first | apply lret_ret | apply lret_norm)
  · exact rfl
  · exact rfl
  · exact rfl
  · exact hx
  · simp
def turnL (a b c d : UInt8) : Nat → List AV
  | 0 => [ub a, ub b, ub c, ub d]
  | 1 => [ub d, ub b, ub c, ub a]
  | _ => [ub d, ub c, ub b, ub a]
theorem upd_self {h : Heap} {i : Nat} {o : AObj} (hi : h i = some o) : upd h i (some o) = h := by
  funext j
  unfold upd
  split
  · rename_i e; rw [e, hi]
  · rfl
theorem p50 {h : Heap} {i : Nat} {a b c d : UInt8} (hi : h i = some (.cells [ub a, ub b, ub c, ub d])) : HCallC Tryz.prog ann 50 [.sl i 0 4 1] h fun v h' => v = .tup [] ∧ h' = upd h i (some (.cells [ub d, ub c, ub b, ub a])) := by
  refine s_call_x rfl Tryz.func50 (frc (by with_unfolding_all rfl)) rfl ?_
  (repeat (first | ((with_reducible apply o_valM); exact rfl; exact rfl; exact rfl; exact trivial) | (with_reducible first | apply s_seq | apply s_reg0)))
  ((with_reducible apply o_valW); exact rfl; exact rfl; exact rfl; exact trivial)
  (repeat (first | ((with_reducible apply o_valM); exact rfl; exact rfl; exact rfl; exact trivial) | (with_reducible first | apply s_block | apply o_nil | apply ssq_norm)))
  refine s_loop (fun k : Nat => [(0, .sl i 0 4 1), (2, .int .i64 (k : Int)), (3, .int .i64 ((3 - k : Nat) : Int))]) (fun k h' => k ≤ 2 ∧ h' = upd h i (some (.cells (turnL a b c d k)))) (fun k => 3 - k) 0
    (sub_cons rfl (sub_cons rfl (sub_cons rfl sub_nil))) ⟨by omega, (upd_self hi).symm⟩ ?_
  rintro k h' ⟨hk, rfl⟩
  obtain rfl | rfl | rfl : k = 0 ∨ k = 1 ∨ k = 2 := by omega
  · (repeat (first | ((with_reducible apply o_valW); exact rfl; exact rfl; exact rfl; exact trivial) | (with_reducible first | apply s_seq | apply s_reg0 | apply s_reg | apply s_skip | apply s_block | apply o_nil | apply ssq_norm) | ((with_reducible apply s_condT); exact rfl)))
    apply o_val rfl rfl ⟨rfl, by decide, by decide⟩
    apply o_ldh rfl rfl upd_same (fun _ => by rw [upd_same]; simp) rfl
    (repeat ((with_reducible apply o_valM); exact rfl; exact rfl; exact rfl; exact trivial))
    apply o_val rfl rfl ⟨rfl, by decide, by decide⟩
    apply o_ldh rfl rfl upd_same (fun _ => by rw [upd_same]; simp) rfl
    apply o_val rfl rfl ⟨rfl, by decide, by decide⟩
    apply o_st1 rfl rfl rfl rfl rfl upd_same (show (0 : Nat) < 4 by decide)
    apply o_val rfl rfl ⟨rfl, by decide, by decide⟩
    apply o_st1 rfl rfl rfl rfl rfl upd_same (show (3 : Nat) < 4 by decide)
    (repeat (first | ((with_reducible apply o_valW); exact rfl; exact rfl; exact rfl; exact trivial) | (with_reducible first | apply s_reg0 | apply o_nil | apply ssq_norm | apply sbq_norm)))
    rw [upd_upd, upd_upd]
    exact ⟨1, by decide, sub_cons rfl (sub_cons rfl (sub_cons rfl sub_nil)), rfl, by decide, rfl⟩
  · (repeat (first | ((with_reducible apply o_valW); exact rfl; exact rfl; exact rfl; exact trivial) | (with_reducible first | apply s_seq | apply s_reg0 | apply s_reg | apply s_skip | apply s_block | apply o_nil | apply ssq_norm) | ((with_reducible apply s_condT); exact rfl)))
    apply o_val rfl rfl ⟨rfl, by decide, by decide⟩
    apply o_ldh rfl rfl upd_same (fun _ => by rw [upd_same]; simp) rfl
    (repeat ((with_reducible apply o_valM); exact rfl; exact rfl; exact rfl; exact trivial))
    apply o_val rfl rfl ⟨rfl, by decide, by decide⟩
    apply o_ldh rfl rfl upd_same (fun _ => by rw [upd_same]; simp) rfl
    apply o_val rfl rfl ⟨rfl, by decide, by decide⟩
    apply o_st1 rfl rfl rfl rfl rfl upd_same (show (1 : Nat) < 4 by decide)
    apply o_val rfl rfl ⟨rfl, by decide, by decide⟩
    apply o_st1 rfl rfl rfl rfl rfl upd_same (show (2 : Nat) < 4 by decide)
    (repeat (first | ((with_reducible apply o_valW); exact rfl; exact rfl; exact rfl; exact trivial) | (with_reducible first | apply s_reg0 | apply o_nil | apply ssq_norm | apply sbq_norm)))
    rw [upd_upd, upd_upd]
    exact ⟨2, by decide, sub_cons rfl (sub_cons rfl (sub_cons rfl sub_nil)), rfl, by decide, rfl⟩
  · (repeat (first | ((with_reducible apply o_valW); exact rfl; exact rfl; exact rfl; exact trivial) | (with_reducible first | apply s_seq | apply s_reg0 | apply s_exit | apply o_nil | apply ssq_norm | apply ssq_exit | apply sbq_hit | apply slq_exit) | ((with_reducible apply s_condF); exact rfl)))
    (first | apply hx_ret | apply hx_norm)
    · exact (rfl : resE _ [] = some [])
    · exact rfl
    · rw [killL_nil]
      exact ⟨rfl, rfl⟩
    · intro _
      by_cases e : AObj.cells (turnL a b c d 2) = .cells [ub a, ub b, ub c, ub d]
      · left
        refine ⟨rfl, ?_⟩
        show h = upd h i (some (.cells (turnL a b c d 2)))
        rw [e, upd_self hi]
      · right
        refine ⟨i, by rw [hi]; simp, ?_⟩
        rw [upd_same, hi]
        intro e'
        exact e (Option.some.inj e')
theorem p37 {g h : Heap} {c : List AV} {x : Cls} (hc : RCls g c x) (hn : x.name.length ≤ 1048576) : Looks Tryz.prog ann 37 [.agg c] h (.bool false) := by
  have hone := hc.one
  obtain ⟨vr, vs, vt, vf, rfl, v1, v2, v3, v4⟩ := hc
  refine s_look_of rfl Tryz.func37 (frc (by with_unfolding_all rfl)) rfl ?_
  (repeat ((with_reducible first | apply s_seq | apply s_reg0)))
  apply o_val rfl rfl hone
  (repeat (first | ((with_reducible apply o_valM); exact rfl; exact rfl; exact rfl; exact trivial) | (with_reducible first | apply s_seq | apply s_reg0 | apply o_nil | apply ssq_norm)))
  ((with_reducible apply o_bool); exact rfl; exact rfl; exact trivial; intro b hb)
  have : b = false := by rw [hb]; simp; omega
  subst this
  (repeat (first | ((with_reducible apply o_valW); exact rfl; exact rfl; exact rfl; exact trivial) | (with_reducible first | apply s_ret | apply o_nil | apply ssq_norm)))
  (first | apply lret_ret | apply lret_norm)
  · exact rfl
  · exact rfl
  · exact rfl
  · exact .refl
  · simp
theorem p94 {h : Heap} {v : AV} {l : List Cls} (hv : Sl RCls 10 h v l) (hl : l.length ≤ 9223372036854775807) (hn : ∀ x ∈ l, x.name.length ≤ 1048576) : Looks Tryz.prog ann 94 [v, .fn 37 [] []] h (.int .i64 (-1)) := by
  refine s_look_of rfl Tryz.func94 (frc (by with_unfolding_all rfl)) rfl ?_
  (repeat (first | ((with_reducible apply o_valM); exact rfl; exact rfl; exact rfl; exact trivial) | (with_reducible first | apply s_seq | apply s_reg0 | apply o_nil | apply ssq_norm)))
  apply o_lenG rfl rfl .refl hv
  (repeat (first | ((with_reducible apply o_valM); exact rfl; exact rfl; exact rfl; exact trivial) | (with_reducible first | apply s_block | apply o_nil | apply ssq_norm)))
  refine s_loop (fun i : Nat => [(0, v), (1, .fn 37 [] []), (7, .int .i64 l.length), (8, .int .i64 (i : Int))]) (fun i h' => Ext h h' ∧ i ≤ l.length) (fun i => l.length - i) 0
    (sub_cons rfl (sub_cons rfl (sub_cons rfl (sub_cons rfl sub_nil)))) ⟨.refl, Nat.zero_le _⟩ ?_
  rintro i h' ⟨hx, hi⟩
  (repeat (with_reducible first | apply s_seq | apply s_reg0))
  ((with_reducible apply o_bool); exact rfl; exact rfl; exact trivial; intro b hb; cases b)
  case false =>
    (repeat (first | ((with_reducible apply o_valW); exact rfl; exact rfl; exact rfl; exact trivial) | (with_reducible first | apply s_seq | apply s_reg0 | apply s_exit | apply s_ret | apply o_nil | apply ssq_norm | apply ssq_exit | apply sbq_hit | apply slq_exit) | ((with_reducible apply s_condF); exact rfl)))
    (first | apply lret_ret | apply lret_norm)
    · exact rfl
    · exact rfl
    · exact rfl
    · exact hx
    · simp
  have hil : i < l.length := by simpa using hb
  (repeat (first | ((with_reducible apply o_valM); exact rfl; exact rfl; exact rfl; exact trivial) | (with_reducible first | apply s_seq | apply s_reg0 | apply s_skip | apply s_block | apply o_nil | apply ssq_norm) | ((with_reducible apply s_condT); exact rfl)))
  apply o_iaG rfl rfl rfl hx hv hil
  intro p c hpc hc hcl
  apply o_ldVn rfl rfl hpc hcl (fun h => by omega)
  apply o_hcall rfl rfl rfl rfl (p37 hc (hn _ (List.getElem_mem hil))).go
  rintro _ h3 ⟨rfl, hx3⟩
  (repeat (first | ((with_reducible apply o_valW); exact rfl; exact rfl; exact rfl; exact trivial) | (with_reducible first | apply s_reg0 | apply s_skip | apply o_nil | apply ssq_norm | apply sbq_norm) | ((with_reducible apply s_condF); exact rfl)))
  rw [w64 (n := (i : Int) + 1) (by omega) (by omega)]
  exact ⟨i + 1, by simp only; omega, sub_cons rfl (sub_cons rfl (sub_cons rfl (sub_cons rfl sub_nil))), rfl, hx.trans hx3, hil⟩
theorem p36 {h : Heap} {v : AV} {l : List Cls} (hv : Sl RCls 10 h v l) (hl : l.length ≤ 9223372036854775807) (hn : ∀ x ∈ l, x.name.length ≤ 1048576) : Looks Tryz.prog ann 36 [v, .fn 37 [] []] h (.bool false) := by
  refine s_look_of rfl Tryz.func36 (frc (by with_unfolding_all rfl)) rfl ?_
  (repeat (first | ((with_reducible apply o_valM); exact rfl; exact rfl; exact rfl; exact trivial) | (with_reducible first | apply s_seq | apply s_reg0 | apply o_nil | apply ssq_norm)))
  apply o_hcall rfl rfl rfl rfl (p94 hv hl hn).go
  rintro _ h3 ⟨rfl, hx3⟩
  (repeat (first | ((with_reducible apply o_valW); exact rfl; exact rfl; exact rfl; exact trivial) | (with_reducible first | apply s_ret | apply o_nil | apply ssq_norm)))
  (first | apply lret_ret | apply lret_norm)
  · exact rfl
  · exact rfl
  · exact rfl
  · exact hx3
  · simp
end Go.Proofs
end
section
open Go Go.Abs Go.Proofs.SlimCode Go.Img
set_option maxRecDepth 100000
namespace Go.Proofs
theorem own_pos {g h : Heap} {s n : Nat} {v : AV} {cs : List AV} (H : OSl g s v cs n h) (h0 : 0 < n) : ∃ i, v = .sl i 0 n s ∧ g i = none ∧ h i = some (.cells cs) ∧ cs.length = n * s := by
  rcases H.own with ⟨_, _, rfl⟩ | h1
  · omega
  · exact h1
theorem p16 {h : Heap} {c : List AV} {m : Image} (hc : RImg h c m) (hw : m.WF) (hs : (Img.body m).length ≤ 1099511627776) :
    HCallC Tryz.prog ann 16 [.agg c] h fun v h' => (size m ≤ 1048576 ∧ OSl h 1 v (ubs (encode m)) (encode m).length h') ∨ (1048576 < size m ∧ v = .nil .sl ∧ Ext h h') := by
  have hone := hc.one
  obtain ⟨vc, vm, vg, vw, vr, vs, vf, rfl, v1, v2', v3, v4, v5, v6, v7⟩ := hc
  unfold Img.body at hs
  simp only [List.length_append] at hs
  refine s_call_x rfl Tryz.func16 (frc (by with_unfolding_all rfl)) rfl ?_
  (repeat ((with_reducible first | apply s_seq | apply s_reg0)))
  apply o_val rfl rfl hone
  (repeat (first | ((with_reducible apply o_valM); exact rfl; exact rfl; exact rfl; exact trivial) | (with_reducible first | apply s_seq | apply s_reg0 | apply o_nil | apply ssq_norm)))
  apply o_hcall rfl rfl rfl rfl (p36 v1 hw.classes.1 (fun x hx => (hw.classes.2 x hx).name)).go
  rintro _ g ⟨rfl, hx⟩
  (repeat (first | (with_reducible first | apply s_seq | apply s_reg0 | apply s_skip | apply o_nil | apply ssq_norm) | ((with_reducible apply s_condF); exact rfl)))
  ((with_reducible apply o_valW); exact rfl; exact rfl; exact rfl; exact trivial)
  apply o_hbox rfl rfl rfl
  intro w hwn
  have H0 : Wr g w [] (upd g w (some (.cells [.nil .sl]))) := Wr.start hwn
  show SOps _ _ _ _ _ _ _ _ [] (upd g w (some (.cells [.nil .sl]))) _
  generalize upd g w (some (.cells [.nil .sl])) = h0 at H0 ⊢
  (repeat (first | ((with_reducible apply o_valM); exact rfl; exact rfl; exact rfl; exact trivial) | (with_reducible first | apply s_seq | apply s_reg0 | apply o_nil | apply ssq_norm)))
  apply o_hcall rfl rfl rfl rfl (p38 (e := eCls) (v1.mono RCls.mono hx) hw.classes.1 (fun a ha g' c _ hc => p39 hc (hw.classes.2 a ha)) _ h0 H0 (by simp only [List.length_append, List.length_nil]; omega))
  rintro _ h1 ⟨rfl, H1⟩
  (repeat (first | ((with_reducible apply o_valM); exact rfl; exact rfl; exact rfl; exact trivial) | (with_reducible first | apply s_seq | apply s_reg0 | apply o_nil | apply ssq_norm)))
  apply o_hcall rfl rfl rfl rfl (p40 (e := eMth) (v2'.mono RMth.mono hx) hw.methods.1 (fun a ha g' c _ hc => p41 hc (hw.methods.2 a ha)) _ h1 H1 (by simp only [List.length_append, List.length_nil]; omega))
  rintro _ h2 ⟨rfl, H2⟩
  (repeat (first | ((with_reducible apply o_valM); exact rfl; exact rfl; exact rfl; exact trivial) | (with_reducible first | apply s_seq | apply s_reg0 | apply o_nil | apply ssq_norm)))
  apply o_hcall rfl rfl rfl rfl (p42 hw.entry _ h2 H2 (by simp only [List.length_append, List.length_nil]; omega))
  rintro _ h3 ⟨rfl, H3⟩
  (repeat (first | ((with_reducible apply o_valM); exact rfl; exact rfl; exact rfl; exact trivial) | (with_reducible first | apply s_seq | apply s_reg0 | apply o_nil | apply ssq_norm)))
  apply o_hcall rfl rfl rfl rfl (p42 hw.need _ h3 H3 (by simp only [List.length_append, List.length_nil]; omega))
  rintro _ h4 ⟨rfl, H4⟩
  (repeat (first | ((with_reducible apply o_valM); exact rfl; exact rfl; exact rfl; exact trivial) | (with_reducible first | apply s_seq | apply s_reg0 | apply o_nil | apply ssq_norm)))
  apply o_hcall rfl rfl rfl rfl (p43 (e := put) (v3.mono RN.mono hx) hw.given.1 (fun a ha g' _ => p42 (hw.given.2 a ha)) _ h4 H4 (by simp only [List.length_append, List.length_nil]; omega))
  rintro _ h5 ⟨rfl, H5⟩
  (repeat (first | ((with_reducible apply o_valM); exact rfl; exact rfl; exact rfl; exact trivial) | (with_reducible first | apply s_seq | apply s_reg0 | apply o_nil | apply ssq_norm)))
  apply o_hcall rfl rfl rfl rfl (p44 (e := put) (v4.mono RN.mono hx) hw.words.1 (fun a ha g' _ => p45 (hw.words.2 a ha)) _ h5 H5 (by simp only [List.length_append, List.length_nil]; omega))
  rintro _ h6 ⟨rfl, H6⟩
  (repeat (first | ((with_reducible apply o_valM); exact rfl; exact rfl; exact rfl; exact trivial) | (with_reducible first | apply s_seq | apply s_reg0 | apply o_nil | apply ssq_norm)))
  apply o_hcall rfl rfl rfl rfl (p43 (e := put) (v5.mono RN.mono hx) hw.rel.1 (fun a ha g' _ => p42 (hw.rel.2 a ha)) _ h6 H6 (by simp only [List.length_append, List.length_nil]; omega))
  rintro _ h7 ⟨rfl, H7⟩
  (repeat (first | ((with_reducible apply o_valM); exact rfl; exact rfl; exact rfl; exact trivial) | (with_reducible first | apply s_seq | apply s_reg0 | apply o_nil | apply ssq_norm)))
  apply o_hcall rfl rfl rfl rfl (p44 (e := put) (v6.mono RN.mono hx) hw.stat.1 (fun a ha g' _ => p45 (hw.stat.2 a ha)) _ h7 H7 (by simp only [List.length_append, List.length_nil]; omega))
  rintro _ h8 ⟨rfl, H8⟩
  (repeat (first | ((with_reducible apply o_valM); exact rfl; exact rfl; exact rfl; exact trivial) | (with_reducible first | apply s_seq | apply s_reg0 | apply o_nil | apply ssq_norm)))
  apply o_hcall rfl rfl rfl rfl (p46 (e := eTruth) (v7.mono RB.mono hx) hw.statref (fun a _ g' _ => p47) _ h8 H8 (by simp only [List.length_append, List.length_nil]; omega))
  rintro _ h9 ⟨rfl, H9⟩
  have eb : [] ++ eList eCls m.classes ++ eList eMth m.methods ++ put m.entry ++ put m.need ++ eList put m.given ++ eList put m.words ++ eList put m.rel ++ eList put m.stat ++ eList eTruth m.statref = Img.body m := by
    unfold Img.body
    simp only [List.append_assoc, List.nil_append]
  rw [eb] at H9
  clear H0 H1 H2 H3 H4 H5 H6 H7 H8 eb
  have hs' : (Img.body m).length ≤ 1099511627776 := by
    unfold Img.body
    simp only [List.length_append]
    exact hs
  obtain ⟨v, hv, O⟩ := H9.own
  (repeat (first | ((with_reducible apply o_valM); exact rfl; exact rfl; exact rfl; exact trivial) | (with_reducible first | apply s_seq | apply s_reg0 | apply o_nil | apply ssq_norm)))
  apply o_ldh rfl rfl hv (fun h => by omega) rfl
  apply o_lenV rfl rfl O.view
  ((with_reducible apply o_addN (a := 8) (b := (Img.body m).length)); exact rfl; exact rfl; exact rfl; exact w64 (by omega) (by omega))
  ((with_reducible apply o_addN (a := 8 + (Img.body m).length) (b := 4)); exact rfl; exact rfl; exact rfl; exact w64 (by omega) (by omega))
  (repeat (first | ((with_reducible apply o_valM); exact rfl; exact rfl; exact rfl; exact trivial) | (with_reducible first | apply s_seq | apply s_reg0 | apply o_nil | apply ssq_norm)))
  ((with_reducible apply o_bool); exact rfl; exact rfl; exact trivial; intro b hb; cases b)
  case true =>
    have hsz : 1048576 < size m := by unfold size; simp at hb; omega
    (repeat (first | ((with_reducible apply o_valW); exact rfl; exact rfl; exact rfl; exact trivial) | (with_reducible first | apply s_seq | apply s_reg0 | apply s_ret | apply o_nil | apply ssq_norm | apply ssq_ret) | ((with_reducible apply s_condT); exact rfl)))
    (first | apply hx_ret | apply hx_norm)
    · exact rfl
    · exact rfl
    · rw [killL_nil]
      exact .inr ⟨hsz, rfl, hx.trans H9.ext⟩
    · exact fun _ => .inl (.inr ⟨hsz, rfl, .refl⟩)
  have hsz : size m ≤ 1048576 := by unfold size; simp at hb; omega
  have hlb : (Img.body m).length ≤ 1048576 := by unfold size at hsz; omega
  with_reducible apply o_nil
  with_reducible apply ssq_norm
  (with_reducible apply s_condF)
  exact rfl
  with_reducible apply s_skip
  with_reducible apply ssq_norm
  with_reducible apply s_seq
  have hS0 : ∀ id ∈ [w], h9 id ≠ none := by
    intro id hid
    simp only [List.mem_cons, List.not_mem_nil, or_false] at hid
    subst hid
    rw [hv]; simp
  apply s_regX [w] [.A, .A, .A, .C, .C, .A, .A, .A, .A, .B, .D, .A] hS0 rfl
  refine x_A (R := fun E' bx' k1 => ∃ i, E' = (71, .sl i 0 4 1) :: _ ∧ bx' = [] ∧ killL [w] h9 i = none ∧ k1 = upd (killL [w] h9) i (some (.cells (ubs Img.head)))) (o_hbs rfl rfl rfl (fun i hi => o_nil ⟨rfl, i, rfl, rfl, hi, rfl⟩)) ?_
  rintro _ _ _ ⟨i, rfl, rfl, hi, rfl⟩ hS1
  have hiw : i ∉ [w] := by
    intro hc
    have := hS1 i hc
    rw [upd_same] at this
    cases this
  rw [join_upd hiw]
  have hi9 : h9 i = none := (kill_out hiw).symm.trans hi
  have hi1 : upd h9 i (some (.cells (ubs Img.head))) i = some (.cells (ubs Img.head)) := upd_same
  have hx1 : Ext h9 (upd h9 i (some (.cells (ubs Img.head)))) := .upd hi9
  generalize upd h9 i (some (.cells (ubs Img.head))) = k1 at hi1 hx1 ⊢
  refine x_A (R := fun E' bx' k2 => E' = (72, .sl i 0 4 1) :: _ ∧ bx' = [] ∧ k2 = killL [w] k1) (o_cvs rfl rfl (by decide) (by rw [kill_out hiw]; exact hi1) (fun h => by omega) rfl (o_nil ⟨rfl, rfl, rfl, rfl⟩)) ?_
  rintro _ _ _ ⟨rfl, rfl, rfl⟩ _
  rw [joinS_kill]
  apply x_v rfl rfl trivial
  apply x_vC (v := .int .u32 ((8 + (Img.body m).length + 4 : Nat) : Int)) rfl rfl (by
    show some (True, AV.int .u32 (IntKind.wrap .u32 ((8 + (Img.body m).length + 4 : Nat) : Int))) = _
    rw [wrap32 (by omega)]) trivial
  apply x_callC rfl rfl rfl (p48 (n := 8 + (Img.body m).length + 4) (by omega))
  intro v4 k4 O4 hn4
  obtain ⟨j, rfl, _, hj, _⟩ := own_pos O4 (Nat.zero_lt_succ 3)
  have hxp : Ext k1 (plus k1 k4) := plus_ext
  have hjp : plus k1 k4 j = some (.cells (ubs (four (8 + (Img.body m).length + 4)))) := by
    unfold plus
    rw [hn4 j (by rw [hj]; simp)]
    exact hj
  have hjw : j ∉ [w] := by
    intro hc
    simp only [List.mem_cons, List.not_mem_nil, or_false] at hc
    subst hc
    have := hn4 j (by rw [hj]; simp)
    rw [hx1 j _ hv] at this
    cases this
  generalize plus k1 k4 = hp at hxp hjp ⊢
  have O5 : OSl (killL [w] h9) 1 (.sl i 0 4 1) (ubs Img.head) 4 (killL [w] hp) := by
    refine ⟨(hx1.trans hxp).killed, .inr ⟨i, rfl, hi, ?_, rfl⟩⟩
    rw [kill_out hiw]
    exact hxp i _ hi1
  refine x_A (R := fun E' bx' k5 => ∃ v5, E' = (76, v5) :: _ ∧ bx' = [] ∧ OSl (killL [w] h9) 1 v5 (ubs Img.head ++ ubs (four (8 + (Img.body m).length + 4))) 8 k5)
    (o_appO (new := ubs (four (8 + (Img.body m).length + 4))) (n := 4) rfl rfl rfl rfl O5 (by simp only [srcOf, if_true, kill_out hjw, hjp]; rfl) rfl rfl (by decide) fun v5 k5 O _ => o_nil ⟨rfl, v5, rfl, rfl, O⟩) ?_
  rintro _ _ k5 ⟨v5, rfl, rfl, O6⟩ hS5
  have O7 : OSl h9 1 v5 (ubs Img.head ++ ubs (four (8 + (Img.body m).length + 4))) 8 (joinS [w] hp k5) := O6.join (hx1.trans hxp) hS5 fun id hid => (kill_out hid).symm
  generalize joinS [w] hp k5 = hq at O7 ⊢
  apply x_v rfl rfl trivial
  apply x_v rfl rfl trivial
  apply x_v rfl rfl trivial
  apply x_ld rfl rfl (O7.ext w _ hv) (by simp) rfl
  refine x_D (R := fun E' bx' k6 => ∃ v6, E' = (81, v6) :: _ ∧ bx' = [] ∧ OSl h9 1 v6 (ubs Img.head ++ ubs (four (8 + (Img.body m).length + 4)) ++ ubs (Img.body m)) (8 + (Img.body m).length) k6)
    (o_appO (new := ubs (Img.body m)) (n := (Img.body m).length) rfl rfl rfl rfl O7 (srcOf_V (O.view.mono O7.ext)) (by simp [ubs]) (by simp [ubs, AV.one]) (by omega) fun v6 k6 O _ => o_nil ⟨rfl, v6, rfl, rfl, O⟩) ?_
  rintro _ _ k6 ⟨v6, rfl, rfl, O8⟩
  refine ⟨fun id hid => ?_, ?_⟩
  · simp only [List.mem_cons, List.not_mem_nil, or_false] at hid
    subst hid
    rw [O8.ext id _ hv]; simp
  apply x_v rfl rfl trivial
  apply x_nil
  have O9 : OSl h9 1 v6 (ubs (front m)) (front m).length k6 := by
    have e1 : ubs (front m) = ubs Img.head ++ ubs (four (8 + (Img.body m).length + 4)) ++ ubs (Img.body m) := by
      unfold front
      rw [ubs_append, ubs_append, List.append_assoc]
    rw [e1, front_len]
    exact O8
  have hfl : (front m).length ≤ 1048584 := by rw [front_len]; omega
  clear O8 O7 O6 O5
  (repeat (first | ((with_reducible apply o_valM); exact rfl; exact rfl; exact rfl; exact trivial) | (with_reducible first | apply s_seq | apply s_reg0 | apply ssq_norm)))
  apply o_hcall rfl rfl rfl rfl (p49 O9.view (by omega)).go
  rintro _ ks ⟨rfl, hxs⟩
  apply o_hcall rfl rfl rfl rfl (p48 (crc_lt (front m)))
  intro v7 kt O10
  obtain ⟨j2, rfl, hj2s, hj2, _⟩ := own_pos O10 (Nat.zero_lt_succ 3)
  (repeat (first | ((with_reducible apply o_valM); exact rfl; exact rfl; exact rfl; exact trivial) | (with_reducible first | apply s_seq | apply s_reg0 | apply o_nil | apply ssq_norm)))
  apply o_hcall rfl rfl rfl rfl (p50 hj2)
  rintro _ _ ⟨rfl, rfl⟩
  have O11 : OSl h 1 v6 (ubs (front m)) (front m).length (upd kt j2 (some (.cells (ubs (four (crc (front m))).reverse)))) := by
    have hg9 : Ext h h9 := hx.trans H9.ext
    have hns : ∀ id, ks id ≠ none → id ≠ j2 := fun id hid e => hid (by rw [e]; exact hj2s)
    have O12 := (O9.up hxs).weaken hg9
    refine ⟨fun id o e => ?_, ?_⟩
    · have e2 := O12.ext id o e
      rw [upd_ne (hns id (by rw [e2]; simp))]
      exact O10.ext id o e2
    · rcases O12.own with h0 | ⟨i, e, g1, g2, g3⟩
      · exact .inl h0
      · refine .inr ⟨i, e, g1, ?_, g3⟩
        rw [upd_ne (hns i (by rw [g2]; simp))]
        exact O10.ext i _ g2
  (repeat (first | ((with_reducible apply o_valM); exact rfl; exact rfl; exact rfl; exact trivial) | (with_reducible first | apply s_seq | apply s_reg0 | apply o_nil | apply ssq_norm)))
  apply o_appO (new := ubs (four (crc (front m))).reverse) (n := 4) rfl rfl rfl rfl O11 (by simp only [srcOf, if_true, upd_same]; rfl) rfl rfl (by omega)
  intro v8 k8 O13 _
  have O14 : OSl h 1 v8 (ubs (encode m)) (encode m).length k8 := by
    have e1 : encode m = front m ++ (four (crc (front m))).reverse := rfl
    rw [e1, ubs_append, List.length_append]
    exact O13
  (repeat (first | ((with_reducible apply o_valW); exact rfl; exact rfl; exact rfl; exact trivial) | (with_reducible first | apply s_ret | apply o_nil | apply ssq_norm)))
  (first | apply hx_ret | apply hx_norm)
  · exact rfl
  · exact rfl
  · rw [killL_nil]
    exact .inl ⟨hsz, O14⟩
  · intro ht
    have := notree O14 (by rw [encode_len]; unfold size; omega)
    rw [show tupled [v8] = v8 from rfl, this] at ht
    cases ht
end Go.Proofs
end
section
open Go Go.Abs Go.Proofs.SlimCode Go.Img
set_option maxRecDepth 100000
namespace Go.Proofs
end Go.Proofs
namespace Go.Img
structure Cls.Wide (c : Cls) : Prop where
  name : c.name.length ≤ 9223372036854775807
  super : I64 c.super
  init : I64 c.init
  array : I64 c.array
  elem : I64 c.elem
  refs : Len c.refs
  subs : Len c.subs ∧ ∀ n ∈ c.subs, I64 n
  slots : Len c.slots ∧ ∀ n ∈ c.slots, I64 n
  faces : Len c.faces ∧ ∀ p ∈ c.faces, I64 p.1 ∧ I64 p.2
structure Image.Wide (m : Image) : Prop where
  classes : Len m.classes ∧ ∀ c ∈ m.classes, c.Wide
  methods : Len m.methods ∧ ∀ c ∈ m.methods, c.WF
  entry : I64 m.entry
  need : I64 m.need
  given : Len m.given ∧ ∀ n ∈ m.given, I64 n
  words : Len m.words ∧ ∀ n ∈ m.words, I32 n
  rel : Len m.rel ∧ ∀ n ∈ m.rel, I64 n
  stat : Len m.stat ∧ ∀ n ∈ m.stat, I32 n
  statref : Len m.statref
end Go.Img
namespace Go.Proofs
theorem p34 {h : Heap} {s : B} (hl : s.length ≤ 9223372036854775807) : Looks Tryz.prog ann 34 [.str s, .int .i64 12] h (.str (s.take 12)) := by
  refine s_look_of rfl Tryz.func34 (frc (by with_unfolding_all rfl)) rfl ?_
  (repeat (first | ((with_reducible apply o_valM); exact rfl; exact rfl; exact rfl; exact trivial) | (with_reducible first | apply s_seq | apply s_reg0 | apply o_nil | apply ssq_norm)))
  ((with_reducible apply o_bool); exact rfl; exact rfl; exact trivial; intro b hb; cases b)
  · have : s.take 12 = s := List.take_of_length_le (by simp at hb; omega)
    rw [this]
    (repeat (first | ((with_reducible apply o_valW); exact rfl; exact rfl; exact rfl; exact trivial) | (with_reducible first | apply s_seq | apply s_reg0 | apply s_skip | apply s_ret | apply o_nil | apply ssq_norm) | ((with_reducible apply s_condF); exact rfl)))
    (first | apply lret_ret | apply lret_norm)
    · exact rfl
    · exact rfl
    · exact rfl
    · exact .refl
    · simp
  · have : 12 < s.length := by simp at hb; omega
    (repeat (first | ((with_reducible apply o_valM); exact rfl; exact rfl; exact rfl; exact trivial) | (with_reducible first | apply s_seq | apply s_reg0 | apply o_nil | apply ssq_norm) | ((with_reducible apply s_condT); exact rfl)))
    apply o_val rfl rfl ⟨Int.le_refl 0, by decide, by omega⟩
    (repeat (first | ((with_reducible apply o_valW); exact rfl; exact rfl; exact rfl; exact trivial) | (with_reducible first | apply s_ret | apply o_nil | apply ssq_norm | apply ssq_ret)))
    (first | apply lret_ret | apply lret_norm)
    · exact rfl
    · exact rfl
    · exact rfl
    · exact .refl
    · simp
theorem min_nat (a b : Nat) : AV.int .i64 (min ((b : Nat) : Int) ((a : Nat) : Int)) = .int .i64 ((min b a : Nat) : Int) := by
  congr 1
  omega
theorem sl_cells {α : Type} {R : Heap → List AV → α → Prop} {s : Nat} {h : Heap} {v : AV} {l : List α} (H : Sl R s h v l) (h1 : ∀ c a, R h c a → c.all AV.one = true) : ∃ cs, VSl h s v cs l.length ∧ Chunks (R h) s cs l ∧ cs.all AV.one = true := by
  obtain ⟨cs, a, b⟩ := H
  refine ⟨cs, a, b, ?_⟩
  clear a
  induction b with
  | nil => rfl
  | cons hl ha H ih => rw [List.all_append, h1 _ _ ha, ih]; rfl
theorem p35 {g h : Heap} {v : AV} {l : List Int} {n : Nat} (hg : Ext g h) (hv : Sl (RN .i64) 1 g v l) (hn : n ≤ 1000) (hl : l.length ≤ 9223372036854775807) :
    HCallC Tryz.prog ann 35 [v, .int .i64 (n : Int)] h fun w h' => ∃ cs, OSl h 1 w cs (l.take n).length h' ∧ Chunks (RN .i64 h) 1 cs (l.take n) := by
  have hv := hv.mono RN.mono hg
  refine s_call_x rfl Tryz.func35 (frc (by with_unfolding_all rfl)) rfl ?_
  (repeat (first | ((with_reducible apply o_valM); exact rfl; exact rfl; exact rfl; exact trivial) | (with_reducible first | apply s_seq | apply s_reg0 | apply o_nil | apply ssq_norm)))
  apply o_lenG rfl rfl .refl hv
  (repeat ((with_reducible apply o_valM); exact rfl; exact rfl; exact rfl; exact trivial))
  apply o_as (w := .int .i64 ((min l.length n : Nat) : Int)) rfl rfl trivial (min_nat _ _)
  apply o_sltS (a := 0) (b := min l.length n) rfl rfl hv rfl rfl (Nat.zero_le _) (Nat.min_le_left _ _)
  intro w hw
  have hw2 : Sl (RN .i64) 1 h w (l.take n) := by
    have e : (l.take (min l.length n)).drop 0 = l.take n := by rw [List.drop_zero, List.take_eq_take_iff]; omega
    rwa [e] at hw
  obtain ⟨cs, c1, c2, c3⟩ := sl_cells hw2 (fun c a hc => by rw [hc]; rfl)
  have hlen : (l.take n).length ≤ 1000 := by rw [List.length_take]; omega
  apply o_appO (hb := h) (old := []) (l := 0) (new := cs) rfl rfl rfl rfl (OSl.nil .refl) (srcOf_V c1) c1.len c3 (by omega)
  intro v2 h2 H2 _
  rw [List.nil_append, Nat.zero_add] at H2
  (repeat (first | ((with_reducible apply o_valW); exact rfl; exact rfl; exact rfl; exact trivial) | (with_reducible first | apply s_ret | apply o_nil | apply ssq_norm)))
  (first | apply hx_ret | apply hx_norm)
  · exact rfl
  · exact rfl
  · rw [killL_nil]
    exact ⟨cs, H2, c2⟩
  · intro ht
    left
    refine ⟨cs, ?_, c2⟩
    show OSl h 1 v2 cs _ h
    rcases H2.own with ⟨rfl, h3, h4⟩ | ⟨i, rfl, _⟩
    · rw [h3, h4]
      exact .nil .refl
    · cases ht
theorem OSl_grow {g gg h : Heap} {s n : Nat} {v : AV} {cs : List AV} (H : OSl gg s v cs n h) (hx : Ext g gg) : ∃ g', Ext g g' ∧ Ext g' h ∧ VSl g' s v cs n ∧ ∀ id, g id = none → (gg id ≠ none ∨ h id = none) → g' id = none := by
  rcases H.own with ⟨rfl, rfl, rfl⟩ | ⟨i, rfl, h1, h2, h3⟩
  · exact ⟨g, .refl, hx.trans H.ext, .nil, fun _ h _ => h⟩
  · have hgi : g i = none := by
      cases hh : g i with
      | none => rfl
      | some o => rw [hx i o hh] at h1; cases h1
    refine ⟨upd g i (some (.cells cs)), .upd hgi, fun id o e => ?_, .sl i 0 n cs cs upd_same (sliceL_all h3), fun id a b => ?_⟩
    · unfold upd at e
      split at e
      · rename_i hid
        rw [hid, h2, e]
      · exact H.ext id o (hx id o e)
    · rw [upd_ne (fun e => ?_)]
      · exact a
      · subst e
        rcases b with b | b
        · exact b h1
        · rw [h2] at b
          cases b
structure Cls.Small (c : Cls) : Prop where
  name : c.name.length ≤ 12
  refs : c.refs.length ≤ 10
  subs : c.subs.length ≤ 20
  slots : c.slots.length ≤ 10
  faces : c.faces.length ≤ 6
structure Mth.Small (m : Mth) : Prop where
  code : m.code.length ≤ 30
  traps : m.traps.length ≤ 4
structure Image.Small (m : Image) : Prop where
  classes : m.classes.length ≤ 20 ∧ ∀ c ∈ m.classes, Cls.Small c
  methods : m.methods.length ≤ 12 ∧ ∀ c ∈ m.methods, Mth.Small c
  given : m.given.length ≤ 12
  words : m.words.length ≤ 200
  rel : m.rel.length ≤ 60
  stat : m.stat.length ≤ 20
  statref : m.statref.length ≤ 20
theorem eList_le {α : Type} {e : α → B} {l : List α} {k n : Nat} (h : ∀ a ∈ l, (e a).length ≤ k) (hl : l.length ≤ n) (hn : n ≤ 1000) : (eList e l).length ≤ 10 + n * k := by
  unfold eList
  rw [List.length_append]
  have h1 := put_len (n := l.length) (by unfold I64; omega)
  have h2 : (l.flatMap e).length ≤ l.length * k := by
    clear hl h1
    induction l with
    | nil => simp
    | cons a l ih =>
      rw [List.flatMap_cons, List.length_append, List.length_cons, Nat.add_mul]
      have := h a (by simp)
      have := ih (fun b hb => h b (by simp [hb]))
      omega
  have h3 : l.length * k ≤ n * k := Nat.mul_le_mul_right k hl
  omega
theorem eTruth_le (t : Bool) : (eTruth t).length ≤ 10 := put_len (by unfold I64; split <;> omega)
theorem eFour_le {p : Four} (h : F64 p) : (eFour p).length ≤ 40 := by
  unfold eFour
  simp only [List.length_append]
  have := put_len h.1
  have := put_len h.2.1
  have := put_len h.2.2.1
  have := put_len h.2.2.2
  omega
theorem eCls_le {c : Cls} (hw : c.WF) (hs : Cls.Small c) : (eCls c).length ≤ 700 := by
  unfold eCls eText
  simp only [List.length_append]
  have := hs.name
  have := put_len (n := c.name.length) (by unfold I64; omega)
  have := put_len hw.super
  have := put_len hw.init
  have := put_len hw.array
  have := put_len hw.elem
  have := eTruth_le c.thrown
  have := eList_le (e := eTruth) (k := 10) (fun a _ => eTruth_le a) hs.refs (by decide)
  have := eList_le (e := put) (k := 10) (fun a ha => put_len (hw.subs.2 a ha)) hs.subs (by decide)
  have := eList_le (e := put) (k := 10) (fun a ha => put_len (hw.slots.2 a ha)) hs.slots (by decide)
  have := eList_le (e := ePair) (k := 20) (fun a ha => by
    unfold ePair
    rw [List.length_append]
    have := put_len (hw.faces.2 a ha).1
    have := put_len (hw.faces.2 a ha).2
    omega) hs.faces (by decide)
  omega
theorem eMth_le {m : Mth} (hw : m.WF) (hs : Mth.Small m) : (eMth m).length ≤ 1500 := by
  unfold eMth
  simp only [List.length_append]
  have := put_len hw.args
  have := put_len hw.locals
  have := put_len hw.stack
  have := eTruth_le m.gives
  have := eList_le (e := eFour) (k := 40) (fun a ha => eFour_le (hw.code.2 a ha)) hs.code (by decide)
  have := eList_le (e := eFour) (k := 40) (fun a ha => eFour_le (hw.traps.2 a ha)) hs.traps (by decide)
  omega
theorem i64_of_32 {n : Int} (h : I32 n) : I64 n := by unfold I32 at h; unfold I64; omega
theorem small_len {m : Image} (hw : m.WF) (hs : Image.Small m) : (Img.body m).length ≤ 50000 := by
  unfold Img.body
  simp only [List.length_append]
  have := eList_le (e := eCls) (k := 700) (fun a ha => eCls_le (hw.classes.2 a ha) (hs.classes.2 a ha)) hs.classes.1 (by decide)
  have := eList_le (e := eMth) (k := 1500) (fun a ha => eMth_le (hw.methods.2 a ha) (hs.methods.2 a ha)) hs.methods.1 (by decide)
  have := put_len hw.entry
  have := put_len hw.need
  have := eList_le (e := put) (k := 10) (fun a ha => put_len (hw.given.2 a ha)) hs.given (by decide)
  have := eList_le (e := put) (k := 10) (fun a ha => put_len (i64_of_32 (hw.words.2 a ha))) hs.words (by decide)
  have := eList_le (e := put) (k := 10) (fun a ha => put_len (hw.rel.2 a ha)) hs.rel (by decide)
  have := eList_le (e := put) (k := 10) (fun a ha => put_len (i64_of_32 (hw.stat.2 a ha))) hs.stat (by decide)
  have := eList_le (e := eTruth) (k := 10) (fun a _ => eTruth_le a) hs.statref (by decide)
  omega
end Go.Proofs
end
section
open Go Go.Abs Go.Proofs.SlimCode Go.Img
namespace Go.Proofs
section
variable {P : Program} {A : Ann} {f nt : Nat} {E : Env} {bx : List Nat} {h : Heap} {Q : AX → Env → List Nat → Heap → Prop} {h0 : Heap} {α : Type} {R : Heap → List AV → α → Prop} {l : List α} {g : Heap}
theorem o_sltG {q d s : Nat} {x : SX} {lo hi : Option SX} {r : List SO} {v : AV} {b : Nat} (hlt : (decide (d < nt)) = true) (hx : ev (lk E) x = some v) (hv : Sl R s g v l) (hlo : evI (lk E) 0 lo = some 0) (hhi : evI (lk E) l.length hi = some (b : Int)) (h3 : b ≤ l.length)
    (H : ∀ w, Sl R s g w (l.take b) → SOps P A f nt h0 (q - 1) r ((d, w) :: E) bx h Q) : SOps P A f nt h0 q (⟨some d, none, .slt x lo hi s⟩ :: r) E bx h Q := by
  obtain ⟨cs, c1, c2⟩ := hv
  have hl := c1.len
  have hlb : (l.take b).length = b := by rw [List.length_take]; omega
  have hb2 : b * s ≤ l.length * s := Nat.mul_le_mul_right s h3
  have hch := c2.take b
  have hlen : (cs.take (b * s)).length = b * s := by rw [List.length_take]; omega
  obtain ⟨z, hz⟩ : ∃ z : Int, z = 0 := ⟨0, rfl⟩
  replace hlo : evI (lk E) 0 lo = some z := by rw [hz]; exact hlo
  generalize hn : l.length = n at c1 hhi h3 hl hb2
  cases c1 with
  | nil =>
    refine o_val (p := z = 0 ∧ (b : Int) = 0) (v := .nil .sl) hlt (by simp only [sv, hx, hlo]; rw [show ((0 : Nat) : Int) = 0 from rfl] at hhi; rw [hhi]) ⟨hz, by omega⟩ (H _ ⟨_, ?_, hch⟩)
    have e : b = 0 := by omega
    subst e
    rw [hlb]
    simpa using VSl.nil
  | tsl _ _ _ =>
    refine o_val (p := 0 ≤ z ∧ z ≤ b ∧ (b : Int) ≤ n) (v := .tsl ((cs.take ((b : Int).toNat * s)).drop (z.toNat * s)) ((b : Int).toNat - z.toNat)) hlt (by simp only [sv, hx, hlo, hhi]) ⟨by omega, by omega, by omega⟩ (H _ ⟨_, ?_, hch⟩)
    rw [hlb, hz, Int.toNat_natCast, show (0 : Int).toNat = 0 from rfl, Nat.zero_mul, List.drop_zero, Nat.sub_zero]
    exact .tsl _ _ hlen
  | sl id off _ os _ hid hc =>
    refine o_val (p := s = s ∧ 0 ≤ z ∧ z ≤ b ∧ (b : Int) ≤ n) (v := .sl id (off + z.toNat * s) ((b : Int).toNat - z.toNat) s) hlt (by simp only [sv, hx, hlo, hhi]) ⟨rfl, by omega, by omega, by omega⟩ (H _ ⟨_, ?_, hch⟩)
    rw [hlb, hz, Int.toNat_natCast, show (0 : Int).toNat = 0 from rfl, Nat.zero_mul, Nat.add_zero, Nat.sub_zero]
    refine .sl id off b os _ hid ?_
    have := sliceL_sub hc (sliceL_of (l := cs) (o := 0) (n := b * s) (by omega))
    rwa [Nat.add_zero, List.drop_zero] at this
theorem o_appTS {q d s b : Nat} {x y : SX} {r : List SO} {w : AV} (hlt : (decide (d < nt)) = true) (hx : ev (lk E) x = some (.nil .sl)) (hy : ev (lk E) y = some w) (hg : Ext g h) (hw : Sl R s g w l) (hone : ∀ c a, R g c a → c.all AV.one = true) (hbd : l.length * (b + 1) ≤ 2 ^ 44) (hq : 0 < q → Ext h h0)
    (H : ∀ w', Sl R s g w' l → SOps P A f nt h0 (q - 1) r ((d, w') :: E) bx h Q) : SOps P A f nt h0 q (⟨some d, none, .appT s b x y⟩ :: r) E bx h Q := by
  obtain ⟨cs, c1, c2, c3⟩ := sl_cells hw hone
  refine o_appTn hlt hx hy (srcOf_V (c1.mono hg)) c1.len c3 hbd (fun hlt id o n z e => ?_) (H _ ⟨cs, .of_T (tslOf_T c1.len), c2⟩)
  subst e
  cases c1 with
  | sl _ _ _ os _ hid _ =>
    rw [hq hlt _ _ (hg _ _ hid)]
    simp
end
structure Acc {α : Type} (R : Heap → List AV → α → Prop) (s : Nat) (h G h' : Heap) (bx : List Nat) (v : AV) (out : List α) : Prop where
  hG : Ext h G
  Gh : Ext G h'
  bxs : ∀ b ∈ bx, G b = none ∧ h' b ≠ none
  own : (v = .nil .sl ∧ out = []) ∨ ∃ i cs, v = .sl i 0 out.length s ∧ G i = none ∧ i ∉ bx ∧ h' i = some (.cells cs) ∧ Chunks (R G) s cs out
section
variable {α : Type} {R : Heap → List AV → α → Prop} {s : Nat} {h G h' h2 : Heap} {bx : List Nat} {v v' : AV} {out : List α}
theorem Acc.base0 (H : Acc R s h G h' bx v out) {b : Nat} (hb : b ∈ bx) : h b = none := by
  cases e : h b with
  | none => rfl
  | some o =>
    have := (H.bxs b hb).1
    rw [H.hG b o e] at this
    cases this
theorem Acc.start (hG : Ext h G) (Gh : Ext G h') (hb : ∀ b ∈ bx, G b = none ∧ h' b ≠ none) : Acc R s h G h' bx (.nil .sl) [] := ⟨hG, Gh, hb, .inl ⟨rfl, rfl⟩⟩
theorem Acc.up (H : Acc R s h G h' bx v out) (hx : Ext h' h2) : Acc R s h G h2 bx v out := by
  refine ⟨H.hG, H.Gh.trans hx, fun b hb => ⟨(H.bxs b hb).1, ?_⟩, ?_⟩
  · have := (H.bxs b hb).2
    cases e : h' b with
    | none => exact absurd e this
    | some o => rw [hx b o e]; simp
  · rcases H.own with h2 | ⟨i, cs, e, g1, g2, g3, g4⟩
    · exact .inl h2
    · exact .inr ⟨i, cs, e, g1, g2, hx _ _ g3, g4⟩
theorem Acc.set (H : Acc R s h G h' bx v out) {b : Nat} {o : AObj} (hb : b ∈ bx) : Acc R s h G (upd h' b (some o)) bx v out := by
  refine ⟨H.hG, fun id o' e => ?_, fun c hc => ⟨(H.bxs c hc).1, ?_⟩, ?_⟩
  · rw [upd_ne (fun e' => by rw [e', (H.bxs b hb).1] at e; cases e)]
    exact H.Gh id o' e
  · unfold upd
    split
    · simp
    · exact (H.bxs c hc).2
  · rcases H.own with h2 | ⟨i, cs, e, g1, g2, g3, g4⟩
    · exact .inl h2
    · exact .inr ⟨i, cs, e, g1, g2, by rw [upd_ne (fun e' => g2 (by rw [e']; exact hb))]; exact g3, g4⟩
theorem Acc.box (H : Acc R s h G h' bx v out) {b : Nat} {o : AObj} (hb : h' b = none) : Acc R s h G (upd h' b (some o)) (b :: bx) v out := by
  have hGb : G b = none := by
    cases e : G b with
    | none => rfl
    | some o => rw [H.Gh b o e] at hb; cases hb
  refine ⟨H.hG, H.Gh.trans (.upd hb), fun c hc => ?_, ?_⟩
  · rcases List.mem_cons.1 hc with rfl | hc
    · exact ⟨hGb, by rw [upd_same]; simp⟩
    · refine ⟨(H.bxs c hc).1, ?_⟩
      rw [upd_ne (fun e => (H.bxs c hc).2 (by rw [e]; exact hb))]
      exact (H.bxs c hc).2
  · rcases H.own with h2 | ⟨i, cs, e, g1, g2, g3, g4⟩
    · exact .inl h2
    · have hib : i ≠ b := fun e' => by rw [e', hb] at g3; cases g3
      exact .inr ⟨i, cs, e, g1, by simp [hib, g2], by rw [upd_ne hib]; exact g3, g4⟩
theorem Acc.osl (H : Acc R s h G h' bx v out) : ∃ cs, Chunks (R G) s cs out ∧ OSl (minus h' v) s v cs out.length h' := by
  rcases H.own with ⟨rfl, rfl⟩ | ⟨i, cs, rfl, g1, g2, g3, g4⟩
  · exact ⟨[], .nil, .nil .refl⟩
  · refine ⟨cs, g4, fun id o e => ?_, .inr ⟨i, rfl, upd_same, g3, g4.len⟩⟩
    by_cases hid : id = i
    · subst hid
      rw [show minus h' (.sl id 0 out.length s) id = none from upd_same] at e
      cases e
    · rw [show minus h' (.sl i 0 out.length s) id = h' id from upd_ne hid] at e
      exact e
theorem Acc.stay (H : Acc R s h G h' bx v out) : Ext G (minus h' v) ∧ ∀ b ∈ bx, minus h' v b = h' b := by
  rcases H.own with ⟨rfl, rfl⟩ | ⟨i, cs, rfl, g1, g2, g3, g4⟩
  · exact ⟨H.Gh, fun _ _ => rfl⟩
  · refine ⟨fun id o e => ?_, fun b hb => upd_ne (fun e => g2 (by rw [← e]; exact hb))⟩
    exact (upd_ne (fun hid => by rw [hid, g1] at e; cases e)).trans (H.Gh id o e)
theorem Acc.app (H : Acc R s h G h' bx v out) {cs c : List AV} {a : α} (hcs : Chunks (R G) s cs out) (hc : R G c a) (hl : c.length = s) (O : OSl (minus h' v) s v' (cs ++ c) (out.length + 1) h2) : Acc R s h G h2 bx v' (out ++ [a]) := by
  obtain ⟨s1, s2⟩ := H.stay
  have live : ∀ b ∈ bx, h2 b = h' b := fun b hb => by
    have h3 := (H.bxs b hb).2
    have h4 := s2 b hb
    cases e : h' b with
    | none => exact absurd e h3
    | some o => rw [O.ext b o (by rw [h4, e])]
  refine ⟨H.hG, s1.trans O.ext, fun b hb => ⟨(H.bxs b hb).1, by rw [live b hb]; exact (H.bxs b hb).2⟩, ?_⟩
  rcases O.own with ⟨_, _, h0⟩ | ⟨i, e, g1, g2, g3⟩
  · omega
  · refine .inr ⟨i, cs ++ c, by rw [e]; simp, ?_, fun hi => ?_, g2, hcs.append (.one hl hc)⟩
    · cases e2 : G i with
      | none => rfl
      | some o => rw [s1 i o e2] at g1; cases g1
    · rw [s2 i hi] at g1
      exact (H.bxs i hi).2 g1
theorem Acc.live {b : Nat} {o : AObj} (H : Acc R s h G h' bx v out) (O : Ext (minus h' v) h2) (hb : b ∈ bx) (e : h' b = some o) : h2 b = some o := O b o (by rw [H.stay.2 b hb, e])
theorem Acc.grow {G2 : Heap} (hR : Mono R) (H : Acc R s h G h' bx v out) (hx : Ext G G2) (hh : Ext G2 h') (hb : ∀ id, G id = none → (id ∈ bx ∨ ∃ n, v = .sl id 0 n s) → G2 id = none) : Acc R s h G2 h' bx v out := by
  refine ⟨H.hG.trans hx, hh, fun b hb2 => ⟨hb b (H.bxs b hb2).1 (.inl hb2), (H.bxs b hb2).2⟩, ?_⟩
  rcases H.own with h2 | ⟨i, cs, e, g1, g2, g3, g4⟩
  · exact .inl h2
  · exact .inr ⟨i, cs, e, hb i g1 (.inr ⟨_, e⟩), g2, g3, g4.imp fun c a => hR _ _ c a hx⟩
theorem Acc.fold (hR : Mono R) (H : Acc R s h G h' bx v out) : ∃ G2, Ext G G2 ∧ Ext G2 h' ∧ Sl R s G2 v out ∧ ∀ b ∈ bx, G2 b = none := by
  rcases H.own with ⟨rfl, rfl⟩ | ⟨i, cs, rfl, g1, g2, g3, g4⟩
  · exact ⟨G, .refl, H.Gh, .nil, fun b hb => (H.bxs b hb).1⟩
  · refine ⟨upd G i (some (.cells cs)), .upd g1, fun id o e => ?_, ⟨cs, .sl i 0 _ cs cs upd_same (sliceL_all g4.len), g4.imp fun c a => hR _ _ c a (.upd g1)⟩, fun b hb => ?_⟩
    · unfold upd at e
      split at e
      · rename_i hid
        rw [hid, g3, e]
      · exact H.Gh id o e
    · rw [upd_ne (fun e => g2 (by rw [← e]; exact hb))]
      exact (H.bxs b hb).1
theorem Acc.live0 (H : Acc R s h G h' bx v out) {id : Nat} (hid : id ∈ bx ∨ ∃ n, v = .sl id 0 n s) : h' id ≠ none := by
  rcases hid with hid | ⟨n, rfl⟩
  · exact (H.bxs id hid).2
  · rcases H.own with ⟨h0, _⟩ | ⟨i, cs, e, g1, g2, g3, g4⟩
    · cases h0
    · cases e
      rw [g3]
      simp
theorem Acc.growD {s' n : Nat} {w : AV} {cs : List AV} {q : Heap} (hR : Mono R) (H : Acc R s h G h' bx v out) (O : OSl h' s' w cs n q) : ∃ G1, Ext G G1 ∧ VSl G1 s' w cs n ∧ Acc R s h G1 q bx v out := by
  obtain ⟨G1, g1, g2, g3, g4⟩ := OSl_grow O H.Gh
  exact ⟨G1, g1, g3, (H.up O.ext).grow hR g1 g2 fun id h0 hid => g4 id h0 (.inl (H.live0 hid))⟩
theorem Acc.growO {s' n b5 : Nat} {w : AV} {cs : List AV} {q : Heap} (hR : Mono R) (H : Acc R s h G h' bx v out) (hb : b5 ∈ bx) (O : OSl (killL [b5] h') s' w cs n q) (h0 : ∀ id ∈ [b5], q id = none) :
    ∃ G1, Ext G G1 ∧ VSl G1 s' w cs n ∧ Acc R s h G1 (joinS [b5] h' q) bx v out := by
  have hGk : Ext G (killL [b5] h') := H.Gh.kill fun i hi => by
    simp only [List.mem_cons, List.not_mem_nil, or_false] at hi
    subst hi
    exact (H.bxs _ hb).1
  obtain ⟨G1, g1, g2, g3, g4⟩ := OSl_grow O hGk
  have key : ∀ id, G id = none → (id ∈ bx ∨ ∃ n, v = .sl id 0 n s) → G1 id = none := fun id e hid => by
    refine g4 id e ?_
    by_cases hi : id = b5
    · right
      rw [hi]
      exact h0 b5 (by simp)
    · left
      rw [kill_out (by simpa using hi)]
      exact H.live0 hid
  refine ⟨G1, g1, g3, (H.up (ext_join O.ext)).grow hR g1 (ext_joinR g2 fun id hid => ?_) key⟩
  simp only [List.mem_cons, List.not_mem_nil, or_false] at hid
  subst hid
  exact key _ (H.bxs _ hb).1 (.inl hb)
end
theorem trees_append : ∀ (a b : List AV), AV.trees (a ++ b) = (AV.trees a && AV.trees b)
  | [], b => by simp [AV.trees]
  | x :: a, b => by
    rw [List.cons_append]
    simp only [AV.trees]
    rw [trees_append a b, Bool.and_assoc]
theorem vsl_tree {g h : Heap} {s n : Nat} {v : AV} {cs : List AV} (H : VSl g s v cs n) (ht : v.tree = true) : VSl h s v cs n ∧ AV.trees cs = true := by
  cases H with
  | nil => exact ⟨.nil, rfl⟩
  | tsl _ _ hl => exact ⟨.tsl _ _ hl, by simpa [AV.tree] using ht⟩
  | sl _ _ _ _ _ _ _ => cases ht
def TreeR {α : Type} (R : Heap → List AV → α → Prop) : Prop := ∀ g h c a, AV.trees c = true → R g c a → R h c a
theorem sl_tree {α : Type} {R : Heap → List AV → α → Prop} (hR : TreeR R) {g h : Heap} {s : Nat} {v : AV} {l : List α} (H : Sl R s g v l) (ht : v.tree = true) : Sl R s h v l := by
  obtain ⟨cs, h1, h2⟩ := H
  obtain ⟨h3, h4⟩ := vsl_tree (h := h) h1 ht
  refine ⟨cs, h3, ?_⟩
  clear h1 h3
  induction h2 with
  | nil => exact .nil
  | cons hl ha H ih =>
    rw [trees_append, Bool.and_eq_true] at h4
    exact .cons hl (hR _ _ _ _ h4.1 ha) (ih h4.2)
theorem tr_n {k : IntKind} : TreeR (RN k) := fun _ _ _ _ _ h => h
theorem tr_b : TreeR RB := fun _ _ _ _ _ h => h
theorem tr_p : TreeR RPair := fun _ _ _ _ _ h => h
theorem tr_f : TreeR RFour := fun _ _ _ _ _ h => h
theorem tr_c : TreeR RCls := by
  rintro g h c a ht ⟨vr, vs, vt, vf, rfl, h1, h2, h3, h4⟩
  simp only [AV.trees, Bool.and_eq_true] at ht
  exact ⟨vr, vs, vt, vf, rfl, sl_tree tr_b h1 ht.2.2.2.1, sl_tree tr_n h2 ht.2.2.2.2.1, sl_tree tr_n h3 ht.2.2.2.2.2.1, sl_tree tr_p h4 ht.2.2.2.2.2.2.1⟩
theorem tr_m : TreeR RMth := by
  rintro g h c a ht ⟨vc, vt, rfl, h1, h2⟩
  simp only [AV.trees, Bool.and_eq_true] at ht
  exact ⟨vc, vt, rfl, sl_tree tr_f h1 ht.2.2.2.2.1, sl_tree tr_f h2 ht.2.2.2.2.2.1⟩
theorem tr_i : TreeR RImg := by
  rintro g h c a ht ⟨vc, vm, vg, vw, vr, vs, vf, rfl, h1, h2, h3, h4, h5, h6, h7⟩
  simp only [AV.trees, Bool.and_eq_true] at ht
  exact ⟨vc, vm, vg, vw, vr, vs, vf, rfl, sl_tree tr_c h1 ht.1, sl_tree tr_m h2 ht.2.1, sl_tree tr_n h3 ht.2.2.2.2.1, sl_tree tr_n h4 ht.2.2.2.2.2.1, sl_tree tr_n h5 ht.2.2.2.2.2.2.1, sl_tree tr_n h6 ht.2.2.2.2.2.2.2.1, sl_tree tr_b h7 ht.2.2.2.2.2.2.2.2.1⟩
end Go.Proofs
end
section
open Go Go.Abs Go.Proofs.SlimCode Go.Img
set_option maxRecDepth 100000
namespace Go.Proofs
def Z9 : List AV := [.nil .sl, .nil .sl, .int .i64 0, .int .i64 0, .nil .sl, .nil .sl, .nil .sl, .nil .sl, .nil .sl]
def O9 (xc xm : AV) (e n : Int) (xg xw xr xs xf : AV) : List AV := [xc, xm, I e, I n, xg, xw, xr, xs, xf]
theorem p15 {h : Heap} {c : List AV} {m : Image} (hc : RImg h c m) (hw : m.Wide) :
    HCallC Tryz.prog ann 15 [.agg c] h fun v h' => Ext h h' ∧ ∃ c' m', v = .agg c' ∧ RImg h' c' m' ∧ m'.WF ∧ Image.Small m' := by
  have hone := hc.one
  obtain ⟨vc, vm, vg, vw, vr, vs, vf, rfl, v1, v2, v3, v4, v5, v6, v7⟩ := hc
  refine s_call_R rfl Tryz.func15 (frc (by with_unfolding_all rfl)) rfl ?_
  (repeat ((with_reducible first | apply s_seq | apply s_reg0)))
  apply o_val rfl rfl hone
  apply o_alc rfl
  intro b2 hb2
  (repeat (first | ((with_reducible apply o_valM); exact rfl; exact rfl; exact rfl; exact trivial) | (with_reducible first | apply s_seq | apply s_reg0 | apply o_nil | apply ssq_norm)))
  ((with_reducible apply o_valW); exact rfl; exact rfl; exact rfl; exact trivial)
  apply o_alc rfl
  intro b3 hb3'
  obtain ⟨h32, hb3⟩ := upd_none hb3'
  apply o_st (v := .agg (O9 (.nil .sl) (.nil .sl) m.entry m.need (.nil .sl) (.nil .sl) (.nil .sl) (.nil .sl) (.nil .sl))) rfl rfl rfl rfl rfl rfl upd_same rfl
  rw [upd_upd]
  have A0 : Acc RCls 10 h h (upd (upd h b2 (some (.cells Z9))) b3 (some (.cells (O9 (.nil .sl) (.nil .sl) m.entry m.need (.nil .sl) (.nil .sl) (.nil .sl) (.nil .sl) (.nil .sl))))) [b3, b2] (.nil .sl) [] := by
    refine Acc.start .refl ((Ext.upd hb2).trans (.upd hb3')) fun b hb => ?_
    simp only [List.mem_cons, List.not_mem_nil, or_false] at hb
    rcases hb with rfl | rfl
    · exact ⟨hb3, by rw [upd_same]; simp⟩
    · exact ⟨hb2, by rw [upd_ne h32.symm, upd_same]; simp⟩
  with_reducible apply o_nil
  with_reducible apply ssq_norm
  refine s_joinB (σ := List Nat × Heap × AV × List Cls) (fun _ => [(1, .tptr [vc, vm, I m.entry, I m.need, vg, vw, vr, vs, vf] 0), (2, .ptr b2 0), (3, .ptr b3 0)]) (fun s => s.1)
    (fun s h' => Acc RCls 10 h s.2.1 h' s.1 s.2.2.1 s.2.2.2 ∧ b2 ∈ s.1 ∧ b3 ∈ s.1 ∧ h' b2 = some (.cells Z9) ∧ h' b3 = some (.cells (O9 s.2.2.1 (.nil .sl) m.entry m.need (.nil .sl) (.nil .sl) (.nil .sl) (.nil .sl) (.nil .sl))) ∧ s.2.2.2.length ≤ 20 ∧ ∀ x ∈ s.2.2.2, x.WF ∧ Cls.Small x) ?_ ?_
  · (repeat (first | ((with_reducible apply o_valM); exact rfl; exact rfl; exact rfl; exact trivial) | (with_reducible first | apply s_seq | apply s_reg0 | apply s_block | apply o_nil | apply ssq_norm)))
    refine s_loopB (fun s : Nat × List Nat × Heap × AV × List Cls => [(1, .tptr [vc, vm, I m.entry, I m.need, vg, vw, vr, vs, vf] 0), (2, .ptr b2 0), (3, .ptr b3 0), (4, .int .i64 (s.1 : Int))]) (fun s => s.2.1)
      (fun s h' => s.1 ≤ m.classes.length ∧ s.1 ≤ 20 ∧ s.2.2.2.2.length = s.1 ∧ Acc RCls 10 h s.2.2.1 h' s.2.1 s.2.2.2.1 s.2.2.2.2 ∧ b2 ∈ s.2.1 ∧ b3 ∈ s.2.1 ∧ h' b2 = some (.cells Z9) ∧ h' b3 = some (.cells (O9 s.2.2.2.1 (.nil .sl) m.entry m.need (.nil .sl) (.nil .sl) (.nil .sl) (.nil .sl) (.nil .sl))) ∧ ∀ x ∈ s.2.2.2.2, x.WF ∧ Cls.Small x)
      (fun s => 20 - s.1) (0, [b3, b2], h, .nil .sl, []) (sub_cons rfl (sub_cons rfl (sub_cons rfl (sub_cons rfl sub_nil)))) rfl
      ⟨Nat.zero_le _, Nat.zero_le _, rfl, A0, by simp, by simp, by rw [upd_ne h32.symm, upd_same]; rfl, upd_same, by simp⟩ ?_
    rintro ⟨k, bx, G, xc, out⟩ h1' ⟨hk, hk2, hol, A1, mb2, mb3, hb2v, hb3v, hsm⟩
    simp only at hk hk2 hol A1 mb2 mb3 hb2v hb3v hsm ⊢
    (repeat (first | ((with_reducible apply o_valM); exact rfl; exact rfl; exact rfl; exact trivial) | (with_reducible first | apply s_seq | apply s_reg0)))
    apply o_lenG rfl rfl (A1.hG.trans A1.Gh) v1
    ((with_reducible apply o_bool); exact rfl; exact rfl; exact trivial; intro b1 h1; cases b1)
    case false =>
      (repeat (first | ((with_reducible apply o_valW); exact rfl; exact rfl; exact rfl; exact trivial) | (with_reducible first | apply s_exit | apply o_nil | apply ssq_norm | apply ssq_exit | apply sbq_hit | apply slqB_exit) | ((with_reducible apply s_condF); exact rfl) | ((with_reducible apply o_guardF); exact rfl; exact rfl)))
      refine ⟨(bx, G, xc, out), sub_cons rfl (sub_cons rfl (sub_cons rfl sub_nil)), rfl, A1, mb2, mb3, hb2v, hb3v, (by rw [hol]; exact hk2), hsm⟩
    (repeat (first | ((with_reducible apply o_valM); exact rfl; exact rfl; exact rfl; exact trivial) | ((with_reducible apply o_guardT); exact rfl; exact rfl)))
    ((with_reducible apply o_bool); exact rfl; exact rfl; exact trivial; intro b2 h2; cases b2)
    case false =>
      (repeat (first | ((with_reducible apply o_valW); exact rfl; exact rfl; exact rfl; exact trivial) | (with_reducible first | apply s_exit | apply o_nil | apply ssq_norm | apply ssq_exit | apply sbq_hit | apply slqB_exit) | ((with_reducible apply s_condF); exact rfl)))
      refine ⟨(bx, G, xc, out), sub_cons rfl (sub_cons rfl (sub_cons rfl sub_nil)), rfl, A1, mb2, mb3, hb2v, hb3v, (by rw [hol]; exact hk2), hsm⟩
    have hkl : k < m.classes.length := by simpa using h1
    have hk20 : k < 20 := by simp at h2; omega
    have hcw := hw.classes.2 _ (List.getElem_mem hkl)
    (repeat (first | ((with_reducible apply o_valM); exact rfl; exact rfl; exact rfl; exact trivial) | (with_reducible first | apply s_seq | apply s_reg0 | apply s_skip | apply s_block | apply o_nil | apply ssq_norm) | ((with_reducible apply s_condT); exact rfl)))
    apply o_iaG rfl rfl rfl (A1.hG.trans A1.Gh) v1 hkl
    intro p c hpc hc hcl
    apply o_ldVn rfl rfl hpc hcl (fun h => by omega)
    apply o_alc rfl
    intro b5 hb5
    apply o_st (v := .agg c) rfl rfl rfl rfl hcl (RCls.one hc) upd_same (splice_full (show c.length = _ by rw [hcl]; rfl))
    rw [upd_upd, show (AV.agg c).cells = c from rfl]
    generalize hx : m.classes[k] = x at hc hcw
    obtain ⟨ur, us, ut, uf, rfl, u1, u2, u3, u4⟩ := hc
    have mb2' : b2 ∈ b5 :: bx := List.mem_cons_of_mem _ mb2
    have mb3' : b3 ∈ b5 :: bx := List.mem_cons_of_mem _ mb3
    have n25 : b2 ≠ b5 := fun e => by rw [e, hb5] at hb2v; cases hb2v
    have n35 : b3 ≠ b5 := fun e => by rw [e, hb5] at hb3v; cases hb3v
    have A2 := A1.box (o := .cells [.str x.name, I x.super, I x.init, ur, us, ut, uf, I x.array, I x.elem, .bool x.thrown]) hb5
    have e5 : upd h1' b5 (some (.cells [.str x.name, I x.super, I x.init, ur, us, ut, uf, I x.array, I x.elem, .bool x.thrown])) b5 = _ := upd_same
    replace hb2v := (upd_ne (v := some (.cells [.str x.name, I x.super, I x.init, ur, us, ut, uf, I x.array, I x.elem, .bool x.thrown])) n25).trans hb2v
    replace hb3v := (upd_ne (v := some (.cells [.str x.name, I x.super, I x.init, ur, us, ut, uf, I x.array, I x.elem, .bool x.thrown])) n35).trans hb3v
    show SOps _ _ _ _ _ _ _ _ (b5 :: bx) (upd h1' b5 (some (.cells [.str x.name, I x.super, I x.init, ur, us, ut, uf, I x.array, I x.elem, .bool x.thrown]))) _
    generalize upd h1' b5 (some (.cells [.str x.name, I x.super, I x.init, ur, us, ut, uf, I x.array, I x.elem, .bool x.thrown])) = k1 at A2 e5 hb2v hb3v ⊢
    (repeat (first | ((with_reducible apply o_valM); exact rfl; exact rfl; exact rfl; exact trivial) | (with_reducible first | apply s_seq | apply s_reg0 | apply o_nil | apply ssq_norm)))
    apply o_ldh rfl rfl e5 (fun h => by omega) rfl
    apply o_hcall rfl rfl rfl rfl (p34 (s := x.name) (by have := hcw.name; omega)).go
    rintro _ k2 ⟨rfl, hx2⟩
    (repeat ((with_reducible apply o_valM); exact rfl; exact rfl; exact rfl; exact trivial))
    apply o_st1 rfl rfl rfl rfl rfl (hx2 _ _ e5) (show (0 : Nat) < 10 by decide)
    have A3 := (A2.up hx2).set (b := b5) (o := .cells [.str (x.name.take 12), I x.super, I x.init, ur, us, ut, uf, I x.array, I x.elem, .bool x.thrown]) (by simp)
    have f5 : upd k2 b5 (some (.cells [.str (x.name.take 12), I x.super, I x.init, ur, us, ut, uf, I x.array, I x.elem, .bool x.thrown])) b5 = _ := upd_same
    replace hb2v := (upd_ne (v := some (.cells [.str (x.name.take 12), I x.super, I x.init, ur, us, ut, uf, I x.array, I x.elem, .bool x.thrown])) n25).trans (hx2 _ _ hb2v)
    replace hb3v := (upd_ne (v := some (.cells [.str (x.name.take 12), I x.super, I x.init, ur, us, ut, uf, I x.array, I x.elem, .bool x.thrown])) n35).trans (hx2 _ _ hb3v)
    show SOps _ _ _ _ _ _ _ _ _ (upd k2 b5 (some (.cells [.str (x.name.take 12), I x.super, I x.init, ur, us, ut, uf, I x.array, I x.elem, .bool x.thrown]))) _
    generalize upd k2 b5 (some (.cells [.str (x.name.take 12), I x.super, I x.init, ur, us, ut, uf, I x.array, I x.elem, .bool x.thrown])) = k3 at A3 f5 hb2v hb3v ⊢
    clear A1 A2 e5 hx2
    with_reducible apply o_nil
    with_reducible apply ssq_norm
    with_reducible apply s_seq
    have hS5 : ∀ id ∈ [b5], k3 id ≠ none := by
      intro id hid
      simp only [List.mem_cons, List.not_mem_nil, or_false] at hid
      subst hid
      rw [f5]; simp
    have hk5 : Ext h (killL [b5] k3) := (A3.hG.trans A3.Gh).kill fun i hi => by
      simp only [List.mem_cons, List.not_mem_nil, or_false] at hi
      subst hi
      exact A3.base0 (by simp)
    apply s_regX [b5] [.A, .B, .A, .B, .A, .A, .A, .A, .A, .B, .A, .A, .B, .D, .A, .D, .A, .D, .A, .D] hS5 rfl
    apply x_v rfl rfl trivial
    apply x_ld rfl rfl f5 (by simp) rfl
    apply x_v rfl rfl trivial
    apply x_ld rfl rfl f5 (by simp) rfl
    refine x_A (R := fun E' bx' q => E' = (37, .int .i64 (x.refs.length : Int)) :: _ ∧ bx' = _ ∧ q = killL [b5] k3) (o_lenG rfl rfl hk5 u1 (o_nil ⟨rfl, rfl, rfl, rfl⟩)) ?_
    rintro _ _ _ ⟨rfl, rfl, rfl⟩ _
    rw [joinS_kill]
    refine x_v (v := .int .i64 ((min x.refs.length 10 : Nat) : Int)) rfl (congrArg (fun z => some (True, z)) (min_nat 10 x.refs.length)) trivial ?_
    refine x_A (R := fun E' bx' q => ∃ w, E' = (39, w) :: _ ∧ bx' = _ ∧ q = killL [b5] k3 ∧ Sl RB 1 h w (x.refs.take (min x.refs.length 10))) (o_sltG rfl rfl u1 rfl rfl (Nat.min_le_left _ _) fun w hw => o_nil ⟨rfl, w, rfl, rfl, rfl, hw⟩) ?_
    rintro _ _ _ ⟨w1, rfl, rfl, rfl, hw1⟩ _
    rw [joinS_kill]
    refine x_A (R := fun E' bx' q => ∃ w, E' = (40, w) :: _ ∧ bx' = _ ∧ q = killL [b5] k3 ∧ Sl RB 1 h w (x.refs.take (min x.refs.length 10))) (o_appTS rfl rfl rfl hk5 hw1 (fun c a hc => by rw [hc]; rfl) (by rw [List.length_take]; omega) (fun h => by omega) fun w hw => o_nil ⟨rfl, w, rfl, rfl, rfl, hw⟩) ?_
    rintro _ _ _ ⟨w2, rfl, rfl, rfl, hw2⟩ _
    rw [joinS_kill]
    apply x_v rfl rfl trivial
    apply x_ld rfl rfl f5 (by simp) rfl
    refine x_A (R := fun E' bx' q => ∃ w cs, E' = (43, w) :: _ ∧ bx' = _ ∧ OSl (killL [b5] k3) 1 w cs (x.subs.take 20).length q ∧ Chunks (RN .i64 (killL [b5] k3)) 1 cs (x.subs.take 20)) (o_hcall rfl rfl rfl rfl (p35 (n := 20) hk5 u2 (by decide) hcw.subs.1) fun w q ⟨cs, O, C⟩ => o_nil ⟨rfl, w, cs, rfl, rfl, O, C⟩) ?_
    rintro _ _ q1 ⟨w3, cs3, rfl, rfl, O3, C3⟩ hS6
    obtain ⟨G1, gx1, gv3, A4⟩ := A3.growO RCls.mono (by simp) O3 hS6
    have hx3 : Ext k3 (joinS [b5] k3 q1) := ext_join O3.ext
    have f6 := hx3 _ _ f5
    replace hb2v := hx3 _ _ hb2v
    replace hb3v := hx3 _ _ hb3v
    generalize joinS [b5] k3 q1 = k4 at A4 f6 hb2v hb3v ⊢
    apply x_v rfl rfl trivial
    apply x_ld rfl rfl f6 (by simp) rfl
    refine x_D (R := fun E' bx' q => ∃ w cs, E' = (46, w) :: _ ∧ bx' = _ ∧ OSl k4 1 w cs (x.slots.take 10).length q ∧ Chunks (RN .i64 k4) 1 cs (x.slots.take 10)) (o_hcall rfl rfl rfl rfl (p35 (n := 10) (A4.hG.trans A4.Gh) u3 (by decide) hcw.slots.1) fun w q ⟨cs, O, C⟩ => o_nil ⟨rfl, w, cs, rfl, rfl, O, C⟩) ?_
    rintro _ _ k5 ⟨w4, cs4, rfl, rfl, O4, C4⟩
    obtain ⟨G2, gx2, gv4, A5⟩ := A4.growD RCls.mono O4
    have f7 := O4.ext _ _ f6
    replace hb2v := O4.ext _ _ hb2v
    replace hb3v := O4.ext _ _ hb3v
    have live5 : ∀ {o : AObj} {k : Heap}, k b5 = some o → ∀ id ∈ [b5], k id ≠ none := by
      intro o k e id hid
      simp only [List.mem_cons, List.not_mem_nil, or_false] at hid
      subst hid
      rw [e]; simp
    refine ⟨live5 f7, ?_⟩
    apply x_v rfl rfl trivial
    refine x_D (R := fun E' bx' q => E' = _ ∧ bx' = _ ∧ q = upd k5 b5 (some (.cells [.str (x.name.take 12), I x.super, I x.init, w2, us, ut, uf, I x.array, I x.elem, .bool x.thrown]))) (o_st1 rfl rfl rfl rfl (hw2.one) f7 (show (3 : Nat) < 10 by decide) (o_nil ⟨rfl, rfl, rfl, rfl⟩)) ?_
    rintro _ _ _ ⟨rfl, rfl, rfl⟩
    have A6 := A5.set (b := b5) (o := .cells [.str (x.name.take 12), I x.super, I x.init, w2, us, ut, uf, I x.array, I x.elem, .bool x.thrown]) (by simp)
    have f8 : upd k5 b5 (some (.cells [.str (x.name.take 12), I x.super, I x.init, w2, us, ut, uf, I x.array, I x.elem, .bool x.thrown])) b5 = _ := upd_same
    replace hb2v := (upd_ne (v := some (.cells [.str (x.name.take 12), I x.super, I x.init, w2, us, ut, uf, I x.array, I x.elem, .bool x.thrown])) n25).trans hb2v
    replace hb3v := (upd_ne (v := some (.cells [.str (x.name.take 12), I x.super, I x.init, w2, us, ut, uf, I x.array, I x.elem, .bool x.thrown])) n35).trans hb3v
    refine ⟨live5 f8, ?_⟩
    generalize upd k5 b5 (some (.cells [.str (x.name.take 12), I x.super, I x.init, w2, us, ut, uf, I x.array, I x.elem, .bool x.thrown])) = k6 at A6 f8 hb2v hb3v ⊢
    apply x_v rfl rfl trivial
    refine x_D (R := fun E' bx' q => E' = _ ∧ bx' = _ ∧ q = upd k6 b5 (some (.cells [.str (x.name.take 12), I x.super, I x.init, w2, w3, ut, uf, I x.array, I x.elem, .bool x.thrown]))) (o_st1 rfl rfl rfl rfl ((gv3.one)) f8 (show (4 : Nat) < 10 by decide) (o_nil ⟨rfl, rfl, rfl, rfl⟩)) ?_
    rintro _ _ _ ⟨rfl, rfl, rfl⟩
    have A7 := A6.set (b := b5) (o := .cells [.str (x.name.take 12), I x.super, I x.init, w2, w3, ut, uf, I x.array, I x.elem, .bool x.thrown]) (by simp)
    have f9 : upd k6 b5 (some (.cells [.str (x.name.take 12), I x.super, I x.init, w2, w3, ut, uf, I x.array, I x.elem, .bool x.thrown])) b5 = _ := upd_same
    replace hb2v := (upd_ne (v := some (.cells [.str (x.name.take 12), I x.super, I x.init, w2, w3, ut, uf, I x.array, I x.elem, .bool x.thrown])) n25).trans hb2v
    replace hb3v := (upd_ne (v := some (.cells [.str (x.name.take 12), I x.super, I x.init, w2, w3, ut, uf, I x.array, I x.elem, .bool x.thrown])) n35).trans hb3v
    refine ⟨live5 f9, ?_⟩
    generalize upd k6 b5 (some (.cells [.str (x.name.take 12), I x.super, I x.init, w2, w3, ut, uf, I x.array, I x.elem, .bool x.thrown])) = k7 at A7 f9 hb2v hb3v ⊢
    apply x_v rfl rfl trivial
    refine x_D (R := fun E' bx' q => E' = _ ∧ bx' = _ ∧ q = upd k7 b5 (some (.cells [.str (x.name.take 12), I x.super, I x.init, w2, w3, w4, uf, I x.array, I x.elem, .bool x.thrown]))) (o_st1 rfl rfl rfl rfl ((gv4.one)) f9 (show (5 : Nat) < 10 by decide) (o_nil ⟨rfl, rfl, rfl, rfl⟩)) ?_
    rintro _ _ _ ⟨rfl, rfl, rfl⟩
    have A8 := A7.set (b := b5) (o := .cells [.str (x.name.take 12), I x.super, I x.init, w2, w3, w4, uf, I x.array, I x.elem, .bool x.thrown]) (by simp)
    have f10 : upd k7 b5 (some (.cells [.str (x.name.take 12), I x.super, I x.init, w2, w3, w4, uf, I x.array, I x.elem, .bool x.thrown])) b5 = _ := upd_same
    replace hb2v := (upd_ne (v := some (.cells [.str (x.name.take 12), I x.super, I x.init, w2, w3, w4, uf, I x.array, I x.elem, .bool x.thrown])) n25).trans hb2v
    replace hb3v := (upd_ne (v := some (.cells [.str (x.name.take 12), I x.super, I x.init, w2, w3, w4, uf, I x.array, I x.elem, .bool x.thrown])) n35).trans hb3v
    refine ⟨live5 f10, ?_⟩
    generalize upd k7 b5 (some (.cells [.str (x.name.take 12), I x.super, I x.init, w2, w3, w4, uf, I x.array, I x.elem, .bool x.thrown])) = k8 at A8 f10 hb2v hb3v ⊢
    apply x_nil
    clear A3 A4 A5 A6 A7 f5 f6 f7 f8 f9 O3 O4 hS5 hk5 hS6 hx3
    (repeat (first | ((with_reducible apply o_valM); exact rfl; exact rfl; exact rfl; exact trivial) | (with_reducible first | apply s_seq | apply s_reg0 | apply ssq_norm)))
    apply o_ldh rfl rfl f10 (fun h => by omega) rfl
    (repeat ((with_reducible apply o_valM); exact rfl; exact rfl; exact rfl; exact trivial))
    apply o_ldh rfl rfl f10 (fun h => by omega) rfl
    apply o_lenG rfl rfl (A8.hG.trans A8.Gh) u4
    apply o_as (w := .int .i64 ((min x.faces.length 6 : Nat) : Int)) rfl rfl trivial (min_nat 6 x.faces.length)
    apply o_sltG rfl rfl u4 rfl rfl (Nat.min_le_left _ _)
    intro w5' hw5'
    apply o_appTS rfl rfl rfl (A8.hG.trans A8.Gh) hw5' (fun c a hc => RPair.one hc) (by rw [List.length_take]; omega) (fun h => by omega)
    intro w5 hw5
    (repeat ((with_reducible apply o_valM); exact rfl; exact rfl; exact rfl; exact trivial))
    apply o_st1 rfl rfl rfl rfl hw5.one f10 (show (6 : Nat) < 10 by decide)
    have A9 := A8.set (b := b5) (o := .cells [.str (x.name.take 12), I x.super, I x.init, w2, w3, w4, w5, I x.array, I x.elem, .bool x.thrown]) (by simp)
    have f11 : upd k8 b5 (some (.cells [.str (x.name.take 12), I x.super, I x.init, w2, w3, w4, w5, I x.array, I x.elem, .bool x.thrown])) b5 = _ := upd_same
    replace hb2v := (upd_ne (v := some (.cells [.str (x.name.take 12), I x.super, I x.init, w2, w3, w4, w5, I x.array, I x.elem, .bool x.thrown])) n25).trans hb2v
    replace hb3v := (upd_ne (v := some (.cells [.str (x.name.take 12), I x.super, I x.init, w2, w3, w4, w5, I x.array, I x.elem, .bool x.thrown])) n35).trans hb3v
    show SOps _ _ _ _ _ _ _ _ _ (upd k8 b5 (some (.cells [.str (x.name.take 12), I x.super, I x.init, w2, w3, w4, w5, I x.array, I x.elem, .bool x.thrown]))) _
    generalize upd k8 b5 (some (.cells [.str (x.name.take 12), I x.super, I x.init, w2, w3, w4, w5, I x.array, I x.elem, .bool x.thrown])) = k9 at A9 f11 hb2v hb3v ⊢
    obtain ⟨y, hy⟩ : ∃ y : Cls, y = ⟨x.name.take 12, x.super, x.init, x.array, x.elem, x.thrown, x.refs.take (min x.refs.length 10), x.subs.take 20, x.slots.take 10, x.faces.take (min x.faces.length 6)⟩ := ⟨_, rfl⟩
    have hcy : RCls G2 [.str (x.name.take 12), I x.super, I x.init, w2, w3, w4, w5, I x.array, I x.elem, .bool x.thrown] y := by
      rw [hy]
      exact ⟨w2, w3, w4, w5, rfl, hw2.mono RB.mono A9.hG, ⟨cs3, gv3.mono gx2, C3⟩, ⟨cs4, gv4, C4⟩, hw5.mono RPair.mono A9.hG⟩
    have hyw : y.WF ∧ Cls.Small y := by
      rw [hy]
      have lt : ∀ {α : Type} (l : List α) (n : Nat), (l.take n).length ≤ n := fun l n => by rw [List.length_take]; omega
      have le : ∀ {α : Type} (l : List α) (n : Nat), (l.take n).length ≤ l.length := fun l n => by rw [List.length_take]; omega
      refine ⟨⟨Nat.le_trans (lt _ _) (by decide), hcw.super, hcw.init, hcw.array, hcw.elem, Nat.le_trans (le _ _) hcw.refs, ⟨Nat.le_trans (le _ _) hcw.subs.1, fun n hn => hcw.subs.2 n (List.mem_of_mem_take hn)⟩, ⟨Nat.le_trans (le _ _) hcw.slots.1, fun n hn => hcw.slots.2 n (List.mem_of_mem_take hn)⟩, ⟨Nat.le_trans (le _ _) hcw.faces.1, fun n hn => hcw.faces.2 n (List.mem_of_mem_take hn)⟩⟩,
        ⟨lt _ _, Nat.le_trans (lt _ _) (Nat.min_le_right _ _), lt _ _, lt _ _, Nat.le_trans (lt _ _) (Nat.min_le_right _ _)⟩⟩
    clear A8 f10
    (repeat (first | ((with_reducible apply o_valM); exact rfl; exact rfl; exact rfl; exact trivial) | (with_reducible first | apply s_reg0 | apply o_nil | apply ssq_norm)))
    apply o_ldh rfl rfl hb3v (fun h => by omega) rfl
    apply o_ldhn rfl rfl f11 (fun h => by omega) rfl
    apply o_val rfl rfl ⟨rfl, RCls.one hcy⟩
    obtain ⟨cs, C, O⟩ := A9.osl
    apply o_appO (n := 1) rfl rfl rfl rfl O rfl rfl (RCls.one hcy) (by omega)
    intro v2' k10 O2 hx10
    have A10 := A9.app C hcy rfl O2
    have b3l := A9.live hx10 mb3' hb3v
    have b2l := A9.live hx10 mb2' hb2v
    (repeat ((with_reducible apply o_valM); exact rfl; exact rfl; exact rfl; exact trivial))
    apply o_st1 rfl rfl rfl rfl O2.view.one b3l (show (0 : Nat) < 9 by decide)
    have A11 := A10.set (b := b3) (o := .cells (O9 v2' (.nil .sl) m.entry m.need (.nil .sl) (.nil .sl) (.nil .sl) (.nil .sl) (.nil .sl))) mb3'
    (repeat (first | ((with_reducible apply o_valW); exact rfl; exact rfl; exact rfl; exact trivial) | (with_reducible first | apply s_reg0 | apply o_nil | apply ssq_norm | apply sbq_norm)))
    rw [w64 (n := (k : Int) + 1) (by omega) (by omega)]
    refine ⟨(k + 1, b5 :: bx, G2, v2', out ++ [y]), by simp only; omega, sub_cons rfl (sub_cons rfl (sub_cons rfl (sub_cons rfl sub_nil))), rfl, hkl, hk20, by simp [hol], A11, mb2', mb3', (upd_ne h32.symm).trans b2l, upd_same, fun z hz => ?_⟩
    rcases List.mem_append.1 hz with hz | hz
    · exact hsm z hz
    · simp only [List.mem_cons, List.not_mem_nil, or_false] at hz
      subst hz
      exact hyw
  rintro ⟨bx, G, xc, outc⟩ k0 ⟨A0, mb2, mb3, hb2v, hb3v, hcl, hcs⟩
  simp only at A0 mb2 mb3 hb2v hb3v hcl hcs ⊢
  obtain ⟨G0, e1, e2, vxc, e4⟩ := A0.fold RCls.mono
  have B0 : Acc RMth 6 h G0 k0 bx (.nil .sl) [] := Acc.start (A0.hG.trans e1) e2 fun b hb => ⟨e4 b hb, (A0.bxs b hb).2⟩
  clear A0 e1 e2 e4 G
  refine s_joinB (σ := List Nat × AV × List Mth) (fun _ => [(1, .tptr [vc, vm, I m.entry, I m.need, vg, vw, vr, vs, vf] 0), (2, .ptr b2 0), (3, .ptr b3 0)]) (fun s => s.1)
    (fun s h' => Acc RMth 6 h G0 h' s.1 s.2.1 s.2.2 ∧ b2 ∈ s.1 ∧ b3 ∈ s.1 ∧ h' b2 = some (.cells Z9) ∧ h' b3 = some (.cells (O9 xc s.2.1 m.entry m.need (.nil .sl) (.nil .sl) (.nil .sl) (.nil .sl) (.nil .sl))) ∧ s.2.2.length ≤ 12 ∧ ∀ x ∈ s.2.2, x.WF ∧ Mth.Small x) ?_ ?_
  · (repeat (first | ((with_reducible apply o_valM); exact rfl; exact rfl; exact rfl; exact trivial) | (with_reducible first | apply s_seq | apply s_reg0 | apply s_block | apply o_nil | apply ssq_norm)))
    refine s_loopB (fun s : Nat × List Nat × AV × List Mth => [(1, .tptr [vc, vm, I m.entry, I m.need, vg, vw, vr, vs, vf] 0), (2, .ptr b2 0), (3, .ptr b3 0), (6, .int .i64 (s.1 : Int))]) (fun s => s.2.1)
      (fun s h' => s.1 ≤ m.methods.length ∧ s.1 ≤ 12 ∧ s.2.2.2.length = s.1 ∧ Acc RMth 6 h G0 h' s.2.1 s.2.2.1 s.2.2.2 ∧ b2 ∈ s.2.1 ∧ b3 ∈ s.2.1 ∧ h' b2 = some (.cells Z9) ∧ h' b3 = some (.cells (O9 xc s.2.2.1 m.entry m.need (.nil .sl) (.nil .sl) (.nil .sl) (.nil .sl) (.nil .sl))) ∧ ∀ x ∈ s.2.2.2, x.WF ∧ Mth.Small x)
      (fun s => 12 - s.1) (0, bx, .nil .sl, []) (sub_cons rfl (sub_cons rfl (sub_cons rfl (sub_cons rfl sub_nil)))) rfl
      ⟨Nat.zero_le _, Nat.zero_le _, rfl, B0, mb2, mb3, hb2v, hb3v, by simp⟩ ?_
    clear B0 mb2 mb3 hb2v hb3v bx
    rintro ⟨k, bx, xm, out⟩ h1' ⟨hk, hk2, hol, A1, mb2, mb3, hb2v, hb3v, hsm⟩
    simp only at hk hk2 hol A1 mb2 mb3 hb2v hb3v hsm ⊢
    (repeat (first | ((with_reducible apply o_valM); exact rfl; exact rfl; exact rfl; exact trivial) | (with_reducible first | apply s_seq | apply s_reg0)))
    apply o_lenG rfl rfl (A1.hG.trans A1.Gh) v2
    ((with_reducible apply o_bool); exact rfl; exact rfl; exact trivial; intro b1 h1; cases b1)
    case false =>
      (repeat (first | ((with_reducible apply o_valW); exact rfl; exact rfl; exact rfl; exact trivial) | (with_reducible first | apply s_exit | apply o_nil | apply ssq_norm | apply ssq_exit | apply sbq_hit | apply slqB_exit) | ((with_reducible apply s_condF); exact rfl) | ((with_reducible apply o_guardF); exact rfl; exact rfl)))
      refine ⟨(bx, xm, out), sub_cons rfl (sub_cons rfl (sub_cons rfl sub_nil)), rfl, A1, mb2, mb3, hb2v, hb3v, (by rw [hol]; exact hk2), hsm⟩
    (repeat (first | ((with_reducible apply o_valM); exact rfl; exact rfl; exact rfl; exact trivial) | ((with_reducible apply o_guardT); exact rfl; exact rfl)))
    ((with_reducible apply o_bool); exact rfl; exact rfl; exact trivial; intro b2 h2; cases b2)
    case false =>
      (repeat (first | ((with_reducible apply o_valW); exact rfl; exact rfl; exact rfl; exact trivial) | (with_reducible first | apply s_exit | apply o_nil | apply ssq_norm | apply ssq_exit | apply sbq_hit | apply slqB_exit) | ((with_reducible apply s_condF); exact rfl)))
      refine ⟨(bx, xm, out), sub_cons rfl (sub_cons rfl (sub_cons rfl sub_nil)), rfl, A1, mb2, mb3, hb2v, hb3v, (by rw [hol]; exact hk2), hsm⟩
    have hkl : k < m.methods.length := by simpa using h1
    have hk20 : k < 12 := by simp at h2; omega
    have hcw := hw.methods.2 _ (List.getElem_mem hkl)
    (repeat (first | ((with_reducible apply o_valM); exact rfl; exact rfl; exact rfl; exact trivial) | (with_reducible first | apply s_seq | apply s_reg0 | apply s_skip | apply s_block | apply o_nil | apply ssq_norm) | ((with_reducible apply s_condT); exact rfl)))
    apply o_iaG rfl rfl rfl (A1.hG.trans A1.Gh) v2 hkl
    intro p c hpc hc hcl
    apply o_ldVn rfl rfl hpc hcl (fun h => by omega)
    apply o_alc rfl
    intro b7 hb7
    apply o_st (v := .agg c) rfl rfl rfl rfl hcl (RMth.one hc) upd_same (splice_full (show c.length = _ by rw [hcl]; rfl))
    rw [upd_upd, show (AV.agg c).cells = c from rfl]
    generalize hx : m.methods[k] = x at hc hcw
    obtain ⟨uc, ut, rfl, u1, u2⟩ := hc
    have mb2' : b2 ∈ b7 :: bx := List.mem_cons_of_mem _ mb2
    have mb3' : b3 ∈ b7 :: bx := List.mem_cons_of_mem _ mb3
    have n27 : b2 ≠ b7 := fun e => by rw [e, hb7] at hb2v; cases hb2v
    have n37 : b3 ≠ b7 := fun e => by rw [e, hb7] at hb3v; cases hb3v
    have A2 := A1.box (o := .cells [I x.args, I x.locals, I x.stack, .bool x.gives, uc, ut]) hb7
    have f1 : upd h1' b7 (some (.cells [I x.args, I x.locals, I x.stack, .bool x.gives, uc, ut])) b7 = _ := upd_same
    replace hb2v := (upd_ne (v := some (.cells [I x.args, I x.locals, I x.stack, .bool x.gives, uc, ut])) n27).trans hb2v
    replace hb3v := (upd_ne (v := some (.cells [I x.args, I x.locals, I x.stack, .bool x.gives, uc, ut])) n37).trans hb3v
    show SOps _ _ _ _ _ _ _ _ (b7 :: bx) (upd h1' b7 (some (.cells [I x.args, I x.locals, I x.stack, .bool x.gives, uc, ut]))) _
    generalize upd h1' b7 (some (.cells [I x.args, I x.locals, I x.stack, .bool x.gives, uc, ut])) = k1 at A2 f1 hb2v hb3v ⊢
    (repeat (first | ((with_reducible apply o_valM); exact rfl; exact rfl; exact rfl; exact trivial) | (with_reducible first | apply s_seq | apply s_reg0 | apply o_nil | apply ssq_norm)))
    apply o_ldh rfl rfl f1 (fun h => by omega) rfl
    (repeat ((with_reducible apply o_valM); exact rfl; exact rfl; exact rfl; exact trivial))
    apply o_ldh rfl rfl f1 (fun h => by omega) rfl
    apply o_lenG rfl rfl (A2.hG.trans A2.Gh) u1
    apply o_as (w := .int .i64 ((min x.code.length 30 : Nat) : Int)) rfl rfl trivial (min_nat 30 x.code.length)
    apply o_sltG rfl rfl u1 rfl rfl (Nat.min_le_left _ _)
    intro w1' hw1'
    apply o_appTS rfl rfl rfl (A2.hG.trans A2.Gh) hw1' (fun c a hc => RFour.one hc) (by rw [List.length_take]; omega) (fun h => by omega)
    intro w1 hw1
    (repeat ((with_reducible apply o_valM); exact rfl; exact rfl; exact rfl; exact trivial))
    apply o_st1 rfl rfl rfl rfl hw1.one f1 (show (4 : Nat) < 6 by decide)
    have A3 := A2.set (b := b7) (o := .cells [I x.args, I x.locals, I x.stack, .bool x.gives, w1, ut]) (by simp)
    have f2 : upd k1 b7 (some (.cells [I x.args, I x.locals, I x.stack, .bool x.gives, w1, ut])) b7 = _ := upd_same
    replace hb2v := (upd_ne (v := some (.cells [I x.args, I x.locals, I x.stack, .bool x.gives, w1, ut])) n27).trans hb2v
    replace hb3v := (upd_ne (v := some (.cells [I x.args, I x.locals, I x.stack, .bool x.gives, w1, ut])) n37).trans hb3v
    show SOps _ _ _ _ _ _ _ _ _ (upd k1 b7 (some (.cells [I x.args, I x.locals, I x.stack, .bool x.gives, w1, ut]))) _
    generalize upd k1 b7 (some (.cells [I x.args, I x.locals, I x.stack, .bool x.gives, w1, ut])) = k2 at A3 f2 hb2v hb3v ⊢
    (repeat (first | ((with_reducible apply o_valM); exact rfl; exact rfl; exact rfl; exact trivial) | (with_reducible first | apply s_seq | apply s_reg0 | apply o_nil | apply ssq_norm)))
    apply o_ldh rfl rfl f2 (fun h => by omega) rfl
    (repeat ((with_reducible apply o_valM); exact rfl; exact rfl; exact rfl; exact trivial))
    apply o_ldh rfl rfl f2 (fun h => by omega) rfl
    apply o_lenG rfl rfl (A3.hG.trans A3.Gh) u2
    apply o_as (w := .int .i64 ((min x.traps.length 4 : Nat) : Int)) rfl rfl trivial (min_nat 4 x.traps.length)
    apply o_sltG rfl rfl u2 rfl rfl (Nat.min_le_left _ _)
    intro w2' hw2'
    apply o_appTS rfl rfl rfl (A3.hG.trans A3.Gh) hw2' (fun c a hc => RFour.one hc) (by rw [List.length_take]; omega) (fun h => by omega)
    intro w2 hw2
    (repeat ((with_reducible apply o_valM); exact rfl; exact rfl; exact rfl; exact trivial))
    apply o_st1 rfl rfl rfl rfl hw2.one f2 (show (5 : Nat) < 6 by decide)
    have A4 := A3.set (b := b7) (o := .cells [I x.args, I x.locals, I x.stack, .bool x.gives, w1, w2]) (by simp)
    have f3 : upd k2 b7 (some (.cells [I x.args, I x.locals, I x.stack, .bool x.gives, w1, w2])) b7 = _ := upd_same
    replace hb2v := (upd_ne (v := some (.cells [I x.args, I x.locals, I x.stack, .bool x.gives, w1, w2])) n27).trans hb2v
    replace hb3v := (upd_ne (v := some (.cells [I x.args, I x.locals, I x.stack, .bool x.gives, w1, w2])) n37).trans hb3v
    show SOps _ _ _ _ _ _ _ _ _ (upd k2 b7 (some (.cells [I x.args, I x.locals, I x.stack, .bool x.gives, w1, w2]))) _
    generalize upd k2 b7 (some (.cells [I x.args, I x.locals, I x.stack, .bool x.gives, w1, w2])) = k3 at A4 f3 hb2v hb3v ⊢
    obtain ⟨y, hy⟩ : ∃ y : Mth, y = ⟨x.args, x.locals, x.stack, x.gives, x.code.take (min x.code.length 30), x.traps.take (min x.traps.length 4)⟩ := ⟨_, rfl⟩
    have hcy : RMth G0 [I x.args, I x.locals, I x.stack, .bool x.gives, w1, w2] y := by
      rw [hy]
      exact ⟨w1, w2, rfl, hw1.mono RFour.mono A4.hG, hw2.mono RFour.mono A4.hG⟩
    have hyw : y.WF ∧ Mth.Small y := by
      rw [hy]
      have lt : ∀ {α : Type} (l : List α) (n : Nat), (l.take n).length ≤ n := fun l n => by rw [List.length_take]; omega
      have le : ∀ {α : Type} (l : List α) (n : Nat), (l.take n).length ≤ l.length := fun l n => by rw [List.length_take]; omega
      exact ⟨⟨hcw.args, hcw.locals, hcw.stack, ⟨Nat.le_trans (le _ _) hcw.code.1, fun n hn => hcw.code.2 n (List.mem_of_mem_take hn)⟩, ⟨Nat.le_trans (le _ _) hcw.traps.1, fun n hn => hcw.traps.2 n (List.mem_of_mem_take hn)⟩⟩,
        ⟨Nat.le_trans (lt _ _) (Nat.min_le_right _ _), Nat.le_trans (lt _ _) (Nat.min_le_right _ _)⟩⟩
    clear A1 A2 A3 f1 f2
    (repeat (first | ((with_reducible apply o_valM); exact rfl; exact rfl; exact rfl; exact trivial) | (with_reducible first | apply s_reg0 | apply o_nil | apply ssq_norm)))
    apply o_ldh rfl rfl hb3v (fun h => by omega) rfl
    apply o_ldhn rfl rfl f3 (fun h => by omega) rfl
    apply o_val rfl rfl ⟨rfl, RMth.one hcy⟩
    obtain ⟨cs, C, O⟩ := A4.osl
    apply o_appO (n := 1) rfl rfl rfl rfl O rfl rfl (RMth.one hcy) (by omega)
    intro v2' k10 O2 hx10
    have A10 := A4.app C hcy rfl O2
    have b3l := A4.live hx10 mb3' hb3v
    have b2l := A4.live hx10 mb2' hb2v
    (repeat ((with_reducible apply o_valM); exact rfl; exact rfl; exact rfl; exact trivial))
    apply o_st1 rfl rfl rfl rfl O2.view.one b3l (show (1 : Nat) < 9 by decide)
    have A11 := A10.set (b := b3) (o := .cells (O9 xc v2' m.entry m.need (.nil .sl) (.nil .sl) (.nil .sl) (.nil .sl) (.nil .sl))) mb3'
    (repeat (first | ((with_reducible apply o_valW); exact rfl; exact rfl; exact rfl; exact trivial) | (with_reducible first | apply s_reg0 | apply o_nil | apply ssq_norm | apply sbq_norm)))
    rw [w64 (n := (k : Int) + 1) (by omega) (by omega)]
    refine ⟨(k + 1, b7 :: bx, v2', out ++ [y]), by simp only; omega, sub_cons rfl (sub_cons rfl (sub_cons rfl (sub_cons rfl sub_nil))), rfl, hkl, hk20, by simp [hol], A11, mb2', mb3', (upd_ne h32.symm).trans b2l, upd_same, fun z hz => ?_⟩
    rcases List.mem_append.1 hz with hz | hz
    · exact hsm z hz
    · simp only [List.mem_cons, List.not_mem_nil, or_false] at hz
      subst hz
      exact hyw
  clear B0 mb2 mb3 hb2v hb3v bx
  rintro ⟨bx, xm, outm⟩ k0 ⟨A0, mb2, mb3, hb2v, hb3v, hml, hms⟩
  simp only at A0 mb2 mb3 hb2v hb3v hml hms ⊢
  obtain ⟨G1, e1, e2, vxm, e4⟩ := A0.fold RMth.mono
  replace vxc := vxc.mono RCls.mono e1
  have B0 : Acc RMth 6 h G1 k0 bx (.nil .sl) [] := Acc.start (A0.hG.trans e1) e2 fun b hb => ⟨e4 b hb, (A0.bxs b hb).2⟩
  clear A0 e1 e2 e4 G0
  with_reducible apply s_seq
  apply s_regX [] [.A, .A, .A, .A, .C, .D, .A, .D, .A, .D] (by simp) rfl
  apply x_v rfl rfl trivial
  apply x_v rfl rfl trivial
  refine x_A (R := fun E' bx' q => ∃ w cs, E' = (107, w) :: _ ∧ bx' = _ ∧ OSl k0 1 w cs (m.given.take 12).length q ∧ Chunks (RN .i64 k0) 1 cs (m.given.take 12)) (by
    rw [killL_nil]
    exact o_hcall rfl rfl rfl rfl (p35 (n := 12) (B0.hG.trans B0.Gh) v3 (by decide) hw.given.1) fun w q ⟨cs, O, C⟩ => o_nil ⟨rfl, w, cs, rfl, rfl, O, C⟩) ?_
  rintro _ _ k1 ⟨w3, cs3, rfl, rfl, O3, C3⟩ _
  rw [show joinS [] k0 k1 = k1 from rfl]
  obtain ⟨G2, gx1, gv3, B1⟩ := B0.growD RMth.mono O3
  replace hb2v := O3.ext _ _ hb2v
  replace hb3v := O3.ext _ _ hb3v
  apply x_v rfl rfl trivial
  apply x_vC rfl rfl rfl trivial
  refine x_D (R := fun E' bx' q => ∃ w cs, E' = (110, w) :: _ ∧ bx' = _ ∧ OSl k1 1 w cs (m.rel.take 60).length q ∧ Chunks (RN .i64 k1) 1 cs (m.rel.take 60)) (o_hcall rfl rfl rfl rfl (p35 (n := 60) (B1.hG.trans B1.Gh) v5 (by decide) hw.rel.1) fun w q ⟨cs, O, C⟩ => o_nil ⟨rfl, w, cs, rfl, rfl, O, C⟩) ?_
  rintro _ _ k2 ⟨w4, cs4, rfl, rfl, O4, C4⟩
  obtain ⟨G3, gx2, gv4, B2⟩ := B1.growD RMth.mono O4
  replace hb2v := O4.ext _ _ hb2v
  replace hb3v := O4.ext _ _ hb3v
  refine ⟨by simp, ?_⟩
  apply x_v rfl rfl trivial
  refine x_D (R := fun E' bx' q => E' = _ ∧ bx' = _ ∧ q = upd k2 b3 (some (.cells (O9 xc xm m.entry m.need w3 (.nil .sl) (.nil .sl) (.nil .sl) (.nil .sl))))) (o_st1 rfl rfl rfl rfl (gv3.one) hb3v (show (4 : Nat) < 9 by decide) (o_nil ⟨rfl, rfl, rfl, rfl⟩)) ?_
  rintro _ _ _ ⟨rfl, rfl, rfl⟩
  refine ⟨by simp, ?_⟩
  have B3 := B2.set (b := b3) (o := .cells (O9 xc xm m.entry m.need w3 (.nil .sl) (.nil .sl) (.nil .sl) (.nil .sl))) mb3
  replace hb2v := (upd_ne (v := some (.cells (O9 xc xm m.entry m.need w3 (.nil .sl) (.nil .sl) (.nil .sl) (.nil .sl)))) h32.symm).trans hb2v
  have hb3v : upd k2 b3 (some (.cells (O9 xc xm m.entry m.need w3 (.nil .sl) (.nil .sl) (.nil .sl) (.nil .sl)))) b3 = _ := upd_same
  generalize upd k2 b3 (some (.cells (O9 xc xm m.entry m.need w3 (.nil .sl) (.nil .sl) (.nil .sl) (.nil .sl)))) = k3 at B3 hb2v hb3v ⊢
  apply x_v rfl rfl trivial
  refine x_D (R := fun E' bx' q => E' = _ ∧ bx' = _ ∧ q = upd k3 b3 (some (.cells (O9 xc xm m.entry m.need w3 (.nil .sl) w4 (.nil .sl) (.nil .sl))))) (o_st1 rfl rfl rfl rfl (gv4.one) hb3v (show (6 : Nat) < 9 by decide) (o_nil ⟨rfl, rfl, rfl, rfl⟩)) ?_
  rintro _ _ _ ⟨rfl, rfl, rfl⟩
  refine ⟨by simp, ?_⟩
  have B4 := B3.set (b := b3) (o := .cells (O9 xc xm m.entry m.need w3 (.nil .sl) w4 (.nil .sl) (.nil .sl))) mb3
  replace hb2v := (upd_ne (v := some (.cells (O9 xc xm m.entry m.need w3 (.nil .sl) w4 (.nil .sl) (.nil .sl)))) h32.symm).trans hb2v
  have hb3v : upd k3 b3 (some (.cells (O9 xc xm m.entry m.need w3 (.nil .sl) w4 (.nil .sl) (.nil .sl)))) b3 = _ := upd_same
  generalize upd k3 b3 (some (.cells (O9 xc xm m.entry m.need w3 (.nil .sl) w4 (.nil .sl) (.nil .sl)))) = k4 at B4 hb2v hb3v ⊢
  apply x_nil
  (repeat (first | ((with_reducible apply o_valM); exact rfl; exact rfl; exact rfl; exact trivial) | (with_reducible first | apply s_seq | apply s_reg0 | apply ssq_norm)))
  apply o_lenG rfl rfl (B4.hG.trans B4.Gh) v4
  apply o_as (w := .int .i64 ((min m.words.length 200 : Nat) : Int)) rfl rfl trivial (min_nat 200 m.words.length)
  apply o_sltG rfl rfl v4 rfl rfl (Nat.min_le_left _ _)
  intro w5' hw5'
  apply o_appTS rfl rfl rfl (B4.hG.trans B4.Gh) hw5' (fun c a hc => by rw [hc]; rfl) (by rw [List.length_take]; omega) (fun h => by omega)
  intro w5 hw5
  (repeat ((with_reducible apply o_valM); exact rfl; exact rfl; exact rfl; exact trivial))
  apply o_st1 rfl rfl rfl rfl hw5.one hb3v (show (5 : Nat) < 9 by decide)
  have B5 := B4.set (b := b3) (o := .cells (O9 xc xm m.entry m.need w3 w5 w4 (.nil .sl) (.nil .sl))) mb3
  replace hb2v := (upd_ne (v := some (.cells (O9 xc xm m.entry m.need w3 w5 w4 (.nil .sl) (.nil .sl)))) h32.symm).trans hb2v
  have hb3v : upd k4 b3 (some (.cells (O9 xc xm m.entry m.need w3 w5 w4 (.nil .sl) (.nil .sl)))) b3 = _ := upd_same
  show SOps _ _ _ _ _ _ _ _ _ (upd k4 b3 (some (.cells (O9 xc xm m.entry m.need w3 w5 w4 (.nil .sl) (.nil .sl))))) _
  generalize upd k4 b3 (some (.cells (O9 xc xm m.entry m.need w3 w5 w4 (.nil .sl) (.nil .sl)))) = k5 at B5 hb2v hb3v ⊢
  (repeat (first | ((with_reducible apply o_valM); exact rfl; exact rfl; exact rfl; exact trivial) | (with_reducible first | apply s_seq | apply s_reg0 | apply o_nil | apply ssq_norm)))
  apply o_lenG rfl rfl (B5.hG.trans B5.Gh) v6
  apply o_as (w := .int .i64 ((min m.stat.length 20 : Nat) : Int)) rfl rfl trivial (min_nat 20 m.stat.length)
  apply o_sltG rfl rfl v6 rfl rfl (Nat.min_le_left _ _)
  intro w6' hw6'
  apply o_appTS rfl rfl rfl (B5.hG.trans B5.Gh) hw6' (fun c a hc => by rw [hc]; rfl) (by rw [List.length_take]; omega) (fun h => by omega)
  intro w6 hw6
  (repeat ((with_reducible apply o_valM); exact rfl; exact rfl; exact rfl; exact trivial))
  apply o_st1 rfl rfl rfl rfl hw6.one hb3v (show (7 : Nat) < 9 by decide)
  have B6 := B5.set (b := b3) (o := .cells (O9 xc xm m.entry m.need w3 w5 w4 w6 (.nil .sl))) mb3
  replace hb2v := (upd_ne (v := some (.cells (O9 xc xm m.entry m.need w3 w5 w4 w6 (.nil .sl)))) h32.symm).trans hb2v
  have hb3v : upd k5 b3 (some (.cells (O9 xc xm m.entry m.need w3 w5 w4 w6 (.nil .sl)))) b3 = _ := upd_same
  show SOps _ _ _ _ _ _ _ _ _ (upd k5 b3 (some (.cells (O9 xc xm m.entry m.need w3 w5 w4 w6 (.nil .sl))))) _
  generalize upd k5 b3 (some (.cells (O9 xc xm m.entry m.need w3 w5 w4 w6 (.nil .sl)))) = k6 at B6 hb2v hb3v ⊢
  (repeat (first | ((with_reducible apply o_valM); exact rfl; exact rfl; exact rfl; exact trivial) | (with_reducible first | apply s_seq | apply s_reg0 | apply o_nil | apply ssq_norm)))
  apply o_lenG rfl rfl (B6.hG.trans B6.Gh) v7
  apply o_as (w := .int .i64 ((min m.statref.length 20 : Nat) : Int)) rfl rfl trivial (min_nat 20 m.statref.length)
  apply o_sltG rfl rfl v7 rfl rfl (Nat.min_le_left _ _)
  intro w7' hw7'
  apply o_appTS rfl rfl rfl (B6.hG.trans B6.Gh) hw7' (fun c a hc => by rw [hc]; rfl) (by rw [List.length_take]; omega) (fun h => by omega)
  intro w7 hw7
  (repeat ((with_reducible apply o_valM); exact rfl; exact rfl; exact rfl; exact trivial))
  apply o_st1 rfl rfl rfl rfl hw7.one hb3v (show (8 : Nat) < 9 by decide)
  have B7 := B6.set (b := b3) (o := .cells (O9 xc xm m.entry m.need w3 w5 w4 w6 w7)) mb3
  replace hb2v := (upd_ne (v := some (.cells (O9 xc xm m.entry m.need w3 w5 w4 w6 w7))) h32.symm).trans hb2v
  have hb3v : upd k6 b3 (some (.cells (O9 xc xm m.entry m.need w3 w5 w4 w6 w7))) b3 = _ := upd_same
  show SOps _ _ _ _ _ _ _ _ _ (upd k6 b3 (some (.cells (O9 xc xm m.entry m.need w3 w5 w4 w6 w7)))) _
  generalize upd k6 b3 (some (.cells (O9 xc xm m.entry m.need w3 w5 w4 w6 w7))) = k7 at B7 hb2v hb3v ⊢
  obtain ⟨y, hy⟩ : ∃ y : Image, y = ⟨outc, outm, m.entry, m.need, m.given.take 12, m.words.take (min m.words.length 200), m.rel.take 60, m.stat.take (min m.stat.length 20), m.statref.take (min m.statref.length 20)⟩ := ⟨_, rfl⟩
  have hcy : RImg G3 (O9 xc xm m.entry m.need w3 w5 w4 w6 w7) y := by
    rw [hy]
    exact ⟨xc, xm, w3, w5, w4, w6, w7, rfl, vxc.mono RCls.mono (gx1.trans gx2), vxm.mono RMth.mono (gx1.trans gx2), ⟨cs3, gv3.mono gx2, C3⟩, hw5.mono RN.mono B7.hG, ⟨cs4, gv4, C4⟩, hw6.mono RN.mono B7.hG, hw7.mono RB.mono B7.hG⟩
  have hyw : y.WF ∧ Image.Small y := by
    rw [hy]
    have lt : ∀ {α : Type} (l : List α) (n : Nat), (l.take n).length ≤ n := fun l n => by rw [List.length_take]; omega
    have le : ∀ {α : Type} (l : List α) (n : Nat), (l.take n).length ≤ l.length := fun l n => by rw [List.length_take]; omega
    have hL : ∀ {α : Type} {l : List α}, l.length ≤ 20 → Len l := fun h => by unfold Len; omega
    exact ⟨⟨⟨hL hcl, fun c hc => (hcs c hc).1⟩, ⟨hL (show outm.length ≤ 20 by omega), fun c hc => (hms c hc).1⟩, hw.entry, hw.need, ⟨Nat.le_trans (le _ _) hw.given.1, fun n hn => hw.given.2 n (List.mem_of_mem_take hn)⟩, ⟨Nat.le_trans (le _ _) hw.words.1, fun n hn => hw.words.2 n (List.mem_of_mem_take hn)⟩,
        ⟨Nat.le_trans (le _ _) hw.rel.1, fun n hn => hw.rel.2 n (List.mem_of_mem_take hn)⟩, ⟨Nat.le_trans (le _ _) hw.stat.1, fun n hn => hw.stat.2 n (List.mem_of_mem_take hn)⟩, Nat.le_trans (le _ _) hw.statref⟩,
      ⟨⟨hcl, fun c hc => (hcs c hc).2⟩, ⟨hml, fun c hc => (hms c hc).2⟩, lt _ _, Nat.le_trans (lt _ _) (Nat.min_le_right _ _), lt _ _, Nat.le_trans (lt _ _) (Nat.min_le_right _ _), Nat.le_trans (lt _ _) (Nat.min_le_right _ _)⟩⟩
  (repeat ((with_reducible first | apply s_seq | apply s_reg0 | apply o_nil | apply ssq_norm)))
  apply o_ldhn rfl rfl hb3v (fun h => by omega) rfl
  apply o_st (v := .agg (O9 xc xm m.entry m.need w3 w5 w4 w6 w7)) rfl rfl rfl rfl rfl (RImg.one hcy) hb2v (splice_full rfl)
  have B8 := B7.set (b := b2) (o := .cells (O9 xc xm m.entry m.need w3 w5 w4 w6 w7)) mb2
  have hF : upd k7 b2 (some (.cells (O9 xc xm m.entry m.need w3 w5 w4 w6 w7))) b2 = some (.cells (O9 xc xm m.entry m.need w3 w5 w4 w6 w7)) := upd_same
  (repeat ((with_reducible first | apply s_ret | apply o_nil | apply ssq_norm)))
  refine hR_ret (vs := [.agg (O9 xc xm m.entry m.need w3 w5 w4 w6 w7)]) (.cells (m := 9) rfl (by kernel_rfl) hF rfl .nil) rfl ?_ ?_
  · refine ⟨(B8.hG.trans B8.Gh).kill fun i hi => B8.base0 hi, _, y, rfl, RImg.mono _ _ _ _ (B8.Gh.kill fun i hi => (B8.bxs i hi).1) hcy, hyw.1, hyw.2⟩
  · intro ht
    exact .inl ⟨.refl, _, y, rfl, tr_i _ _ _ _ (by simpa [tupled, AV.tree] using ht) hcy, hyw.1, hyw.2⟩
end Go.Proofs
end
section
open Go Go.Abs Go.Proofs.SlimCode Go.Img
set_option maxRecDepth 100000
namespace Go.Proofs
theorem p20 {h : Heap} {v : AV} {bs : B} (hv : VSl h 1 v (ubs bs) bs.length) (hl : bs.length ≤ 9223372036854775807) : Looks Tryz.prog ann 20 [v] h (.int .u32 (crc bs : Int)) := by
  refine s_look_of rfl Tryz.func20 (frc (by with_unfolding_all rfl)) rfl ?_
  (repeat (first | ((with_reducible apply o_valM); exact rfl; exact rfl; exact rfl; exact trivial) | (with_reducible first | apply s_seq | apply s_reg0 | apply s_block | apply o_nil | apply ssq_norm)))
  refine s_loop (fun i : Nat => [(0, v), (3, .int .u32 (RS 4294967295 (bs.take i) : Int)), (4, .int .i64 (i : Int))]) (fun i h' => h' = h ∧ i ≤ bs.length) (fun i => bs.length - i) 0
    (sub_cons rfl (sub_cons rfl (sub_cons rfl sub_nil))) ⟨rfl, Nat.zero_le _⟩ ?_
  rintro i h' ⟨rfl, hi⟩
  (repeat (first | ((with_reducible apply o_valM); exact rfl; exact rfl; exact rfl; exact trivial) | (with_reducible first | apply s_seq | apply s_reg0)))
  apply o_lenV rfl rfl hv
  ((with_reducible apply o_bool); exact rfl; exact rfl; exact trivial; intro b hb; cases b)
  case false =>
    have hil : i = bs.length := by simp at hb; omega
    subst hil
    rw [List.take_of_length_le (Nat.le_refl _)]
    (repeat (first | ((with_reducible apply o_valM); exact rfl; exact rfl; exact rfl; exact trivial) | (with_reducible first | apply s_seq | apply s_reg0 | apply s_exit | apply o_nil | apply ssq_norm | apply ssq_exit | apply sbq_hit | apply slq_exit) | ((with_reducible apply s_condF); exact rfl)))
    apply o_as (w := .int .u32 (crc bs : Int)) rfl rfl trivial (by
      have := xor32 (a := 4294967295) (b := RS 4294967295 bs) (by decide) (RS_lt (by decide))
      refine Eq.trans this ?_
      rw [Nat.xor_comm]
      rfl)
    (repeat (first | ((with_reducible apply o_valW); exact rfl; exact rfl; exact rfl; exact trivial) | (with_reducible first | apply s_ret | apply o_nil | apply ssq_norm)))
    (first | apply lret_ret | apply lret_norm)
    · exact rfl
    · exact rfl
    · exact rfl
    · exact .refl
    · simp
  have hil : i < bs.length := by simpa using hb
  (repeat (first | ((with_reducible apply o_valM); exact rfl; exact rfl; exact rfl; exact trivial) | (with_reducible first | apply s_seq | apply s_reg0 | apply s_skip | apply s_block | apply o_nil | apply ssq_norm) | ((with_reducible apply s_condT); exact rfl)))
  apply o_iaV rfl rfl rfl hv (by omega) (by omega)
  intro p hp
  have hc : ((ubs bs).drop ((i : Int).toNat * 1)).take 1 = [ub bs[i]] := by
    rw [Int.toNat_natCast, Nat.mul_one]
    unfold ubs
    rw [List.drop_eq_getElem_cons (by simpa using hil)]
    simp
  rw [hc] at hp
  apply o_ldV rfl rfl hp (fun h => by omega)
  have hb8 : (bs[i].toNat : Int) < 256 := by have := bs[i].toNat_lt; omega
  ((with_reducible apply o_cvN (a := bs[i].toNat)); exact rfl; exact rfl; exact wu32 (by omega) (by omega))
  have hr : RS 4294967295 (bs.take i) < 4294967296 := RS_lt (by decide)
  apply o_as (w := .int .u32 ((RS 4294967295 (bs.take i) ^^^ bs[i].toNat : Nat) : Int)) rfl rfl trivial (xor32 hr (by omega))
  (repeat (first | ((with_reducible apply o_valM); exact rfl; exact rfl; exact rfl; exact trivial) | (with_reducible first | apply s_seq | apply s_reg0 | apply s_block | apply o_nil | apply ssq_norm)))
  refine s_loop (fun j : Nat => [(0, v), (3, .int .u32 (TI j (RS 4294967295 (bs.take i) ^^^ bs[i].toNat) : Int)), (4, .int .i64 (i : Int)), (5, .int .i64 (j : Int))]) (fun j h2 => h2 = h' ∧ j ≤ 8) (fun j => 8 - j) 0
    (sub_cons rfl (sub_cons rfl (sub_cons rfl (sub_cons rfl sub_nil)))) ⟨rfl, by omega⟩ ?_
  rintro j h2 ⟨rfl, hj⟩
  have hx : TI j (RS 4294967295 (bs.take i) ^^^ bs[i].toNat) < 4294967296 := TI_lt (Nat.xor_lt_two_pow (n := 32) hr (by omega))
  have hnext : TI (j + 1) (RS 4294967295 (bs.take i) ^^^ bs[i].toNat) = TN (TI j (RS 4294967295 (bs.take i) ^^^ bs[i].toNat)) := by rw [TI_add]; rfl
  (repeat (first | ((with_reducible apply o_valM); exact rfl; exact rfl; exact rfl; exact trivial) | (with_reducible first | apply s_seq | apply s_reg0)))
  ((with_reducible apply o_bool); exact rfl; exact rfl; exact trivial; intro b hb; cases b)
  case false =>
    have hj8 : j = 8 := by simp at hb; omega
    subst hj8
    (repeat (first | ((with_reducible apply o_valW); exact rfl; exact rfl; exact rfl; exact trivial) | (with_reducible first | apply s_reg0 | apply s_exit | apply o_nil | apply ssq_norm | apply ssq_exit | apply sbq_hit | apply sbq_norm | apply slq_exit) | ((with_reducible apply s_condF); exact rfl)))
    rw [w64 (n := (i : Int) + 1) (by omega) (by omega)]
    refine ⟨i + 1, by simp only; omega, sub_cons rfl (sub_cons ?_ (sub_cons rfl sub_nil)), rfl, rfl, hil⟩
    have : RS 4294967295 (bs.take (i + 1)) = TI 8 (RS 4294967295 (bs.take i) ^^^ bs[i].toNat) := by
      rw [List.take_add_one, List.getElem?_eq_getElem hil, Option.toList_some, RS_append]
      rfl
    rw [this]
    rfl
  have hj8 : j < 8 := by simp at hb; omega
  generalize TI j (RS 4294967295 (bs.take i) ^^^ bs[i].toNat) = x at hx hnext ⊢
  (repeat (first | ((with_reducible apply o_valM); exact rfl; exact rfl; exact rfl; exact trivial) | (with_reducible first | apply s_seq | apply s_reg0 | apply s_skip | apply s_block | apply o_nil | apply ssq_norm) | ((with_reducible apply s_condT); exact rfl)))
  ((with_reducible apply o_remN (a := x) (b := 2)); exact rfl; exact rfl; exact rfl; (decide))
  ((with_reducible apply o_bool); exact rfl; exact rfl; exact trivial; intro b2 h2; cases b2)
  case true =>
    have hodd : x % 2 = 1 := by simp at h2; omega
    (repeat (first | ((with_reducible apply o_valM); exact rfl; exact rfl; exact rfl; exact trivial) | (with_reducible first | apply s_reg0 | apply o_nil | apply ssq_norm) | ((with_reducible apply s_condT); exact rfl)))
    ((with_reducible apply o_shrN (a := x) (b := 1)); exact rfl; exact rfl; exact rfl; (decide))
    apply o_as (w := .int .u32 (TN x : Int)) rfl rfl trivial (by
      refine (xor32 (a := x / 2 ^ 1) (b := 3988292384) (by omega) (by decide)).trans ?_
      unfold TN
      rw [if_pos hodd]
      rfl)
    (repeat (first | ((with_reducible apply o_valW); exact rfl; exact rfl; exact rfl; exact trivial) | (with_reducible first | apply s_reg0 | apply o_nil | apply ssq_norm | apply sbq_norm)))
    rw [w64 (n := (j : Int) + 1) (by omega) (by omega)]
    refine ⟨j + 1, by simp only; omega, sub_cons rfl (sub_cons ?_ (sub_cons rfl (sub_cons rfl sub_nil))), rfl, rfl, hj8⟩
    rw [hnext]
    rfl
  have heven : ¬ x % 2 = 1 := by simp at h2; omega
  (repeat (first | ((with_reducible apply o_valM); exact rfl; exact rfl; exact rfl; exact trivial) | (with_reducible first | apply s_reg0 | apply o_nil | apply ssq_norm) | ((with_reducible apply s_condF); exact rfl)))
  ((with_reducible apply o_shrN (a := x) (b := 1)); exact rfl; exact rfl; exact rfl; (decide))
  have e2 : TN x = x / 2 ^ 1 := by
    unfold TN
    rw [if_neg heven, Nat.xor_zero]
  (repeat (first | ((with_reducible apply o_valW); exact rfl; exact rfl; exact rfl; exact trivial) | (with_reducible first | apply s_reg0 | apply o_nil | apply ssq_norm | apply sbq_norm)))
  rw [w64 (n := (j : Int) + 1) (by omega) (by omega)]
  refine ⟨j + 1, by simp only; omega, sub_cons rfl (sub_cons ?_ (sub_cons rfl (sub_cons rfl sub_nil))), rfl, rfl, hj8⟩
  rw [hnext, e2]
  rfl
end Go.Proofs
end
