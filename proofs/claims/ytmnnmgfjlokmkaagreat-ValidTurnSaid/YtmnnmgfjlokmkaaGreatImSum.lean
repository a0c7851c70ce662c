import Derived.Test.YtmnnmgfjlokmkaaGreatAbsTac
import Derived.Test.YtmnnmgfjlokmkaaGreatImClass
open Go Go.Abs Go.Proofs.SlimCode Go.Img
set_option maxRecDepth 100000
namespace Go.Proofs
theorem cvb (m : Nat) : AV.int .u8 (IntKind.wrap .u8 (m : Int)) = ub (UInt8.ofNat m) := by
 simp [IntKind.wrap, IntKind.bits, IntKind.signed, ub]
theorem bvn (a : Nat) : BitVec.ofInt 32 (a : Int) = BitVec.ofNat 32 a := BitVec.ofInt_natCast ..
theorem wrap32 {a : Nat} (h : a < 4294967296) : IntKind.wrap .u32 (a : Int) = (a : Int) := wu32 (by omega) (by omega)
theorem xor32 {a b : Nat} (ha : a < 4294967296) (hb : b < 4294967296) : AV.int .u32 (IntKind.wrap .u32 ((BitVec.ofInt (IntKind.bits .u32) (a : Int) ^^^ BitVec.ofInt (IntKind.bits .u32) (b : Int)).toNat)) = .int .u32 ((a ^^^ b : Nat) : Int) := by
 show AV.int .u32 (IntKind.wrap .u32 ((BitVec.ofInt 32 (a : Int) ^^^ BitVec.ofInt 32 (b : Int)).toNat)) = _
 rw [bvn, bvn, BitVec.toNat_xor, BitVec.toNat_ofNat, BitVec.toNat_ofNat, Nat.mod_eq_of_lt ha, Nat.mod_eq_of_lt hb, wrap32 (Nat.xor_lt_two_pow (n := 32) ha hb)]
theorem and32 {a b : Nat} (ha : a < 4294967296) (hb : b < 4294967296) : AV.int .u32 (IntKind.wrap .u32 ((BitVec.ofInt (IntKind.bits .u32) (a : Int) &&& BitVec.ofInt (IntKind.bits .u32) (b : Int)).toNat)) = .int .u32 ((a &&& b : Nat) : Int) := by
 show AV.int .u32 (IntKind.wrap .u32 ((BitVec.ofInt 32 (a : Int) &&& BitVec.ofInt 32 (b : Int)).toNat)) = _
 rw [bvn, bvn, BitVec.toNat_and, BitVec.toNat_ofNat, BitVec.toNat_ofNat, Nat.mod_eq_of_lt ha, Nat.mod_eq_of_lt hb, wrap32 (Nat.lt_of_le_of_lt Nat.and_le_left ha)]
theorem neg32 (x : Nat) : AV.int .u32 (IntKind.wrap .u32 (0 - ((x % 2 : Nat) : Int))) = .int .u32 ((if x % 2 = 1 then 4294967295 else 0 : Nat) : Int) := by
 rcases Nat.mod_two_eq_zero_or_one x with h | h
 ·rw [h]; rfl
 ·rw [h]; rfl
theorem poly32 (x : Nat) : (3988292384 &&& (if x % 2 = 1 then 4294967295 else 0) : Nat) = if x % 2 = 1 then poly else 0 := by
 split <;> rfl
theorem p48 {h : Heap} {n : Nat} (_hn : n < 4294967296) : HCallC Tryz.prog ann 48 [.int .u32 (n : Int)] h fun v h' => OSl h 1 v (ubs (four n)) (four n).length h' := by
 refine s_call_x rfl Tryz.func48 (frc (by with_unfolding_all rfl)) rfl ?_
 refine tV ?_
 (refine tG ?_; (with_reducible apply o_shrN (a := n) (b := 24)); exact rfl; exact rfl; exact rfl; (decide))
 apply o_as (w := ub (UInt8.ofNat (n / 2 ^ 24))) rfl rfl trivial (cvb _)
 refine tV ?_
 (refine tG ?_; (with_reducible apply o_shrN (a := n) (b := 16)); exact rfl; exact rfl; exact rfl; (decide))
 apply o_as (w := ub (UInt8.ofNat (n / 2 ^ 16))) rfl rfl trivial (cvb _)
 refine tV ?_
 (refine tG ?_; (with_reducible apply o_shrN (a := n) (b := 8)); exact rfl; exact rfl; exact rfl; (decide))
 apply o_as (w := ub (UInt8.ofNat (n / 2 ^ 8))) rfl rfl trivial (cvb _)
 refine tV ?_
 apply o_as (w := ub (UInt8.ofNat n)) rfl rfl trivial (cvb _)
 apply o_hbs rfl rfl rfl
 intro i hi
 have H : OSl h 1 (.sl i 0 4 1) (ubs (four n)) (four n).length (upd h i (some (.cells (ubs (four n))))) := ⟨.upd hi, .inr ⟨i, rfl, hi, upd_same, rfl⟩⟩
 refine tW ?_
 (first | apply hx_ret | apply hx_norm)
 ·exact rfl
 ·exact rfl
 ·rw [killL_nil]
  exact H
 ·exact fun h => by cases h
theorem p103 {h : Heap} {v : AV} {bs : B} (hv : VSl h 1 v (ubs bs) bs.length) (hl : bs.length ≤ 9223372036854775807) : Looks Tryz.prog ann 103 [.int .u32 0, v] h (.int .u32 (crc bs : Int)) := by
 refine s_look_of rfl Tryz.func103 (frc (by with_unfolding_all rfl)) rfl ?_
 refine tV ?_
 apply o_as (w := .int .u32 ((4294967295 : Nat) : Int)) rfl rfl trivial rfl
 refine tV ?_
 apply o_lenV rfl rfl hv
 refine tV ?_
 refine s_loop (fun i : Nat => [(5, .int .u32 (RS 4294967295 (bs.take i) : Int)), (10, v), (11, .int .i64 bs.length), (12, .int .i64 (i : Int))]) (fun i h' => h' = h ∧ i ≤ bs.length) (fun i => bs.length - i) 0
  tU ⟨rfl, Nat.zero_le _⟩ ?_
 rintro i h' ⟨rfl, hi⟩
 refine tW ?_
 (refine tG ?_; refine oB fun b hb => ?_; cases b)
 case false =>
  have hil : i = bs.length := by simp at hb; omega
  subst hil
  rw [List.take_of_length_le (Nat.le_refl _)]
  refine tV ?_
  apply o_as (w := .int .u32 (crc bs : Int)) rfl rfl trivial (by
   have := xor32 (a := 4294967295) (b := RS 4294967295 bs) (by decide) (RS_lt (by decide))
   refine Eq.trans this ?_
   rw [Nat.xor_comm]
   rfl)
  refine tW ?_
  (first | apply lret_ret | apply lret_norm)
  ·exact rfl
  ·exact rfl
  ·exact rfl
  ·exact .refl
  ·simp
 have hil : i < bs.length := by simpa using hb
 refine tV ?_
 apply o_iaV rfl rfl rfl hv (by omega) (by omega)
 intro p hp
 have hc : ((ubs bs).drop ((i : Int).toNat * 1)).take 1 = [ub bs[i]] := by
  rw [Int.toNat_natCast, Nat.mul_one]
  unfold ubs
  rw [List.drop_eq_getElem_cons (by simpa using hil)]
  simp
 rw [hc] at hp
 apply o_ldV rfl rfl hp (fun h => by omega)
 refine tV ?_
 have hb8 : (bs[i].toNat : Int) < 256 := by have := bs[i].toNat_lt; omega
 (refine tG ?_; (with_reducible apply o_cvN (a := bs[i].toNat)); exact rfl; exact rfl; exact wu32 (by omega) (by omega))
 have hr : RS 4294967295 (bs.take i) < 4294967296 := RS_lt (by decide)
 apply o_as (w := .int .u32 ((RS 4294967295 (bs.take i) ^^^ bs[i].toNat : Nat) : Int)) rfl rfl trivial (xor32 hr (by omega))
 refine tV ?_
 refine s_loop (fun j : Nat => [(5, .int .u32 (TI j (RS 4294967295 (bs.take i) ^^^ bs[i].toNat) : Int)), (10, v), (11, .int .i64 bs.length), (12, .int .i64 (i : Int)), (20, .int .i64 (j : Int))]) (fun j h2 => h2 = h' ∧ j ≤ 8) (fun j => 8 - j) 0
  tU ⟨rfl, by omega⟩ ?_
 rintro j h2 ⟨rfl, hj⟩
 have hx : TI j (RS 4294967295 (bs.take i) ^^^ bs[i].toNat) < 4294967296 := TI_lt (Nat.xor_lt_two_pow (n := 32) hr (by omega))
 have hnext : TI (j + 1) (RS 4294967295 (bs.take i) ^^^ bs[i].toNat) = TN (TI j (RS 4294967295 (bs.take i) ^^^ bs[i].toNat)) := by rw [TI_add]; rfl
 refine tW ?_
 (refine tG ?_; refine oB fun b hb => ?_; cases b)
 case false =>
  have hj8 : j = 8 := by simp at hb; omega
  subst hj8
  refine tW ?_
  rw [w64 (n := (i : Int) + 1) (by omega) (by omega)]
  refine ⟨i + 1, by simp only; omega, sub_cons ?_ tU, rfl, rfl, hil⟩
  have : RS 4294967295 (bs.take (i + 1)) = TI 8 (RS 4294967295 (bs.take i) ^^^ bs[i].toNat) := by
   rw [List.take_add_one, List.getElem?_eq_getElem hil, Option.toList_some, RS_append]
   rfl
  rw [this]
  rfl
 generalize TI j (RS 4294967295 (bs.take i) ^^^ bs[i].toNat) = x at hx hnext ⊢
 refine tV ?_
 (refine tG ?_; (with_reducible apply o_shrN (a := x) (b := 1)); exact rfl; exact rfl; exact rfl; (decide))
 refine tV ?_
 apply o_as (w := .int .u32 ((x % 2 : Nat) : Int)) rfl rfl trivial (by
  refine (and32 hx (b := 1) (by decide)).trans ?_
  rw [Nat.and_one_is_mod])
 apply o_as rfl rfl trivial (neg32 x)
 apply o_as (w := .int .u32 ((if x % 2 = 1 then poly else 0 : Nat) : Int)) rfl rfl trivial (by
  refine (and32 (a := 3988292384) (by decide) (by split <;> decide)).trans ?_
  rw [poly32])
 apply o_as (w := .int .u32 (TN x : Int)) rfl rfl trivial (xor32 (by omega) (by split <;> decide))
 refine tW ?_
 rw [w64 (n := (j : Int) + 1) (by omega) (by omega)]
 refine ⟨j + 1, by simp only; simp at hb; omega, sub_cons ?_ tU, rfl, rfl, by simp at hb; omega⟩
 rw [hnext]
 rfl
end Go.Proofs
