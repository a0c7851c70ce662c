import Derived.Test.YtmnnmgfjlokmkaaGreatAbsTac
import Derived.Test.YtmnnmgfjlokmkaaGreatImCut
import Derived.Test.YtmnnmgfjlokmkaaGreatImRd
section
open Go Go.Abs Go.Proofs.SlimCode Go.Img
set_option maxRecDepth 100000
namespace Go.Proofs
def getV : G → AV
 | .ok n k => .tup [I n, I k, I 0]
 | .err e => .tup [I 0, I 0, I e]
theorem and127 {c : Nat} (h : c < 256) : AV.int .u8 (IntKind.wrap .u8 ((BitVec.ofInt (IntKind.bits .u8) (c : Int) &&& BitVec.ofInt (IntKind.bits .u8) 127).toNat)) = .int .u8 ((c % 128 : Nat) : Int) := by
 have key : ∀ a : Nat, a < 256 → IntKind.wrap .u8 ((BitVec.ofInt 8 (a : Int) &&& BitVec.ofInt 8 127).toNat) = ((a % 128 : Nat) : Int) := by decide +kernel
 exact congrArg _ (key c h)
theorem shlu64 {a k : Nat} {z : Int} (hz : z = (k : Int)) (hk : k ≤ 63) (h : a * 2 ^ k < 18446744073709551616) : AV.int .u64 (IntKind.wrap .u64 ((a : Int) * 2 ^ (min z.toNat (IntKind.bits .u64)))) = .int .u64 ((a * 2 ^ k : Nat) : Int) := by
 subst hz
 have e : min (k : Int).toNat (IntKind.bits .u64) = k := by
  rw [Int.toNat_natCast]
  exact Nat.min_eq_left (by show k ≤ 64; omega)
 rw [e, show (a : Int) * 2 ^ k = ((a * 2 ^ k : Nat) : Int) by push_cast; rfl, wu64 (by omega) (by omega)]
theorem oru64 {u x k : Nat} (hu : u < 2 ^ k) (h : x * 2 ^ k < 18446744073709551616) (h2 : u < 18446744073709551616) : AV.int .u64 (IntKind.wrap .u64 ((BitVec.ofInt (IntKind.bits .u64) (u : Int) ||| BitVec.ofInt (IntKind.bits .u64) ((x * 2 ^ k : Nat) : Int)).toNat)) = .int .u64 ((u + x * 2 ^ k : Nat) : Int) := by
 show AV.int .u64 (IntKind.wrap .u64 ((BitVec.ofInt 64 (u : Int) ||| BitVec.ofInt 64 ((x * 2 ^ k : Nat) : Int)).toNat)) = _
 have e : ∀ x : Nat, BitVec.ofInt 64 (x : Int) = BitVec.ofNat 64 x := fun x => BitVec.ofInt_natCast ..
 have e2 : u ||| x * 2 ^ k = u + x * 2 ^ k := by
  rw [← Nat.shiftLeft_eq, Nat.or_comm, Nat.add_comm, Nat.shiftLeft_add_eq_or_of_lt hu]
 rw [e, e, BitVec.toNat_or, BitVec.toNat_ofNat, BitVec.toNat_ofNat, Nat.mod_eq_of_lt (by omega), Nat.mod_eq_of_lt (by omega)]
 have h3 : u ||| x * 2 ^ k < 2 ^ 64 := Nat.or_lt_two_pow (by omega) (by omega)
 rw [e2] at h3 ⊢
 rw [wu64 (by omega) (by omega)]
theorem and1u64 {u : Nat} (h : u < 18446744073709551616) : AV.int .u64 (IntKind.wrap .u64 ((BitVec.ofInt (IntKind.bits .u64) (u : Int) &&& BitVec.ofInt (IntKind.bits .u64) 1).toNat)) = .int .u64 ((u % 2 : Nat) : Int) := by
 show AV.int .u64 (IntKind.wrap .u64 ((BitVec.ofInt 64 (u : Int) &&& BitVec.ofInt 64 ((1 : Nat) : Int)).toNat)) = _
 have e : ∀ x : Nat, BitVec.ofInt 64 (x : Int) = BitVec.ofNat 64 x := fun x => BitVec.ofInt_natCast ..
 rw [e, e, BitVec.toNat_and, BitVec.toNat_ofNat, BitVec.toNat_ofNat, Nat.mod_eq_of_lt (by omega), Nat.mod_eq_of_lt (a := 1) (by omega), Nat.and_one_is_mod, wu64 (by omega) (by omega)]
theorem not64 {m : Nat} (h : m < 9223372036854775808) : AV.int .i64 (IntKind.wrap .i64 ((BitVec.ofInt (IntKind.bits .i64) (if IntKind.signed .i64 then -1 else IntKind.max .i64) ^^^ BitVec.ofInt (IntKind.bits .i64) (m : Int)).toNat)) = I (-(m : Int) - 1) := by
 show AV.int .i64 (IntKind.wrap .i64 ((BitVec.ofInt 64 (-1) ^^^ BitVec.ofInt 64 (m : Int)).toNat)) = _
 have e1 : BitVec.ofInt 64 (-1 : Int) = BitVec.allOnes 64 := by decide
 have e2 : BitVec.ofInt 64 (m : Int) = BitVec.ofNat 64 m := by rw [BitVec.ofInt_natCast]
 rw [e1, e2, BitVec.allOnes_xor, BitVec.toNat_not, BitVec.toNat_ofNat]
 simp only [IntKind.wrap, IntKind.bits, IntKind.signed]
 simp
 omega
theorem byte_at {bs : B} {i : Nat} (hi : i < bs.length) : ((ubs bs).drop ((i : Int).toNat * 1)).take 1 = [ub bs[i]] := by
 rw [Int.toNat_natCast, Nat.mul_one]
 unfold ubs
 rw [List.drop_eq_getElem_cons (by simpa using hi)]
 simp
theorem byte_ptr {h : Heap} {p : AV} {bs : B} {z : Int} {i : Nat} (hz : z = (i : Int)) (hi : i < bs.length) (hp : VPtr h p (((ubs bs).drop (z.toNat * 1)).take 1)) : VPtr h p [ub bs[i]] := by
 subst hz
 rwa [byte_at hi] at hp
theorem p111 {h : Heap} {v : AV} {bs : B} (hv : VSl h 1 v (ubs bs) bs.length) (_hl : bs.length ≤ 9223372036854775807) : Looks Tryz.prog ann 111 [v] h (getV (get bs)) := by
 refine s_look_of rfl Tryz.func111 (frc (by with_unfolding_all rfl)) rfl ?_
 refine tV ?_
 apply o_lenV rfl rfl hv
 refine tV ?_
 refine s_loop (fun s : Nat × Nat => [(5, .int .u64 (s.2 : Int)), (9, v), (10, .int .i64 (bs.length : Int)), (11, .int .i64 (s.1 : Int))]) (fun s h' => h' = h ∧ s.1 ≤ bs.length ∧ s.1 ≤ 9 ∧ s.2 < 2 ^ (7 * s.1) ∧ getL s.1 s.2 (bs.drop s.1) = get bs) (fun s => bs.length - s.1) (0, 0)
  tU ⟨rfl, Nat.zero_le _, by omega, by decide, rfl⟩ ?_
 rintro ⟨i, u⟩ h' ⟨rfl, hi, h9, hu, he⟩
 simp only at hi h9 hu he ⊢
 refine tW ?_
 (refine tG ?_; refine oB fun b hb => ?_; cases b)
 case false =>
  have hil : i = bs.length := by simp at hb; omega
  rw [hil, List.drop_length, getL] at he
  rw [← he]
  refine tW ?_
  (first | apply lret_ret | apply lret_norm)
  ·exact rfl
  ·exact rfl
  ·exact rfl
  ·exact .refl
  ·simp
 have hil : i < bs.length := by simpa using hb
 rw [List.drop_eq_getElem_cons hil, getL] at he
 have hc8 : bs[i].toNat < 256 := bs[i].toNat_lt
 have hp7 : 2 ^ (7 * i) ≤ 2 ^ 63 := Nat.pow_le_pow_right (by omega) (by omega)
 refine tV ?_
 apply o_iaV rfl rfl rfl hv (by omega) (by omega)
 intro p hp
 replace hp : VPtr h' p [.int .u8 ((bs[i].toNat : Nat) : Int)] := byte_ptr (i := i) rfl hil hp
 apply o_ldV rfl rfl hp (fun h => by omega)
 generalize bs[i].toNat = c at he hc8 ⊢
 refine tv ?_
 refine tv ?_
 ((with_reducible apply o_nil); (with_reducible apply ssq_norm))
 apply s_join (σ := Unit) (fun _ => [(5, .int .u64 (u : Int)), (6, .int .i64 (i : Int)), (7, .int .u8 (c : Int)), (9, v), (10, .int .i64 (bs.length : Int)), (11, .int .i64 (i : Int))]) (fun _ h2 => h2 = h' ∧ (i = 9 → c ≤ 1))
 ·refine tW ?_
  (refine tG ?_; refine oB fun b1 h1 => ?_; cases b1)
  ·have hn : i ≠ 9 := by simp at h1; omega
   refine tW ?_
   exact ⟨(), tU, rfl, rfl, fun h => absurd h hn⟩
  ·have hn : i = 9 := by simp at h1; omega
   refine tW ?_
   (refine tG ?_; refine oB fun b2 h2 => ?_; cases b2)
   ·have hc : c ≤ 1 := by simp at h2; omega
    refine tW ?_
    exact ⟨(), tU, rfl, rfl, fun _ => hc⟩
   ·have hc : 1 < c := by simp at h2; omega
    rw [if_pos ⟨hn, hc⟩] at he
    rw [← he]
    refine tW ?_
    (first | apply lret_ret | apply lret_norm)
    ·exact rfl
    ·exact rfl
    ·exact rfl
    ·exact .refl
    ·simp
 rintro _ h2 ⟨rfl, hc9⟩
 rw [if_neg (by omega)] at he
 have hm : c % 128 * 2 ^ (7 * i) < 18446744073709551616 := by
  rcases Nat.lt_or_ge i 9 with h | h
  ·have h1 : c % 128 * 2 ^ (7 * i) ≤ 127 * 2 ^ (7 * i) := Nat.mul_le_mul_right _ (by omega)
   have h2 : 2 ^ (7 * i) ≤ 2 ^ 56 := Nat.pow_le_pow_right (by omega) (by omega)
   omega
  ·have h1 := hc9 (by omega)
   have h3 : c % 128 * 2 ^ (7 * i) ≤ 1 * 2 ^ (7 * i) := Nat.mul_le_mul_right _ (by omega)
   omega
 have hU : u + c % 128 * 2 ^ (7 * i) < 18446744073709551616 := by
  have h1 : u ||| c % 128 * 2 ^ (7 * i) < 2 ^ 64 := Nat.or_lt_two_pow (by omega) (by omega)
  have e2 : u ||| c % 128 * 2 ^ (7 * i) = u + c % 128 * 2 ^ (7 * i) := by
   rw [← Nat.shiftLeft_eq, Nat.or_comm, Nat.add_comm, Nat.shiftLeft_add_eq_or_of_lt hu]
  omega
 refine tV ?_
 apply o_as rfl rfl trivial (and127 hc8)
 (refine tG ?_; (with_reducible apply o_cvN (a := c % 128)); exact rfl; exact rfl; exact wu64 (by omega) (by omega))
 refine tV ?_
 (refine tG ?_; (with_reducible apply o_mulN (a := 7) (b := i)); exact rfl; exact rfl; exact rfl; exact w64 (by omega) (by omega))
 apply o_as rfl rfl (show (0 : Int) ≤ ((7 * i : Nat) : Int) by omega) (shlu64 (k := 7 * i) rfl (by omega) hm)
 apply o_as rfl rfl trivial (oru64 hu hm (by omega))
 have hU2 : 127 < c → i < 9 → u + c % 128 * 2 ^ (7 * i) < 2 ^ (7 * (i + 1)) := by
  intro _ _
  have hp : 2 ^ (7 * (i + 1)) = 128 * 2 ^ (7 * i) := by rw [Nat.mul_add, Nat.pow_add, Nat.mul_comm]
  have hm : c % 128 * 2 ^ (7 * i) ≤ 127 * 2 ^ (7 * i) := Nat.mul_le_mul_right _ (by omega)
  omega
 generalize u + c % 128 * 2 ^ (7 * i) = U at he hU hU2 ⊢
 refine tW ?_
 (refine tG ?_; refine oB fun b3 h3 => ?_; cases b3)
 case true =>
  have hc : 127 < c := by simp at h3; omega
  rw [if_pos hc] at he
  refine tW ?_
  rw [w64 (n := (i : Int) + 1) (by omega) (by omega)]
  exact ⟨(i + 1, U), by simp only; omega, tU, rfl, rfl, hil, by omega, hU2 hc (by omega), he⟩
 have hc : ¬ 127 < c := by simp at h3; omega
 rw [if_neg hc] at he
 ((with_reducible apply o_nil); (with_reducible apply ssq_norm); (with_reducible apply s_condF); exact rfl; (with_reducible apply s_skip); (with_reducible apply ssq_norm))
 apply s_join (σ := Unit) (fun _ => [(5, .int .u64 (U : Int)), (6, .int .i64 (i : Int))]) (fun _ h3 => h3 = h2 ∧ ¬ (0 < i ∧ c = 0))
 ·refine tW ?_
  (refine tG ?_; refine oB fun b1 h1 => ?_; cases b1)
  ·have hn : i = 0 := by simp at h1; omega
   refine tW ?_
   exact ⟨(), tU, rfl, rfl, by omega⟩
  ·have hn : 0 < i := by simp at h1; omega
   refine tW ?_
   (refine tG ?_; refine oB fun b2 h2 => ?_; cases b2)
   ·have hc : c ≠ 0 := by simp at h2; omega
    refine tW ?_
    exact ⟨(), tU, rfl, rfl, by omega⟩
   ·have hc : c = 0 := by simp at h2; omega
    rw [if_pos ⟨hn, hc⟩] at he
    rw [← he]
    refine tW ?_
    (first | apply lret_ret | apply lret_norm)
    ·exact rfl
    ·exact rfl
    ·exact rfl
    ·exact .refl
    ·simp
 rintro _ h4 ⟨rfl, hc0⟩
 rw [if_neg hc0] at he
 rw [← he]
 refine tV ?_
 (refine tG ?_; (with_reducible apply o_shrN (a := U) (b := 1)); exact rfl; exact rfl; exact rfl; (decide))
 (refine tG ?_; (with_reducible apply o_cvN (a := U / 2 ^ 1)); exact rfl; exact rfl; exact w64 (by omega) (by omega))
 refine tv ?_
 ((with_reducible apply o_nil); (with_reducible apply ssq_norm))
 apply s_join (σ := Unit) (fun _ => [(6, .int .i64 (i : Int)), (8, I (unzz U))]) (fun _ h3 => h3 = h4)
 ·refine tV ?_
  apply o_as rfl rfl trivial (and1u64 hU)
  (refine tG ?_; refine oB fun b1 h1 => ?_; cases b1)
  ·have e : U % 2 ≠ 1 := by simp at h1; omega
   refine tW ?_
   refine ⟨(), sub_cons rfl (sub_cons ?_ sub_nil), rfl, rfl⟩
   unfold unzz
   rw [if_neg e]
   rfl
  ·have e : U % 2 = 1 := by simp at h1; omega
   refine tV ?_
   apply o_as rfl rfl trivial (not64 (m := U / 2 ^ 1) (by omega))
   refine tW ?_
   refine ⟨(), sub_cons rfl (sub_cons ?_ sub_nil), rfl, rfl⟩
   unfold unzz
   rw [if_pos e]
   rfl
 rintro _ h5 rfl
 refine tW ?_
 rw [w64 (n := (i : Int) + 1) (by omega) (by omega)]
 (first | apply lret_ret | apply lret_norm)
 ·exact rfl
 ·exact rfl
 ·exact rfl
 ·exact .refl
 ·simp
end Go.Proofs
end
section
open Go Go.Abs Go.Proofs.SlimCode Go.Img
set_option maxRecDepth 100000
namespace Go.Proofs
theorem getL_err : ∀ (b : B) (i u : Nat) {e : Int}, getL i u b = .err e → e ≠ 0
 | [], i, u, e, h => by
  rw [getL] at h
  cases h
  decide
 | c :: r, i, u, e, h => by
  rw [getL] at h
  split at h
  ·cases h
   decide
  ·split at h
   ·exact getL_err r _ _ h
   ·split at h
    ·cases h
     decide
    ·cases h
theorem get_err {b : B} {e : Int} (h : Img.get b = .err e) : e ≠ 0 := getL_err b 0 0 h
theorem ubs_drop (bs : B) (k : Nat) : ((ubs bs).take (bs.length * 1)).drop (((k : Nat) : Int).toNat * 1) = ubs (bs.drop k) := by
 rw [Int.toNat_natCast, Nat.mul_one, Nat.mul_one]
 unfold ubs
 rw [List.take_of_length_le (by simp), List.map_drop]
def getTV (bs : B) : AV := match Img.get bs with
 | .err e => .tup [.str [], I 0, I e]
 | .ok n k => if n < 0 ∨ 1048576 < n then .tup [.str [], I 0, I 1] else if (bs.length : Int) - k < n then .tup [.str [], I 0, I 2] else .tup [.str ((bs.drop k).take n.toNat), I ((k + n.toNat : Nat) : Int), I 0]
theorem p158 {h : Heap} {v : AV} {bs : B} (hv : VSl h 1 v (ubs bs) bs.length) (hl : bs.length ≤ 1048576) : Looks Tryz.prog ann 158 [v] h (getTV bs) := by
 refine s_look_of rfl Tryz.func158 (frc (by with_unfolding_all rfl)) rfl ?_
 refine tV ?_
 apply o_hcall rfl rfl rfl rfl (p111 hv (by omega)).go
 rintro _ h1 ⟨rfl, hx⟩
 have hv1 := hv.mono hx
 unfold getTV
 cases hg : Img.get bs with
 | err e =>
  have he := get_err hg
  simp only [getV]
  refine tW ?_
  (refine tG ?_; refine oB fun b hb => ?_)
  have e1 : b = true := by rw [hb]; simpa using he
  subst e1
  refine tW ?_
  (first | apply lret_ret | apply lret_norm)
  ·exact rfl
  ·exact rfl
  ·exact rfl
  ·exact hx
  ·simp
 | ok n k =>
  obtain ⟨hn, hk0, hk⟩ := get_ok hg
  unfold I64 at hn
  simp only [getV]
  refine tW ?_
  (refine tG ?_; refine oB fun b1 h1 => ?_; cases b1)
  case true =>
   have h0 : n < 0 := by simpa using h1
   rw [if_pos (.inl h0)]
   refine tW ?_
   (first | apply lret_ret | apply lret_norm)
   ·exact rfl
   ·exact rfl
   ·exact rfl
   ·exact hx
   ·simp
  have h0 : ¬ n < 0 := by simp at h1; omega
  refine tW ?_
  (refine tG ?_; refine oB fun b2 h2 => ?_; cases b2)
  case true =>
   have hb : 1048576 < n := by simpa using h2
   rw [if_pos (.inr hb)]
   refine tW ?_
   (first | apply lret_ret | apply lret_norm)
   ·exact rfl
   ·exact rfl
   ·exact rfl
   ·exact hx
   ·simp
  have hb : ¬ 1048576 < n := by simp at h2; omega
  rw [if_neg (by omega)]
  obtain ⟨m, rfl⟩ : ∃ m : Nat, n = m := ⟨n.toNat, by omega⟩
  rw [Int.toNat_natCast]
  refine tV ?_
  apply o_lenV rfl rfl hv1
  refine tv ?_
  (refine tG ?_; (with_reducible apply o_subN (a := bs.length) (b := k)); exact rfl; exact rfl; exact rfl; (omega); exact w64 (by omega) (by omega))
  refine tV ?_
  (refine tG ?_; refine oB fun b3 h3 => ?_; cases b3)
  case true =>
   have hc : (bs.length : Int) - k < m := by
    have : ((bs.length - k : Nat) : Int) < (m : Int) := by simpa using h3
    omega
   rw [if_pos hc]
   refine tW ?_
   (first | apply lret_ret | apply lret_norm)
   ·exact rfl
   ·exact rfl
   ·exact rfl
   ·exact hx
   ·simp
  have hc : ¬ (bs.length : Int) - k < m := by
   have : ¬ ((bs.length - k : Nat) : Int) < (m : Int) := by simpa using h3
   omega
  rw [if_neg hc]
  refine tV ?_
  (refine tG ?_; (with_reducible apply o_addN (a := k) (b := m)); exact rfl; exact rfl; exact rfl; exact w64 (by omega) (by omega))
  apply o_sltV (l := (k : Int)) (m := ((k + m : Nat) : Int)) rfl rfl hv1 rfl rfl (by omega) (by omega) (by omega)
  intro w hw
  have e1 : ((ubs bs).take (((k + m : Nat) : Int).toNat * 1)).drop (((k : Nat) : Int).toNat * 1) = ubs ((bs.drop k).take m) := by
   rw [Int.toNat_natCast, Int.toNat_natCast, Nat.mul_one, Nat.mul_one]
   unfold ubs
   rw [← List.map_take, ← List.map_drop, List.drop_take, Nat.add_sub_cancel_left]
  rw [e1] at hw
  apply o_b2sV rfl rfl hw (fun h => by omega)
  refine tV ?_
  (refine tG ?_; (with_reducible apply o_addN (a := k) (b := m)); exact rfl; exact rfl; exact rfl; exact w64 (by omega) (by omega))
  refine tW ?_
  (first | apply lret_ret | apply lret_norm)
  ·exact rfl
  ·exact rfl
  ·exact rfl
  ·exact hx
  ·simp
def RI : Heap → AV → Int → Prop := fun _ v n => v = I n ∧ I64 n
def RW : Heap → AV → Int → Prop := fun _ v n => v = .int .i32 n ∧ I32 n
def RTr : Heap → AV → Bool → Prop := fun _ v b => v = .bool b
def RTx : Heap → AV → B → Prop := fun _ v s => v = .str s ∧ s.length ≤ 1048576
theorem p55 {w : Nat} : Reads Tryz.prog ann 55 [.ptr w 0] w pNum 10 (fun n => (put n).length) RI := by
 intro g bs t h hbs H
 obtain ⟨v, hw, hv⟩ := H.st
 refine s_call_Y rfl rfl Tryz.func55 (frc (by with_unfolding_all rfl)) rfl ?_
 refine tV ?_
 apply o_ldh rfl rfl hw (fun h => by omega) rfl
 apply o_hcall rfl rfl rfl rfl (p111 (hv.mono H.ext) (by omega)).go
 rintro _ h1 ⟨rfl, hx⟩
 have hw1 := hx _ _ hw
 have hw2 : ∀ b, upd h1 w (some (.cells [v, .bool b])) w = some (.cells [v, .bool b]) := fun b => upd_same
 have h00 : RI g (I 0) 0 := ⟨rfl, by unfold I64; omega⟩
 have hc0 : (put 0).length ≤ 10 := put_len (by unfold I64; omega)
 cases t with
 | true =>
  have e : ∃ a b c, getV (Img.get bs) = .tup [a, I b, I c] := by
   cases Img.get bs with
   | err e => exact ⟨_, _, _, rfl⟩
   | ok n k => exact ⟨_, _, _, rfl⟩
  obtain ⟨a, b, c, e⟩ := e
  rw [e]
  refine tV ?_
  apply o_ldh rfl rfl hw1 (fun h => by omega) rfl
  refine tV ?_
  apply o_st1 rfl rfl rfl rfl rfl hw1 (show 1 < 2 by decide)
  refine tV ?_
  apply o_ldh rfl rfl (hw2 true) (fun h => by omega) rfl
  refine tW ?_
  exact hY_ret (vs := [I 0]) (.tmp rfl .nil) rfl (by
   rw [killL_nil]
   exact ⟨g, _, bs, true, RdR.stop H hv hx (fun h => by cases h) h00 hc0⟩)
 | false =>
  cases hg : Img.get bs with
  | err e =>
   have he := get_err hg
   have hp : pNum bs = none := by unfold pNum; rw [hg]
   simp only [getV]
   refine tV ?_
   apply o_ldh rfl rfl hw1 (fun h => by omega) rfl
   refine tV ?_
   (refine tG ?_; refine oB fun b hb => ?_)
   have e1 : b = true := by rw [hb]; simpa using he
   subst e1
   refine tV ?_
   apply o_st1 rfl rfl rfl rfl rfl hw1 (show 1 < 2 by decide)
   refine tV ?_
   apply o_ldh rfl rfl (hw2 true) (fun h => by omega) rfl
   refine tW ?_
   exact hY_ret (vs := [I 0]) (.tmp rfl .nil) rfl (by
    rw [killL_nil]
    exact ⟨g, _, bs, true, RdR.stop H hv hx (fun _ => hp) h00 hc0⟩)
  | ok n k =>
   obtain ⟨hn, hk0, hk⟩ := get_ok hg
   have hp : pNum bs = some (n, bs.drop k) := by unfold pNum; rw [hg]
   have hl : (bs.drop k).length = bs.length - k := List.length_drop
   simp only [getV]
   refine tV ?_
   apply o_ldh rfl rfl hw1 (fun h => by omega) rfl
   refine tW ?_
   apply o_st1 rfl rfl rfl rfl rfl hw1 (show 1 < 2 by decide)
   refine tV ?_
   apply o_ldh rfl rfl (hw2 false) (fun h => by omega) rfl
   refine tV ?_
   apply o_ldh rfl rfl (hw2 false) (fun h => by omega) rfl
   refine tV ?_
   apply o_sltW (l := (k : Int)) (m := (bs.length : Int)) rfl rfl hv rfl rfl (by omega) (by omega) (by omega)
   intro u hu
   rw [Int.toNat_natCast bs.length, ubs_drop, Int.toNat_natCast, ← hl] at hu
   refine tV ?_
   apply o_st1 rfl rfl rfl rfl hu.one (hw2 false) (show 0 < 2 by decide)
   rw [upd_upd]
   refine tW ?_
   exact hY_ret (vs := [I n]) (.tmp rfl .nil) rfl (by
    rw [killL_nil]
    exact ⟨g, n, bs.drop k, false, RdR.go H hu hx hp ⟨rfl, hn⟩ (by omega) (by have := put_len hn; omega)⟩)
theorem p104 {w : Nat} : Reads Tryz.prog ann 104 [.ptr w 0] w pText 10 (fun s => (eText s).length) RTx := by
 intro g bs t h hbs H
 obtain ⟨v, hw, hv⟩ := H.st
 refine s_call_Y rfl rfl Tryz.func104 (frc (by with_unfolding_all rfl)) rfl ?_
 refine tV ?_
 apply o_ldh rfl rfl hw (fun h => by omega) rfl
 apply o_hcall rfl rfl rfl rfl (p158 (hv.mono H.ext) hbs).go
 rintro _ h1 ⟨rfl, hx⟩
 have hw1 := hx _ _ hw
 have hw2 : ∀ b, upd h1 w (some (.cells [v, .bool b])) w = some (.cells [v, .bool b]) := fun b => upd_same
 have h00 : RTx g (.str []) [] := ⟨rfl, by simp⟩
 have hc0 : (eText []).length ≤ 10 := by
  have := put_len (n := ([] : B).length) (by unfold I64; decide)
  simpa [eText] using this
 cases t with
 | true =>
  have e : ∃ a b c, getTV bs = .tup [a, I b, I c] := by
   unfold getTV
   cases Img.get bs with
   | err e => exact ⟨_, _, _, rfl⟩
   | ok n k =>
    simp only
    split
    ·exact ⟨_, _, _, rfl⟩
    ·split
     ·exact ⟨_, _, _, rfl⟩
     ·exact ⟨_, _, _, rfl⟩
  obtain ⟨a, b, c, e⟩ := e
  rw [e]
  refine tV ?_
  apply o_ldh rfl rfl hw1 (fun h => by omega) rfl
  refine tV ?_
  apply o_st1 rfl rfl rfl rfl rfl hw1 (show 1 < 2 by decide)
  refine tV ?_
  apply o_ldh rfl rfl (hw2 true) (fun h => by omega) rfl
  refine tW ?_
  exact hY_ret (vs := [.str []]) (.tmp rfl .nil) rfl (by
   rw [killL_nil]
   exact ⟨g, _, bs, true, RdR.stop H hv hx (fun h => by cases h) h00 hc0⟩)
 | false =>
  by_cases hp : pText bs = none
  ·have e : ∃ c, c ≠ 0 ∧ getTV bs = .tup [.str [], I 0, I c] := by
    unfold getTV
    unfold pText at hp
    cases hg : Img.get bs with
    | err e => exact ⟨e, get_err hg, rfl⟩
    | ok n k =>
     rw [hg] at hp
     simp only at hp ⊢
     by_cases h1 : n < 0 ∨ 1048576 < n
     ·rw [if_pos h1]
      exact ⟨1, by decide, rfl⟩
     ·rw [if_neg h1] at hp ⊢
      by_cases h2 : (bs.length : Int) - k < n
      ·rw [if_pos h2]
       exact ⟨2, by decide, rfl⟩
      ·rw [if_neg h2] at hp
       cases hp
   obtain ⟨e, he, ee⟩ := e
   rw [ee]
   refine tV ?_
   apply o_ldh rfl rfl hw1 (fun h => by omega) rfl
   refine tV ?_
   (refine tG ?_; refine oB fun b hb => ?_)
   have e1 : b = true := by rw [hb]; simpa using he
   subst e1
   refine tV ?_
   apply o_st1 rfl rfl rfl rfl rfl hw1 (show 1 < 2 by decide)
   refine tV ?_
   apply o_ldh rfl rfl (hw2 true) (fun h => by omega) rfl
   refine tW ?_
   exact hY_ret (vs := [.str []]) (.tmp rfl .nil) rfl (by
    rw [killL_nil]
    exact ⟨g, _, bs, true, RdR.stop H hv hx (fun _ => hp) h00 hc0⟩)
  ·have e : ∃ (m k : Nat), getTV bs = .tup [.str ((bs.drop k).take m), I ((k + m : Nat) : Int), I 0] ∧ pText bs = some ((bs.drop k).take m, bs.drop (k + m)) ∧ m ≤ 1048576 ∧ 0 < k ∧ k + m ≤ bs.length := by
    unfold getTV
    unfold pText at hp ⊢
    cases hg : Img.get bs with
    | err e => rw [hg] at hp; exact absurd rfl hp
    | ok n k =>
     obtain ⟨hn, hk0, hk⟩ := get_ok hg
     rw [hg] at hp
     simp only at hp ⊢
     by_cases h1 : n < 0 ∨ 1048576 < n
     ·rw [if_pos h1] at hp
      exact absurd rfl hp
     ·rw [if_neg h1] at hp ⊢
      by_cases h2 : (bs.length : Int) - k < n
      ·rw [if_pos h2] at hp
       exact absurd rfl hp
      ·rw [if_neg h2, if_neg h1, if_neg h2]
       exact ⟨n.toNat, k, rfl, rfl, by omega, hk0, by omega⟩
   obtain ⟨m, k, e, hp, hm, hk0, hk⟩ := e
   rw [e]
   have hl : (bs.drop (k + m)).length = bs.length - (k + m) := List.length_drop
   have hlt : ((bs.drop k).take m).length = m := by rw [List.length_take, List.length_drop]; omega
   refine tV ?_
   apply o_ldh rfl rfl hw1 (fun h => by omega) rfl
   refine tW ?_
   apply o_st1 rfl rfl rfl rfl rfl hw1 (show 1 < 2 by decide)
   refine tV ?_
   apply o_ldh rfl rfl (hw2 false) (fun h => by omega) rfl
   refine tV ?_
   apply o_ldh rfl rfl (hw2 false) (fun h => by omega) rfl
   refine tV ?_
   apply o_sltW (l := ((k + m : Nat) : Int)) (m := (bs.length : Int)) rfl rfl hv rfl rfl (by omega) (by omega) (by omega)
   intro u hu
   rw [Int.toNat_natCast bs.length, ubs_drop, Int.toNat_natCast, ← hl] at hu
   refine tV ?_
   apply o_st1 rfl rfl rfl rfl hu.one (hw2 false) (show 0 < 2 by decide)
   rw [upd_upd]
   refine tW ?_
   exact hY_ret (vs := [.str ((bs.drop k).take m)]) (.tmp rfl .nil) rfl (by
    rw [killL_nil]
    refine ⟨g, _, bs.drop (k + m), false, RdR.go H hu hx hp ⟨rfl, by omega⟩ (by omega) ?_⟩
    have := put_len (n := ((bs.drop k).take m).length) (by unfold I64; omega)
    simp only [eText, List.length_append]
    omega)
theorem p58 {w : Nat} : Reads Tryz.prog ann 58 [.ptr w 0] w pWord 10 (fun n => (put n).length) RW := by
 intro g bs t h hbs H
 refine s_call_Y rfl rfl Tryz.func58 (frc (by with_unfolding_all rfl)) rfl ?_
 refine tV ?_
 apply o_hcall rfl rfl rfl rfl (p55 g bs t h hbs H)
 rintro _ h1 ⟨G, n, bs', t', R⟩
 obtain ⟨rfl, hn⟩ := R.val
 have hw : I32 (Img.w32 n) := by unfold I32 Img.w32; omega
 refine tV ?_
 apply o_as (w := .int .i32 (Img.w32 n)) rfl rfl trivial (by
  simp only [IntKind.wrap, IntKind.bits, IntKind.signed]
  simp
  unfold Img.w32
  split <;> omega)
 refine tW ?_
 exact hY_ret (vs := [.int .i32 (Img.w32 n)]) (.tmp rfl .nil) rfl (by
  rw [killL_nil]
  exact ⟨G, Img.w32 n, bs', t', R.map (f := Img.w32) ⟨rfl, hw⟩ (put_len (by unfold I32 at hw; unfold I64; omega))⟩)
theorem p60 {w : Nat} : Reads Tryz.prog ann 60 [.ptr w 0] w pTruth 10 (fun b => (eTruth b).length) RTr := by
 intro g bs t h hbs H
 refine s_call_Y rfl rfl Tryz.func60 (frc (by with_unfolding_all rfl)) rfl ?_
 refine tV ?_
 apply o_hcall rfl rfl rfl rfl (p55 g bs t h hbs H)
 rintro _ h1 ⟨G, n, bs', t', R⟩
 obtain ⟨rfl, hn⟩ := R.val
 refine tV ?_
 (refine tG ?_; refine oB fun b hb => ?_)
 have e : b = decide (n ≠ 0) := by rw [hb]; simp
 refine tW ?_
 exact hY_ret (vs := [.bool b]) (.tmp rfl .nil) rfl (by
  rw [killL_nil]
  subst e
  exact ⟨G, _, bs', t', R.map (f := fun n => decide (n ≠ 0)) rfl (by
   exact put_len (by unfold I64; split <;> omega))⟩)
end Go.Proofs
end
section
open Go Go.Abs Go.Proofs.SlimCode Go.Img
namespace Go.Proofs
def SR (s b : Nat) (z : List AV) : SC := (.seq (.reg [] [⟨some 4, none, .mv (.c (.nil .sl))⟩])
 (.seq (.reg [] [⟨some 5, none, .mv (.c (.nil .sl))⟩])
 (.seq (.seq (.reg [] [⟨some 7, none, .mv (.r 0)⟩,
  ⟨some 8, none, .call (.c (.fn 55 [] [])) [(.r 7)]⟩,
  ⟨some 6, none, .mv (.r 8)⟩])
 (.block 0 (.loop (.seq (.seq (.reg [] [⟨some 9, none, .mv (.r 6)⟩,
   ⟨some 10, none, .bin .gtr (.r 9) (.c (.int .i64 0))⟩,
   ⟨some 11, none, .mv (.r 10)⟩,
   ⟨some 12, some (11, true), .mv (.r 0)⟩,
   ⟨some 13, some (11, true), .chk (.r 12)⟩,
   ⟨some 14, some (11, true), .fa (.r 13) 1⟩,
   ⟨some 15, some (11, true), .ld (.r 14) none⟩,
   ⟨some 16, some (11, true), .un .not (.r 15)⟩,
   ⟨some 17, none, .pick (.r 11) (.r 16) (.c (.bool false))⟩])
  (.cond (.r 17)
   .skip
   (.exit 0)))
  (.seq (.block 1 (.reg [] [⟨some 20, none, .mv (.r 5)⟩,
    ⟨some 21, none, .mv (.r 1)⟩,
    ⟨some 22, none, .call (.r 21) []⟩,
    ⟨some 23, none, .bsl z s 1 [(0, s, (.r 22))]⟩,
    ⟨some 24, none, .app s b (.r 20) (.r 23)⟩,
    ⟨some 5, none, .mv (.r 24)⟩]))
  (.reg [] [⟨some 18, none, .mv (.r 6)⟩,
   ⟨some 19, none, .bin .sub (.r 18) (.c (.int .i64 1))⟩,
   ⟨some 6, none, .mv (.r 19)⟩]))))))
 (.seq (.reg [] [⟨some 25, none, .mv (.r 5)⟩,
  ⟨some 4, none, .mv (.r 25)⟩])
 .ret))))
theorem setL_at : ∀ (pre : List AV) (a v : AV) (r : List AV), setL (pre ++ a :: r) pre.length v = some (pre ++ v :: r)
 | [], _, _, _ => rfl
 | x :: pre, a, v, r => by
  simp only [List.cons_append, List.length_cons, setL]
  rw [setL_at pre a v r]
theorem putL_all : ∀ (vs pre z : List AV), z.length = vs.length → putL (pre ++ z) pre.length vs = some (pre ++ vs)
 | [], pre, [], _ => by simp [putL]
 | [], _, _ :: _, h => by cases h
 | _ :: _, _, [], h => by cases h
 | v :: vs, pre, a :: z, h => by
  unfold putL
  rw [setL_at]
  simp only
  have := putL_all vs (pre ++ [v]) z (by simpa using h)
  simpa using this
theorem fill_one {E : Lk} {x : SX} {z : List AV} {s : Nat} {v : AV} (hx : ev E x = some v) (hz : z.length = s) (hs : 0 < s) (h : v.cells.length = s) : fillS E z [(0, s, x)] = some v.cells := by
 simp only [fillS, hx]
 have one : v.cells = [v] → (if s = 1 then (match setL z 0 v with | some cs => some cs | none => none) else none) = some v.cells := fun e => by
  rw [e] at h
  have h : 1 = s := h
  subst h
  match z, hz with
  | [a], _ => rw [e]; rfl
 cases v with
 | agg vs =>
  have h : vs.length = s := h
  have e : putL z 0 vs = some vs := putL_all vs [] z (by rw [hz, h])
  simp only [e]
  rw [if_pos ⟨h, hs⟩]
  rfl
 | _ => exact one rfl
theorem read_of {α : Type} {f gf w s b : Nat} {z first : List AV} {p : Pa α} {K : Nat} {e : α → B} {R : Heap → List AV → α → Prop} {W : α → Prop} {fn : Func}
  (hst : ann.still f = false) (hp0 : ann.pure f = false) (hf : Tryz.prog.funcs[f]? = some fn) (hb : fn.body.bind (slC Tryz.prog ann f) = some (SR s b z)) (hn : (fn.name == "runtime.NumGoroutine" || decide (fn.ntmps < 2)) = false) (hnt : fn.ntmps = 26) (hres : fn.results.toList = [.tmp 4])
  (hz : z.length = s) (hR : Mono R) (hs : 0 < s) (hb1 : b ≤ 1000) (hp : Reads Tryz.prog ann gf (first ++ [] ++ []) w p K (fun a => (e a).length) (REl R s W)) :
  Reads Tryz.prog ann f [.ptr w 0, .fn gf first []] w (pList p) (K + 10) (fun l => (eList e l).length) (RLs R s W) := by
 intro g bs t h hbs H
 refine s_call_Y hst (by rw [hp0]; rfl) hf hb hn ?_
 rw [hnt, hres]
 unfold SR
 refine tV ?_
 apply o_hcall rfl rfl rfl rfl (p55 g bs t h hbs H)
 rintro _ h1 ⟨G1, n, bs1, t1, R1⟩
 obtain ⟨rfl, hn64⟩ := R1.val
 have hl1 := R1.out.len
 refine tV ?_
 refine s_loop (fun x : AV × Int × List α × B × Bool × Heap => [(0, .ptr w 0), (1, .fn gf first []), (5, x.1), (6, I x.2.1)]) (fun x h' => LA R s W w h g x.2.2.2.2.2 h' x.1 x.2.2.1 ∧ Rd x.2.2.2.2.2 w x.2.2.2.1 x.2.2.2.2.1 h' ∧ LO p K e n bs1 t1 x.2.2.1 x.2.1 x.2.2.2.1 x.2.2.2.2.1) (fun x => 2 * x.2.2.2.1.length + (if x.2.2.2.2.1 then 0 else 1)) (.nil .sl, n, [], bs1, t1, G1)
  tU ⟨.start R1, R1.rd, .start⟩ ?_
 rintro ⟨vv, k, l, bs2, t2, G⟩ h2 ⟨A1, A2, A3⟩
 simp only at A1 A2 A3 ⊢
 have hlen := A3.len
 obtain ⟨u, hw2, hu⟩ := A2.st
 have hll : (put l.length).length ≤ 10 := put_len (by unfold I64; omega)
 have fin : (t2 = true ∨ k ≤ 0) → ∃ G a bs' t', RdR (pList p) (K + 10) (fun l => (eList e l).length) (RLs R s W) g w bs t h vv h2 G a bs' t' := fun h0 => by
  obtain ⟨G', x1, x2, x3, x4⟩ := A1.done hR A2
  exact ⟨G', l, bs2, t2, x1, x2, ⟨x3, by omega, A1.all⟩, A3.out R1.out h0 hll, A1.frame, x4⟩
 refine tW ?_
 (refine tG ?_; refine oB fun b1 h1 => ?_; cases b1)
 case false =>
  have hk : k ≤ 0 := by simp at h1; omega
  refine tW ?_
  exact hY_ret (vs := [vv]) (.tmp rfl .nil) rfl (by rw [killL_nil]; exact fin (.inr hk))
 have hk : 0 < k := by simpa using h1
 refine tW ?_
 apply o_ldh rfl rfl hw2 (fun h => by omega) rfl
 cases t2 with
 | true =>
  refine tw ?_
  apply o_val rfl rfl trivial
  refine tW ?_
  exact hY_ret (vs := [vv]) (.tmp rfl .nil) rfl (by rw [killL_nil]; exact fin (.inl rfl))
 | false =>
  have hl2 := (A3.good rfl).2.2.2
  refine tw ?_
  apply o_val rfl rfl trivial
  refine tV ?_
  apply o_hcall rfl rfl rfl rfl (hp G bs2 false h2 (by omega) A2)
  rintro v h3 ⟨G3, a, bs3, t3, R3⟩
  obtain ⟨cs, c1, c2, c3⟩ := A1.step hR A2 R3
  obtain ⟨r1, r2, r3, r4⟩ := R3.val
  apply o_val (p := v.cells.length = 1 * s ∧ v.cells.all AV.one = true) (v := .tsl v.cells 1) rfl (by simp only [sv]; rw [fill_one rfl hz hs r2]) ⟨by omega, r3⟩
  apply o_appO (new := v.cells) (n := 1) rfl rfl rfl rfl c2 (srcOf_V (.tsl v.cells 1 (by omega))) (by omega) r3 (by
   have : (l.length + 1) * (b + 1) ≤ 1048578 * 1001 := Nat.mul_le_mul (by omega) (by omega)
   omega)
  intro v' h4 O _
  obtain ⟨B1, B2⟩ := c3 v' h4 O
  have hk2 := A3.hk
  unfold I64 at hn64
  refine tW ?_
  rw [w64 (n := k - 1) (by omega) (by omega)]
  refine ⟨(v', k - 1, l ++ [a], bs3, t3, G3), ?_, tU, rfl, B1, B2, A3.step hk R3.out⟩
  simp only
  have := R3.out
  cases this with
  | ok _ hl _ => simp only [Bool.false_eq_true, if_false]; omega
  | bad _ _ hl _ => simp only [Bool.false_eq_true, if_false, if_true]; omega
end Go.Proofs
end
section
open Go Go.Abs Go.Proofs.SlimCode Go.Img
set_option maxRecDepth 100000
namespace Go.Proofs
theorem p56 {w : Nat} : Reads Tryz.prog ann 56 [.ptr w 0, .fn 55 [.ptr w 0] []] w (pList pNum) 20 (fun l => (eList put l).length) (RLs (RN .i64) 1 I64) :=
 read_of (s := 1) (b := 8) (z := [I 0]) rfl rfl Tryz.func56 (frc (by with_unfolding_all rfl)) rfl rfl rfl rfl RN.mono (by decide) (by decide) (p55.val fun _ _ _ h => by obtain ⟨rfl, h⟩ := h; exact ⟨rfl, rfl, rfl, h⟩)
theorem p57 {w : Nat} : Reads Tryz.prog ann 57 [.ptr w 0, .fn 58 [.ptr w 0] []] w (pList pWord) 20 (fun l => (eList put l).length) (RLs (RN .i32) 1 I32) :=
 read_of (s := 1) (b := 4) (z := [.int .i32 0]) rfl rfl Tryz.func57 (frc (by with_unfolding_all rfl)) rfl rfl rfl rfl RN.mono (by decide) (by decide) (p58.val fun _ _ _ h => by obtain ⟨rfl, h⟩ := h; exact ⟨rfl, rfl, rfl, h⟩)
theorem p59 {w : Nat} : Reads Tryz.prog ann 59 [.ptr w 0, .fn 60 [.ptr w 0] []] w (pList pTruth) 20 (fun l => (eList eTruth l).length) (RLs RB 1 (fun _ => True)) :=
 read_of (s := 1) (b := 1) (z := [.bool false]) rfl rfl Tryz.func59 (frc (by with_unfolding_all rfl)) rfl rfl rfl rfl RB.mono (by decide) (by decide) (p60.val fun _ _ _ h => by obtain rfl := h; exact ⟨rfl, rfl, rfl, trivial⟩)
theorem one_box {k : Heap} {b : Nat} {o : AObj} (e : k b = some o) : ∀ c ∈ [b], k c ≠ none := by
 intro c hc
 obtain rfl := List.mem_singleton.1 hc
 rw [e]
 simp
theorem two_box {k : Heap} {b c : Nat} {o u : AObj} (e : k b = some o) (f : k c = some u) : ∀ x ∈ [c, b], k x ≠ none := by
 intro x hx
 simp only [List.mem_cons, List.not_mem_nil, or_false] at hx
 rcases hx with rfl | rfl
 ·rw [f]; simp
 ·rw [e]; simp
theorem p106 {w : Nat} : Reads Tryz.prog ann 106 [.ptr w 0] w pPair 20 (fun p => (ePair p).length) (REl RPair 2 (fun p => I64 p.1 ∧ I64 p.2)) := by
 intro g bs t h hbs H
 refine s_call_Y rfl rfl Tryz.func106 (frc (by with_unfolding_all rfl)) rfl ?_
 refine tS ?_
 apply o_alc rfl
 intro b hb
 have C := (Ch.start H).box (o := .cells [I 0, I 0]) hb
 have e : upd h b (some (.cells [I 0, I 0])) b = some (.cells [I 0, I 0]) := upd_same
 show SOps _ _ _ _ _ _ _ _ [b] (upd h b (some (.cells [I 0, I 0]))) _
 generalize upd h b (some (.cells [I 0, I 0])) = k at C e ⊢
 refine tV ?_
 apply o_hcall rfl rfl rfl rfl (p55 _ _ _ _ hbs C.rd)
 rintro _ k0 ⟨G0, a0, bs0, t0, R0⟩
 obtain ⟨rfl, ha0⟩ := R0.val
 have C' := C.call R0 (one_box e)
 replace e := C.keep R0 (.head _) e
 replace C := C'
 have hl0 := R0.out.len
 refine tV ?_
 apply o_hcall rfl rfl rfl rfl (p55 _ _ _ _ (by omega) C.rd)
 rintro _ k1 ⟨G1, a1, bs1, t1, R1⟩
 obtain ⟨rfl, ha1⟩ := R1.val
 have C' := C.call R1 (one_box e)
 replace e := C.keep R1 (.head _) e
 replace C := C'
 have hl1 := R1.out.len
 refine tW ?_
 apply o_st (v := .agg [I a0, I a1]) (cs' := [I a0, I a1]) rfl rfl rfl rfl rfl rfl e rfl
 refine tW ?_
 exact hY_ret (vs := [.agg [I a0, I a1]]) (.cells (m := 2) rfl (by kernel_rfl) upd_same rfl .nil) rfl ⟨G1, (a0, a1), bs1, t1, (C.set (.head _)).fin ⟨rfl, rfl, rfl, ha0, ha1⟩ ((R0.out.bind (R1.out.map (f := fun x => (a0, x)))).as (by simp only [ePair, List.length_append]) (by omega))⟩
theorem p108 {w : Nat} : Reads Tryz.prog ann 108 [.ptr w 0] w pFour 40 (fun p => (eFour p).length) (REl RFour 4 F64) := by
 intro g bs t h hbs H
 refine s_call_Y rfl rfl Tryz.func108 (frc (by with_unfolding_all rfl)) rfl ?_
 refine tS ?_
 apply o_alc rfl
 intro b hb
 have C := (Ch.start H).box (o := .cells [I 0, I 0, I 0, I 0]) hb
 have e : upd h b (some (.cells [I 0, I 0, I 0, I 0])) b = some (.cells [I 0, I 0, I 0, I 0]) := upd_same
 show SOps _ _ _ _ _ _ _ _ [b] (upd h b (some (.cells [I 0, I 0, I 0, I 0]))) _
 generalize upd h b (some (.cells [I 0, I 0, I 0, I 0])) = k at C e ⊢
 refine tV ?_
 apply o_hcall rfl rfl rfl rfl (p55 _ _ _ _ hbs C.rd)
 rintro _ k0 ⟨G0, a0, bs0, t0, R0⟩
 obtain ⟨rfl, ha0⟩ := R0.val
 have C' := C.call R0 (one_box e)
 replace e := C.keep R0 (.head _) e
 replace C := C'
 have hl0 := R0.out.len
 refine tV ?_
 apply o_hcall rfl rfl rfl rfl (p55 _ _ _ _ (by omega) C.rd)
 rintro _ k1 ⟨G1, a1, bs1, t1, R1⟩
 obtain ⟨rfl, ha1⟩ := R1.val
 have C' := C.call R1 (one_box e)
 replace e := C.keep R1 (.head _) e
 replace C := C'
 have hl1 := R1.out.len
 refine tV ?_
 apply o_hcall rfl rfl rfl rfl (p55 _ _ _ _ (by omega) C.rd)
 rintro _ k2 ⟨G2, a2, bs2, t2, R2⟩
 obtain ⟨rfl, ha2⟩ := R2.val
 have C' := C.call R2 (one_box e)
 replace e := C.keep R2 (.head _) e
 replace C := C'
 have hl2 := R2.out.len
 refine tV ?_
 apply o_hcall rfl rfl rfl rfl (p55 _ _ _ _ (by omega) C.rd)
 rintro _ k3 ⟨G3, a3, bs3, t3, R3⟩
 obtain ⟨rfl, ha3⟩ := R3.val
 have C' := C.call R3 (one_box e)
 replace e := C.keep R3 (.head _) e
 replace C := C'
 have hl3 := R3.out.len
 refine tW ?_
 apply o_st (v := .agg [I a0, I a1, I a2, I a3]) (cs' := [I a0, I a1, I a2, I a3]) rfl rfl rfl rfl rfl rfl e rfl
 refine tW ?_
 exact hY_ret (vs := [.agg [I a0, I a1, I a2, I a3]]) (.cells (m := 4) rfl (by kernel_rfl) upd_same rfl .nil) rfl ⟨G3, (a0, a1, a2, a3), bs3, t3, (C.set (.head _)).fin ⟨rfl, rfl, rfl, ha0, ha1, ha2, ha3⟩ ((R0.out.bind (R1.out.bind (R2.out.bind (R3.out.map (f := fun x => (a0, a1, a2, x)))))).as (by simp only [eFour, List.length_append]) (by omega))⟩
theorem p110 {w : Nat} : Reads Tryz.prog ann 110 [.ptr w 0] w pFour 40 (fun p => (eFour p).length) (REl RFour 4 F64) := by
 intro g bs t h hbs H
 refine s_call_Y rfl rfl Tryz.func110 (frc (by with_unfolding_all rfl)) rfl ?_
 refine tS ?_
 apply o_alc rfl
 intro b hb
 have C := (Ch.start H).box (o := .cells [I 0, I 0, I 0, I 0]) hb
 have e : upd h b (some (.cells [I 0, I 0, I 0, I 0])) b = some (.cells [I 0, I 0, I 0, I 0]) := upd_same
 show SOps _ _ _ _ _ _ _ _ [b] (upd h b (some (.cells [I 0, I 0, I 0, I 0]))) _
 generalize upd h b (some (.cells [I 0, I 0, I 0, I 0])) = k at C e ⊢
 refine tV ?_
 apply o_hcall rfl rfl rfl rfl (p55 _ _ _ _ hbs C.rd)
 rintro _ k0 ⟨G0, a0, bs0, t0, R0⟩
 obtain ⟨rfl, ha0⟩ := R0.val
 have C' := C.call R0 (one_box e)
 replace e := C.keep R0 (.head _) e
 replace C := C'
 have hl0 := R0.out.len
 refine tV ?_
 apply o_hcall rfl rfl rfl rfl (p55 _ _ _ _ (by omega) C.rd)
 rintro _ k1 ⟨G1, a1, bs1, t1, R1⟩
 obtain ⟨rfl, ha1⟩ := R1.val
 have C' := C.call R1 (one_box e)
 replace e := C.keep R1 (.head _) e
 replace C := C'
 have hl1 := R1.out.len
 refine tV ?_
 apply o_hcall rfl rfl rfl rfl (p55 _ _ _ _ (by omega) C.rd)
 rintro _ k2 ⟨G2, a2, bs2, t2, R2⟩
 obtain ⟨rfl, ha2⟩ := R2.val
 have C' := C.call R2 (one_box e)
 replace e := C.keep R2 (.head _) e
 replace C := C'
 have hl2 := R2.out.len
 refine tV ?_
 apply o_hcall rfl rfl rfl rfl (p55 _ _ _ _ (by omega) C.rd)
 rintro _ k3 ⟨G3, a3, bs3, t3, R3⟩
 obtain ⟨rfl, ha3⟩ := R3.val
 have C' := C.call R3 (one_box e)
 replace e := C.keep R3 (.head _) e
 replace C := C'
 have hl3 := R3.out.len
 refine tW ?_
 apply o_st (v := .agg [I a0, I a1, I a2, I a3]) (cs' := [I a0, I a1, I a2, I a3]) rfl rfl rfl rfl rfl rfl e rfl
 refine tW ?_
 exact hY_ret (vs := [.agg [I a0, I a1, I a2, I a3]]) (.cells (m := 4) rfl (by kernel_rfl) upd_same rfl .nil) rfl ⟨G3, (a0, a1, a2, a3), bs3, t3, (C.set (.head _)).fin ⟨rfl, rfl, rfl, ha0, ha1, ha2, ha3⟩ ((R0.out.bind (R1.out.bind (R2.out.bind (R3.out.map (f := fun x => (a0, a1, a2, x)))))).as (by simp only [eFour, List.length_append]) (by omega))⟩
theorem p105 {w : Nat} : Reads Tryz.prog ann 105 [.ptr w 0, .fn 106 [.ptr w 0] []] w (pList pPair) 30 (fun l => (eList ePair l).length) (RLs RPair 2 (fun p => I64 p.1 ∧ I64 p.2)) :=
 read_of (s := 2) (b := 16) (z := [I 0, I 0]) rfl rfl Tryz.func105 (frc (by with_unfolding_all rfl)) rfl rfl rfl rfl RPair.mono (by decide) (by decide) p106
theorem p107 {w : Nat} : Reads Tryz.prog ann 107 [.ptr w 0, .fn 108 [.ptr w 0] []] w (pList pFour) 50 (fun l => (eList eFour l).length) (RLs RFour 4 F64) :=
 read_of (s := 4) (b := 32) (z := [I 0, I 0, I 0, I 0]) rfl rfl Tryz.func107 (frc (by with_unfolding_all rfl)) rfl rfl rfl rfl RFour.mono (by decide) (by decide) p108
theorem p109 {w : Nat} : Reads Tryz.prog ann 109 [.ptr w 0, .fn 110 [.ptr w 0] []] w (pList pFour) 50 (fun l => (eList eFour l).length) (RLs RFour 4 F64) :=
 read_of (s := 4) (b := 32) (z := [I 0, I 0, I 0, I 0]) rfl rfl Tryz.func109 (frc (by with_unfolding_all rfl)) rfl rfl rfl rfl RFour.mono (by decide) (by decide) p110
theorem p52 {w : Nat} : Reads Tryz.prog ann 52 [.ptr w 0] w pCls 150 (fun p => (eCls p).length) (REl RCls 10 Cls.WF) := by
 intro g bs t h hbs H
 refine s_call_Y rfl rfl Tryz.func52 (frc (by with_unfolding_all rfl)) rfl ?_
 refine tS ?_
 apply o_alc rfl
 intro b2 hb
 have C := (Ch.start H).box (o := .cells [.str [], I 0, I 0, .nil .sl, .nil .sl, .nil .sl, .nil .sl, I 0, I 0, .bool false]) hb
 have e2 : upd h b2 (some (.cells [.str [], I 0, I 0, .nil .sl, .nil .sl, .nil .sl, .nil .sl, I 0, I 0, .bool false])) b2 = some (.cells [.str [], I 0, I 0, .nil .sl, .nil .sl, .nil .sl, .nil .sl, I 0, I 0, .bool false]) := upd_same
 show SOps _ _ _ _ _ _ _ _ [b2] (upd h b2 (some (.cells [.str [], I 0, I 0, .nil .sl, .nil .sl, .nil .sl, .nil .sl, I 0, I 0, .bool false]))) _
 generalize upd h b2 (some (.cells [.str [], I 0, I 0, .nil .sl, .nil .sl, .nil .sl, .nil .sl, I 0, I 0, .bool false])) = k at C e2 ⊢
 refine tV ?_
 apply o_hcall rfl rfl rfl rfl (p104 _ _ _ _ hbs C.rd)
 rintro _ k0 ⟨G0, a0, bs0, t0, R0⟩
 obtain ⟨rfl, ha0⟩ := R0.val
 have C' := C.call R0 (one_box e2)
 replace e2 := C.keep R0 (.head _) e2
 replace C := C'
 have hl0 := R0.out.len
 refine tV ?_
 apply o_hcall rfl rfl rfl rfl (p55 _ _ _ _ (by omega) C.rd)
 rintro _ k1 ⟨G1, a1, bs1, t1, R1⟩
 obtain ⟨rfl, ha1⟩ := R1.val
 have C' := C.call R1 (one_box e2)
 replace e2 := C.keep R1 (.head _) e2
 replace C := C'
 have hl1 := R1.out.len
 refine tV ?_
 apply o_hcall rfl rfl rfl rfl (p55 _ _ _ _ (by omega) C.rd)
 rintro _ k2 ⟨G2, a2, bs2, t2, R2⟩
 obtain ⟨rfl, ha2⟩ := R2.val
 have C' := C.call R2 (one_box e2)
 replace e2 := C.keep R2 (.head _) e2
 replace C := C'
 have hl2 := R2.out.len
 refine tV ?_
 apply o_hcall rfl rfl rfl rfl (p55 _ _ _ _ (by omega) C.rd)
 rintro _ k3 ⟨G3, a3, bs3, t3, R3⟩
 obtain ⟨rfl, ha3⟩ := R3.val
 have C' := C.call R3 (one_box e2)
 replace e2 := C.keep R3 (.head _) e2
 replace C := C'
 have hl3 := R3.out.len
 refine tV ?_
 apply o_hcall rfl rfl rfl rfl (p55 _ _ _ _ (by omega) C.rd)
 rintro _ k4 ⟨G4, a4, bs4, t4, R4⟩
 obtain ⟨rfl, ha4⟩ := R4.val
 have C' := C.call R4 (one_box e2)
 replace e2 := C.keep R4 (.head _) e2
 replace C := C'
 have hl4 := R4.out.len
 refine tV ?_
 apply o_hcall rfl rfl rfl rfl (p60 _ _ _ _ (by omega) C.rd)
 rintro _ k5 ⟨G5, a5, bs5, t5, R5⟩
 obtain rfl := R5.val
 have C' := C.call R5 (one_box e2)
 replace e2 := C.keep R5 (.head _) e2
 replace C := C'
 have hl5 := R5.out.len
 refine tW ?_
 apply o_alc rfl
 intro b3 hb3
 have hne : b2 ≠ b3 := fun hc => by rw [← hc, e2] at hb3; cases hb3
 apply o_st (v := .agg [.str a0, I a1, I a2, .nil .sl, .nil .sl, .nil .sl, .nil .sl, I a3, I a4, .bool a5]) (cs' := [.str a0, I a1, I a2, .nil .sl, .nil .sl, .nil .sl, .nil .sl, I a3, I a4, .bool a5]) rfl rfl rfl rfl rfl rfl upd_same rfl
 rw [upd_upd]
 replace C := C.box (o := .cells [.str a0, I a1, I a2, .nil .sl, .nil .sl, .nil .sl, .nil .sl, I a3, I a4, .bool a5]) hb3
 replace e2 : upd k5 b3 (some (.cells [.str a0, I a1, I a2, .nil .sl, .nil .sl, .nil .sl, .nil .sl, I a3, I a4, .bool a5])) b2 = _ := (upd_ne hne).trans e2
 have e3 : upd k5 b3 (some (.cells [.str a0, I a1, I a2, .nil .sl, .nil .sl, .nil .sl, .nil .sl, I a3, I a4, .bool a5])) b3 = some (.cells [.str a0, I a1, I a2, .nil .sl, .nil .sl, .nil .sl, .nil .sl, I a3, I a4, .bool a5]) := upd_same
 show SOps _ _ _ _ _ _ _ _ [b3, b2] (upd k5 b3 (some (.cells [.str a0, I a1, I a2, .nil .sl, .nil .sl, .nil .sl, .nil .sl, I a3, I a4, .bool a5]))) _
 generalize upd k5 b3 (some (.cells [.str a0, I a1, I a2, .nil .sl, .nil .sl, .nil .sl, .nil .sl, I a3, I a4, .bool a5])) = kk at C e2 e3 ⊢
 refine tV ?_
 apply o_hcall rfl rfl rfl rfl (p59 _ _ _ _ (by omega) C.rd)
 rintro v6 k6 ⟨G6, a6, bs6, t6, R6⟩
 obtain ⟨hs6, hn6, ha6⟩ := R6.val
 have C' := C.call R6 (two_box e2 e3)
 replace e2 := C.keep R6 (.tail _ (.head _)) e2
 replace e3 := C.keep R6 (.head _) e3
 replace C := C'
 have hl6 := R6.out.len
 refine tV ?_
 apply o_hcall rfl rfl rfl rfl (p56 _ _ _ _ (by omega) C.rd)
 rintro v7 k7 ⟨G7, a7, bs7, t7, R7⟩
 obtain ⟨hs7, hn7, ha7⟩ := R7.val
 have C' := C.call R7 (two_box e2 e3)
 replace e2 := C.keep R7 (.tail _ (.head _)) e2
 replace e3 := C.keep R7 (.head _) e3
 replace C := C'
 have hl7 := R7.out.len
 refine tV ?_
 apply o_hcall rfl rfl rfl rfl (p56 _ _ _ _ (by omega) C.rd)
 rintro v8 k8 ⟨G8, a8, bs8, t8, R8⟩
 obtain ⟨hs8, hn8, ha8⟩ := R8.val
 have C' := C.call R8 (two_box e2 e3)
 replace e2 := C.keep R8 (.tail _ (.head _)) e2
 replace e3 := C.keep R8 (.head _) e3
 replace C := C'
 have hl8 := R8.out.len
 refine tV ?_
 apply o_st1 rfl rfl rfl rfl hs6.one e3 (show 3 < 10 by decide)
 replace C := C.set (o := .cells [.str a0, I a1, I a2, v6, .nil .sl, .nil .sl, .nil .sl, I a3, I a4, .bool a5]) (.head _)
 replace e2 : upd k8 b3 (some (.cells [.str a0, I a1, I a2, v6, .nil .sl, .nil .sl, .nil .sl, I a3, I a4, .bool a5])) b2 = _ := (upd_ne hne).trans e2
 replace e3 : upd k8 b3 (some (.cells [.str a0, I a1, I a2, v6, .nil .sl, .nil .sl, .nil .sl, I a3, I a4, .bool a5])) b3 = some (.cells [.str a0, I a1, I a2, v6, .nil .sl, .nil .sl, .nil .sl, I a3, I a4, .bool a5]) := upd_same
 show SOps _ _ _ _ _ _ _ _ [b3, b2] (upd k8 b3 (some (.cells [.str a0, I a1, I a2, v6, .nil .sl, .nil .sl, .nil .sl, I a3, I a4, .bool a5]))) _
 generalize upd k8 b3 (some (.cells [.str a0, I a1, I a2, v6, .nil .sl, .nil .sl, .nil .sl, I a3, I a4, .bool a5])) = m1 at C e2 e3 ⊢
 refine tV ?_
 apply o_st1 rfl rfl rfl rfl hs7.one e3 (show 4 < 10 by decide)
 replace C := C.set (o := .cells [.str a0, I a1, I a2, v6, v7, .nil .sl, .nil .sl, I a3, I a4, .bool a5]) (.head _)
 replace e2 : upd m1 b3 (some (.cells [.str a0, I a1, I a2, v6, v7, .nil .sl, .nil .sl, I a3, I a4, .bool a5])) b2 = _ := (upd_ne hne).trans e2
 replace e3 : upd m1 b3 (some (.cells [.str a0, I a1, I a2, v6, v7, .nil .sl, .nil .sl, I a3, I a4, .bool a5])) b3 = some (.cells [.str a0, I a1, I a2, v6, v7, .nil .sl, .nil .sl, I a3, I a4, .bool a5]) := upd_same
 show SOps _ _ _ _ _ _ _ _ [b3, b2] (upd m1 b3 (some (.cells [.str a0, I a1, I a2, v6, v7, .nil .sl, .nil .sl, I a3, I a4, .bool a5]))) _
 generalize upd m1 b3 (some (.cells [.str a0, I a1, I a2, v6, v7, .nil .sl, .nil .sl, I a3, I a4, .bool a5])) = m2 at C e2 e3 ⊢
 refine tV ?_
 apply o_st1 rfl rfl rfl rfl hs8.one e3 (show 5 < 10 by decide)
 replace C := C.set (o := .cells [.str a0, I a1, I a2, v6, v7, v8, .nil .sl, I a3, I a4, .bool a5]) (.head _)
 replace e2 : upd m2 b3 (some (.cells [.str a0, I a1, I a2, v6, v7, v8, .nil .sl, I a3, I a4, .bool a5])) b2 = _ := (upd_ne hne).trans e2
 replace e3 : upd m2 b3 (some (.cells [.str a0, I a1, I a2, v6, v7, v8, .nil .sl, I a3, I a4, .bool a5])) b3 = some (.cells [.str a0, I a1, I a2, v6, v7, v8, .nil .sl, I a3, I a4, .bool a5]) := upd_same
 show SOps _ _ _ _ _ _ _ _ [b3, b2] (upd m2 b3 (some (.cells [.str a0, I a1, I a2, v6, v7, v8, .nil .sl, I a3, I a4, .bool a5]))) _
 generalize upd m2 b3 (some (.cells [.str a0, I a1, I a2, v6, v7, v8, .nil .sl, I a3, I a4, .bool a5])) = m3 at C e2 e3 ⊢
 refine tV ?_
 apply o_hcall rfl rfl rfl rfl (p105 _ _ _ _ (by omega) C.rd)
 rintro v9 k9 ⟨G9, a9, bs9, t9, R9⟩
 obtain ⟨hs9, hn9, ha9⟩ := R9.val
 have C' := C.call R9 (two_box e2 e3)
 replace e2 := C.keep R9 (.tail _ (.head _)) e2
 replace e3 := C.keep R9 (.head _) e3
 replace C := C'
 have hl9 := R9.out.len
 refine tV ?_
 apply o_st1 rfl rfl rfl rfl hs9.one e3 (show 6 < 10 by decide)
 replace C := C.set (o := .cells [.str a0, I a1, I a2, v6, v7, v8, v9, I a3, I a4, .bool a5]) (.head _)
 replace e2 : upd k9 b3 (some (.cells [.str a0, I a1, I a2, v6, v7, v8, v9, I a3, I a4, .bool a5])) b2 = _ := (upd_ne hne).trans e2
 replace e3 : upd k9 b3 (some (.cells [.str a0, I a1, I a2, v6, v7, v8, v9, I a3, I a4, .bool a5])) b3 = some (.cells [.str a0, I a1, I a2, v6, v7, v8, v9, I a3, I a4, .bool a5]) := upd_same
 show SOps _ _ _ _ _ _ _ _ [b3, b2] (upd k9 b3 (some (.cells [.str a0, I a1, I a2, v6, v7, v8, v9, I a3, I a4, .bool a5]))) _
 generalize upd k9 b3 (some (.cells [.str a0, I a1, I a2, v6, v7, v8, v9, I a3, I a4, .bool a5])) = m4 at C e2 e3 ⊢
 refine tV ?_
 apply o_ldhn (l := [.str a0, I a1, I a2, v6, v7, v8, v9, I a3, I a4, .bool a5]) rfl rfl e3 (fun h => by omega) rfl
 have hR : RCls G9 [.str a0, I a1, I a2, v6, v7, v8, v9, I a3, I a4, .bool a5] ((⟨a0, a1, a2, a3, a4, a5, a6, a7, a8, a9⟩ : Cls)) := ⟨v6, v7, v8, v9, rfl, hs6.mono RB.mono (R7.ext.trans (R8.ext.trans (R9.ext))), hs7.mono RN.mono (R8.ext.trans (R9.ext)), hs8.mono RN.mono (R9.ext), hs9⟩
 apply o_st (v := .agg [.str a0, I a1, I a2, v6, v7, v8, v9, I a3, I a4, .bool a5]) (cs' := [.str a0, I a1, I a2, v6, v7, v8, v9, I a3, I a4, .bool a5]) rfl rfl rfl rfl rfl hR.one e2 rfl
 refine tW ?_
 exact hY_ret (vs := [.agg [.str a0, I a1, I a2, v6, v7, v8, v9, I a3, I a4, .bool a5]]) (.cells (m := 10) rfl (by kernel_rfl) upd_same rfl .nil) rfl ⟨G9, (⟨a0, a1, a2, a3, a4, a5, a6, a7, a8, a9⟩ : Cls), bs9, t9, (C.set (.tail _ (.head _))).fin ⟨hR, rfl, hR.one, ⟨ha0, ha1, ha2, ha3, ha4, Nat.le_trans hn6 (by decide), ⟨Nat.le_trans hn7 (by decide), ha7⟩, ⟨Nat.le_trans hn8 (by decide), ha8⟩, ⟨Nat.le_trans hn9 (by decide), ha9⟩⟩⟩ ((R0.out.bind (R1.out.bind (R2.out.bind (R3.out.bind (R4.out.bind (R5.out.bind (R6.out.bind (R7.out.bind (R8.out.bind (R9.out.map (f := fun x => (⟨a0, a1, a2, a3, a4, a5, a6, a7, a8, x⟩ : Cls)))))))))))).as (by simp only [eCls, List.length_append]) (by omega))⟩
theorem p54 {w : Nat} : Reads Tryz.prog ann 54 [.ptr w 0] w pMth 140 (fun p => (eMth p).length) (REl RMth 6 Mth.WF) := by
 intro g bs t h hbs H
 refine s_call_Y rfl rfl Tryz.func54 (frc (by with_unfolding_all rfl)) rfl ?_
 refine tS ?_
 apply o_alc rfl
 intro b2 hb
 have C := (Ch.start H).box (o := .cells [I 0, I 0, I 0, .bool false, .nil .sl, .nil .sl]) hb
 have e2 : upd h b2 (some (.cells [I 0, I 0, I 0, .bool false, .nil .sl, .nil .sl])) b2 = some (.cells [I 0, I 0, I 0, .bool false, .nil .sl, .nil .sl]) := upd_same
 show SOps _ _ _ _ _ _ _ _ [b2] (upd h b2 (some (.cells [I 0, I 0, I 0, .bool false, .nil .sl, .nil .sl]))) _
 generalize upd h b2 (some (.cells [I 0, I 0, I 0, .bool false, .nil .sl, .nil .sl])) = k at C e2 ⊢
 refine tV ?_
 apply o_hcall rfl rfl rfl rfl (p55 _ _ _ _ hbs C.rd)
 rintro _ k0 ⟨G0, a0, bs0, t0, R0⟩
 obtain ⟨rfl, ha0⟩ := R0.val
 have C' := C.call R0 (one_box e2)
 replace e2 := C.keep R0 (.head _) e2
 replace C := C'
 have hl0 := R0.out.len
 refine tV ?_
 apply o_hcall rfl rfl rfl rfl (p55 _ _ _ _ (by omega) C.rd)
 rintro _ k1 ⟨G1, a1, bs1, t1, R1⟩
 obtain ⟨rfl, ha1⟩ := R1.val
 have C' := C.call R1 (one_box e2)
 replace e2 := C.keep R1 (.head _) e2
 replace C := C'
 have hl1 := R1.out.len
 refine tV ?_
 apply o_hcall rfl rfl rfl rfl (p55 _ _ _ _ (by omega) C.rd)
 rintro _ k2 ⟨G2, a2, bs2, t2, R2⟩
 obtain ⟨rfl, ha2⟩ := R2.val
 have C' := C.call R2 (one_box e2)
 replace e2 := C.keep R2 (.head _) e2
 replace C := C'
 have hl2 := R2.out.len
 refine tV ?_
 apply o_hcall rfl rfl rfl rfl (p60 _ _ _ _ (by omega) C.rd)
 rintro _ k3 ⟨G3, a3, bs3, t3, R3⟩
 obtain rfl := R3.val
 have C' := C.call R3 (one_box e2)
 replace e2 := C.keep R3 (.head _) e2
 replace C := C'
 have hl3 := R3.out.len
 refine tW ?_
 apply o_alc rfl
 intro b3 hb3
 have hne : b2 ≠ b3 := fun hc => by rw [← hc, e2] at hb3; cases hb3
 apply o_st (v := .agg [I a0, I a1, I a2, .bool a3, .nil .sl, .nil .sl]) (cs' := [I a0, I a1, I a2, .bool a3, .nil .sl, .nil .sl]) rfl rfl rfl rfl rfl rfl upd_same rfl
 rw [upd_upd]
 replace C := C.box (o := .cells [I a0, I a1, I a2, .bool a3, .nil .sl, .nil .sl]) hb3
 replace e2 : upd k3 b3 (some (.cells [I a0, I a1, I a2, .bool a3, .nil .sl, .nil .sl])) b2 = _ := (upd_ne hne).trans e2
 have e3 : upd k3 b3 (some (.cells [I a0, I a1, I a2, .bool a3, .nil .sl, .nil .sl])) b3 = some (.cells [I a0, I a1, I a2, .bool a3, .nil .sl, .nil .sl]) := upd_same
 show SOps _ _ _ _ _ _ _ _ [b3, b2] (upd k3 b3 (some (.cells [I a0, I a1, I a2, .bool a3, .nil .sl, .nil .sl]))) _
 generalize upd k3 b3 (some (.cells [I a0, I a1, I a2, .bool a3, .nil .sl, .nil .sl])) = kk at C e2 e3 ⊢
 refine tV ?_
 apply o_hcall rfl rfl rfl rfl (p107 _ _ _ _ (by omega) C.rd)
 rintro v4 k4 ⟨G4, a4, bs4, t4, R4⟩
 obtain ⟨hs4, hn4, ha4⟩ := R4.val
 have C' := C.call R4 (two_box e2 e3)
 replace e2 := C.keep R4 (.tail _ (.head _)) e2
 replace e3 := C.keep R4 (.head _) e3
 replace C := C'
 have hl4 := R4.out.len
 refine tV ?_
 apply o_hcall rfl rfl rfl rfl (p109 _ _ _ _ (by omega) C.rd)
 rintro v5 k5 ⟨G5, a5, bs5, t5, R5⟩
 obtain ⟨hs5, hn5, ha5⟩ := R5.val
 have C' := C.call R5 (two_box e2 e3)
 replace e2 := C.keep R5 (.tail _ (.head _)) e2
 replace e3 := C.keep R5 (.head _) e3
 replace C := C'
 have hl5 := R5.out.len
 refine tV ?_
 apply o_st1 rfl rfl rfl rfl hs4.one e3 (show 4 < 6 by decide)
 replace C := C.set (o := .cells [I a0, I a1, I a2, .bool a3, v4, .nil .sl]) (.head _)
 replace e2 : upd k5 b3 (some (.cells [I a0, I a1, I a2, .bool a3, v4, .nil .sl])) b2 = _ := (upd_ne hne).trans e2
 replace e3 : upd k5 b3 (some (.cells [I a0, I a1, I a2, .bool a3, v4, .nil .sl])) b3 = some (.cells [I a0, I a1, I a2, .bool a3, v4, .nil .sl]) := upd_same
 show SOps _ _ _ _ _ _ _ _ [b3, b2] (upd k5 b3 (some (.cells [I a0, I a1, I a2, .bool a3, v4, .nil .sl]))) _
 generalize upd k5 b3 (some (.cells [I a0, I a1, I a2, .bool a3, v4, .nil .sl])) = m1 at C e2 e3 ⊢
 refine tV ?_
 apply o_st1 rfl rfl rfl rfl hs5.one e3 (show 5 < 6 by decide)
 replace C := C.set (o := .cells [I a0, I a1, I a2, .bool a3, v4, v5]) (.head _)
 replace e2 : upd m1 b3 (some (.cells [I a0, I a1, I a2, .bool a3, v4, v5])) b2 = _ := (upd_ne hne).trans e2
 replace e3 : upd m1 b3 (some (.cells [I a0, I a1, I a2, .bool a3, v4, v5])) b3 = some (.cells [I a0, I a1, I a2, .bool a3, v4, v5]) := upd_same
 show SOps _ _ _ _ _ _ _ _ [b3, b2] (upd m1 b3 (some (.cells [I a0, I a1, I a2, .bool a3, v4, v5]))) _
 generalize upd m1 b3 (some (.cells [I a0, I a1, I a2, .bool a3, v4, v5])) = m2 at C e2 e3 ⊢
 refine tV ?_
 apply o_ldhn (l := [I a0, I a1, I a2, .bool a3, v4, v5]) rfl rfl e3 (fun h => by omega) rfl
 have hR : RMth G5 [I a0, I a1, I a2, .bool a3, v4, v5] ((⟨a0, a1, a2, a3, a4, a5⟩ : Mth)) := ⟨v4, v5, rfl, hs4.mono RFour.mono (R5.ext), hs5⟩
 apply o_st (v := .agg [I a0, I a1, I a2, .bool a3, v4, v5]) (cs' := [I a0, I a1, I a2, .bool a3, v4, v5]) rfl rfl rfl rfl rfl hR.one e2 rfl
 refine tW ?_
 exact hY_ret (vs := [.agg [I a0, I a1, I a2, .bool a3, v4, v5]]) (.cells (m := 6) rfl (by kernel_rfl) upd_same rfl .nil) rfl ⟨G5, (⟨a0, a1, a2, a3, a4, a5⟩ : Mth), bs5, t5, (C.set (.tail _ (.head _))).fin ⟨hR, rfl, hR.one, ⟨ha0, ha1, ha2, ⟨Nat.le_trans hn4 (by decide), ha4⟩, ⟨Nat.le_trans hn5 (by decide), ha5⟩⟩⟩ ((R0.out.bind (R1.out.bind (R2.out.bind (R3.out.bind (R4.out.bind (R5.out.map (f := fun x => (⟨a0, a1, a2, a3, a4, x⟩ : Mth)))))))).as (by simp only [eMth, List.length_append]) (by omega))⟩
theorem p51 {w : Nat} : Reads Tryz.prog ann 51 [.ptr w 0, .fn 52 [.ptr w 0] []] w (pList pCls) 160 (fun l => (eList eCls l).length) (RLs RCls 10 Cls.WF) :=
 read_of (s := 10) (b := 152) (z := [.str [], I 0, I 0, .nil .sl, .nil .sl, .nil .sl, .nil .sl, I 0, I 0, .bool false]) rfl rfl Tryz.func51 (frc (by with_unfolding_all rfl)) rfl rfl rfl rfl RCls.mono (by decide) (by decide) p52
theorem p53 {w : Nat} : Reads Tryz.prog ann 53 [.ptr w 0, .fn 54 [.ptr w 0] []] w (pList pMth) 150 (fun l => (eList eMth l).length) (RLs RMth 6 Mth.WF) :=
 read_of (s := 6) (b := 80) (z := [I 0, I 0, I 0, .bool false, .nil .sl, .nil .sl]) rfl rfl Tryz.func53 (frc (by with_unfolding_all rfl)) rfl rfl rfl rfl RMth.mono (by decide) (by decide) p54
end Go.Proofs
end
