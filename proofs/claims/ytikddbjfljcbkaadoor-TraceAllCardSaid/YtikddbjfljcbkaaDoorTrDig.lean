/- Numbers as texts: the law's own function; plain facts on digits. -/
import Derived.Test.YtikddbjfljcbkaaDoorTrSlim
import Derived.Test.YtikddbjfljcbkaaDoorAbsTy
open Go Go.Abs Go.Proofs.SlimCode
namespace Go.Proofs

/- the digits of a number, the last n of them -/
def fw : Nat → Nat → List UInt8
  | 0, _ => []
  | n + 1, u => fw n (u / 10) ++ [UInt8.ofNat (48 + u % 10)]
theorem fw_len : ∀ (n u : Nat), (fw n u).length = n
  | 0, _ => rfl
  | n + 1, u => by simp [fw, fw_len n]

theorem fw_get : ∀ (n u j : Nat), j < n → (fw n u)[j]? = some (UInt8.ofNat (48 + u / 10 ^ (n - 1 - j) % 10))
  | 0, _, _, h => by omega
  | n + 1, u, j, h => by
    simp only [fw]
    by_cases e : j < n
    · rw [List.getElem?_append_left (by rw [fw_len]; exact e), fw_get n (u / 10) j e, Nat.div_div_eq_div_mul]
      have : n + 1 - 1 - j = (n - 1 - j) + 1 := by omega
      rw [this, Nat.pow_succ, Nat.mul_comm]
    · obtain rfl : j = n := by omega
      rw [List.getElem?_append_right (by rw [fw_len]; exact Nat.le_refl _), fw_len]
      simp

/- all digits -/
def dstr (u : Nat) : List UInt8 := if u < 10 then [UInt8.ofNat (48 + u % 10)] else dstr (u / 10) ++ [UInt8.ofNat (48 + u % 10)]
  termination_by u
  decreasing_by omega

theorem dstr_fw : ∀ (n u : Nat), 0 < n → u < 10 ^ n → (n = 1 ∨ 10 ^ (n - 1) ≤ u) → dstr u = fw n u
  | 0, _, h, _, _ => by omega
  | 1, u, _, h, _ => by
    rw [dstr, if_pos (by omega)]
    rfl
  | n + 2, u, _, h1, h2 => by
    have h2 : 10 ^ (n + 1) ≤ u := by
      rcases h2 with h2 | h2
      · omega
      · simpa using h2
    have hp : 10 ^ (n + 1) = 10 * 10 ^ n := by rw [Nat.pow_succ, Nat.mul_comm]
    have hp0 : 0 < 10 ^ n := Nat.pow_pos (by omega)
    have h3 : 10 ^ (n + 2) = 10 * 10 ^ (n + 1) := by rw [Nat.pow_succ 10 (n + 1), Nat.mul_comm]
    rw [dstr, if_neg (by omega)]
    have := dstr_fw (n + 1) (u / 10) (by omega) (by omega) (by right; simp only [Nat.add_sub_cancel]; omega)
    rw [this]
    rfl

theorem dstr_len (u : Nat) : (dstr u).length ≤ u + 1 := by
  induction u using Nat.strongRecOn with
  | _ u ih =>
    rw [dstr]
    split
    · simp
    · have := ih (u / 10) (by omega)
      simp only [List.length_append, List.length_singleton]
      omega

def istr (n : Int) : List UInt8 := if n < 0 then 45 :: dstr n.natAbs else dstr n.natAbs

/- daguerrelaw29.digits -/
theorem c18n (u : Nat) (hu : u ≤ 2147483648) : PureC Tryd.prog ann 18 [.int .i64 (u : Int)] (.str (dstr u)) := by
  induction u using Nat.strongRecOn with
  | _ u ih =>
    (refine s_pure_of Tryd.func18 sl18 rfl rfl rfl ?_; unfold S18)
    (repeat (first | ((with_reducible apply o_valW); exact rfl; exact rfl; exact rfl; exact trivial) | with_reducible apply s_seq | with_reducible apply s_reg | with_reducible apply s_skip | with_reducible apply s_block | with_reducible apply s_exit | with_reducible apply s_ret | with_reducible apply o_nil | with_reducible apply ssq_norm | with_reducible apply ssq_exit | with_reducible apply ssq_ret | with_reducible apply sbq_hit | with_reducible apply sbq_norm | with_reducible apply sbq_ret | with_reducible apply slq_exit | with_reducible apply slq_ret | with_reducible apply jq_exit | with_reducible apply jq_ret | ((with_reducible apply s_condT); exact rfl) | ((with_reducible apply s_condF); exact rfl) | ((with_reducible apply o_guardT); exact rfl; exact rfl) | ((with_reducible apply o_guardF); exact rfl; exact rfl) | ((with_reducible apply sbq_miss); exact rfl)))
    ((try ((with_reducible apply o_guardT); exact rfl; exact rfl)); (with_reducible apply o_remN (a := u) (b := 10)); exact rfl; exact rfl; exact rfl; (decide))
    ((try ((with_reducible apply o_guardT); exact rfl; exact rfl)); (with_reducible apply o_addN (a := 48) (b := u % 10)); exact rfl; exact rfl; exact rfl; exact w64 (by omega) (by omega))
    ((try ((with_reducible apply o_guardT); exact rfl; exact rfl)); (with_reducible apply o_cvN (a := 48 + u % 10)); exact rfl; exact rfl; exact wu8 (by omega) (by omega))
    apply o_bslT rfl rfl rfl rfl
    ((try ((with_reducible apply o_guardT); exact rfl; exact rfl)); (with_reducible apply o_as (w := .str [UInt8.ofNat (48 + u % 10)])); exact rfl; exact rfl; (exact trivial); (exact rfl))
    (repeat (first | ((with_reducible apply o_valW); exact rfl; exact rfl; exact rfl; exact trivial) | with_reducible apply s_seq | with_reducible apply s_reg | with_reducible apply s_skip | with_reducible apply s_block | with_reducible apply s_exit | with_reducible apply s_ret | with_reducible apply o_nil | with_reducible apply ssq_norm | with_reducible apply ssq_exit | with_reducible apply ssq_ret | with_reducible apply sbq_hit | with_reducible apply sbq_norm | with_reducible apply sbq_ret | with_reducible apply slq_exit | with_reducible apply slq_ret | with_reducible apply jq_exit | with_reducible apply jq_ret | ((with_reducible apply s_condT); exact rfl) | ((with_reducible apply s_condF); exact rfl) | ((with_reducible apply o_guardT); exact rfl; exact rfl) | ((with_reducible apply o_guardF); exact rfl; exact rfl) | ((with_reducible apply sbq_miss); exact rfl)))
    ((try ((with_reducible apply o_guardT); exact rfl; exact rfl)); (with_reducible apply o_bool); exact rfl; exact rfl; exact trivial; intro b2 h2)
    cases b2
    · have hge : 10 ≤ u := by simp at h2; omega
      (repeat (first | ((with_reducible apply o_valW); exact rfl; exact rfl; exact rfl; exact trivial) | with_reducible apply s_seq | with_reducible apply s_reg | with_reducible apply s_skip | with_reducible apply s_block | with_reducible apply s_exit | with_reducible apply s_ret | with_reducible apply o_nil | with_reducible apply ssq_norm | with_reducible apply ssq_exit | with_reducible apply ssq_ret | with_reducible apply sbq_hit | with_reducible apply sbq_norm | with_reducible apply sbq_ret | with_reducible apply slq_exit | with_reducible apply slq_ret | with_reducible apply jq_exit | with_reducible apply jq_ret | ((with_reducible apply s_condT); exact rfl) | ((with_reducible apply s_condF); exact rfl) | ((with_reducible apply o_guardT); exact rfl; exact rfl) | ((with_reducible apply o_guardF); exact rfl; exact rfl) | ((with_reducible apply sbq_miss); exact rfl)))
      ((try ((with_reducible apply o_guardT); exact rfl; exact rfl)); (with_reducible apply o_quoN (a := u) (b := 10)); exact rfl; exact rfl; exact rfl; (decide); exact w64 (by omega) (by omega))
      ((try ((with_reducible apply o_guardT); exact rfl; exact rfl)); (with_reducible apply o_call); exact rfl; exact rfl; exact rfl; exact ih (u / 10) (by omega) (by omega))
      (first | ((with_reducible apply o_valW); exact rfl; exact rfl; exact rfl; exact trivial) | with_reducible apply s_seq | with_reducible apply s_reg | with_reducible apply s_skip | with_reducible apply s_block | with_reducible apply s_exit | with_reducible apply s_ret | with_reducible apply o_nil | with_reducible apply ssq_norm | with_reducible apply ssq_exit | with_reducible apply ssq_ret | with_reducible apply sbq_hit | with_reducible apply sbq_norm | with_reducible apply sbq_ret | with_reducible apply slq_exit | with_reducible apply slq_ret | with_reducible apply jq_exit | with_reducible apply jq_ret | ((with_reducible apply s_condT); exact rfl) | ((with_reducible apply s_condF); exact rfl) | ((with_reducible apply o_guardT); exact rfl; exact rfl) | ((with_reducible apply o_guardF); exact rfl; exact rfl) | ((with_reducible apply sbq_miss); exact rfl))
      ((try ((with_reducible apply o_guardT); exact rfl; exact rfl)); (with_reducible apply o_as (w := .str (dstr u))); exact rfl; exact rfl; (exact by have := dstr_len (u / 10); show (dstr (u / 10)).length + 1 ≤ 9223372036854775807; omega); (exact by rw [dstr.eq_def u, if_neg (by omega)]))
      (repeat (first | ((with_reducible apply o_valW); exact rfl; exact rfl; exact rfl; exact trivial) | with_reducible apply s_seq | with_reducible apply s_reg | with_reducible apply s_skip | with_reducible apply s_block | with_reducible apply s_exit | with_reducible apply s_ret | with_reducible apply o_nil | with_reducible apply ssq_norm | with_reducible apply ssq_exit | with_reducible apply ssq_ret | with_reducible apply sbq_hit | with_reducible apply sbq_norm | with_reducible apply sbq_ret | with_reducible apply slq_exit | with_reducible apply slq_ret | with_reducible apply jq_exit | with_reducible apply jq_ret | ((with_reducible apply s_condT); exact rfl) | ((with_reducible apply s_condF); exact rfl) | ((with_reducible apply o_guardT); exact rfl; exact rfl) | ((with_reducible apply o_guardF); exact rfl; exact rfl) | ((with_reducible apply sbq_miss); exact rfl)))
      (first | apply sret_ret | apply sret_norm); exact res_tmp (vs := [_]) rfl rfl
    · have hlt : u < 10 := by simp at h2; omega
      (repeat (first | ((with_reducible apply o_valW); exact rfl; exact rfl; exact rfl; exact trivial) | with_reducible apply s_seq | with_reducible apply s_reg | with_reducible apply s_skip | with_reducible apply s_block | with_reducible apply s_exit | with_reducible apply s_ret | with_reducible apply o_nil | with_reducible apply ssq_norm | with_reducible apply ssq_exit | with_reducible apply ssq_ret | with_reducible apply sbq_hit | with_reducible apply sbq_norm | with_reducible apply sbq_ret | with_reducible apply slq_exit | with_reducible apply slq_ret | with_reducible apply jq_exit | with_reducible apply jq_ret | ((with_reducible apply s_condT); exact rfl) | ((with_reducible apply s_condF); exact rfl) | ((with_reducible apply o_guardT); exact rfl; exact rfl) | ((with_reducible apply o_guardF); exact rfl; exact rfl) | ((with_reducible apply sbq_miss); exact rfl)))
      have : dstr u = [UInt8.ofNat (48 + u % 10)] := by rw [dstr, if_pos hlt]
      rw [this]
      (first | apply sret_ret | apply sret_norm); exact res_tmp (vs := [_]) rfl rfl

theorem c18 (n : Int) (h1 : -2147483648 ≤ n) (h2 : n ≤ 2147483647) : PureC Tryd.prog ann 18 [.int .i64 n] (.str (istr n)) := by
  by_cases hn : n < 0
  · (refine s_pure_of Tryd.func18 sl18 rfl rfl rfl ?_; unfold S18)
    (repeat (first | ((with_reducible apply o_valW); exact rfl; exact rfl; exact rfl; exact trivial) | with_reducible apply s_seq | with_reducible apply s_reg | with_reducible apply s_skip | with_reducible apply s_block | with_reducible apply s_exit | with_reducible apply s_ret | with_reducible apply o_nil | with_reducible apply ssq_norm | with_reducible apply ssq_exit | with_reducible apply ssq_ret | with_reducible apply sbq_hit | with_reducible apply sbq_norm | with_reducible apply sbq_ret | with_reducible apply slq_exit | with_reducible apply slq_ret | with_reducible apply jq_exit | with_reducible apply jq_ret | ((with_reducible apply s_condT); exact rfl) | ((with_reducible apply s_condF); exact rfl) | ((with_reducible apply o_guardT); exact rfl; exact rfl) | ((with_reducible apply o_guardF); exact rfl; exact rfl) | ((with_reducible apply sbq_miss); exact rfl)))
    ((try ((with_reducible apply o_guardT); exact rfl; exact rfl)); (with_reducible apply o_bool); exact rfl; exact rfl; exact trivial; intro b1 h1)
    obtain rfl : b1 = true := by rw [h1]; simpa using hn
    (repeat (first | ((with_reducible apply o_valW); exact rfl; exact rfl; exact rfl; exact trivial) | with_reducible apply s_seq | with_reducible apply s_reg | with_reducible apply s_skip | with_reducible apply s_block | with_reducible apply s_exit | with_reducible apply s_ret | with_reducible apply o_nil | with_reducible apply ssq_norm | with_reducible apply ssq_exit | with_reducible apply ssq_ret | with_reducible apply sbq_hit | with_reducible apply sbq_norm | with_reducible apply sbq_ret | with_reducible apply slq_exit | with_reducible apply slq_ret | with_reducible apply jq_exit | with_reducible apply jq_ret | ((with_reducible apply s_condT); exact rfl) | ((with_reducible apply s_condF); exact rfl) | ((with_reducible apply o_guardT); exact rfl; exact rfl) | ((with_reducible apply o_guardF); exact rfl; exact rfl) | ((with_reducible apply sbq_miss); exact rfl)))
    rw [w64 (n := 0 - n) (by omega) (by omega), show 0 - n = ((n.natAbs : Nat) : Int) from by omega]
    ((try ((with_reducible apply o_guardT); exact rfl; exact rfl)); (with_reducible apply o_call); exact rfl; exact rfl; exact rfl; exact c18n n.natAbs (by omega))
    ((try ((with_reducible apply o_guardT); exact rfl; exact rfl)); (with_reducible apply o_as (w := .str (istr n))); exact rfl; exact rfl; (exact by have := dstr_len n.natAbs; show 1 + (dstr n.natAbs).length ≤ 9223372036854775807; omega); (exact by unfold istr; rw [if_pos hn]; rfl))
    (repeat (first | ((with_reducible apply o_valW); exact rfl; exact rfl; exact rfl; exact trivial) | with_reducible apply s_seq | with_reducible apply s_reg | with_reducible apply s_skip | with_reducible apply s_block | with_reducible apply s_exit | with_reducible apply s_ret | with_reducible apply o_nil | with_reducible apply ssq_norm | with_reducible apply ssq_exit | with_reducible apply ssq_ret | with_reducible apply sbq_hit | with_reducible apply sbq_norm | with_reducible apply sbq_ret | with_reducible apply slq_exit | with_reducible apply slq_ret | with_reducible apply jq_exit | with_reducible apply jq_ret | ((with_reducible apply s_condT); exact rfl) | ((with_reducible apply s_condF); exact rfl) | ((with_reducible apply o_guardT); exact rfl; exact rfl) | ((with_reducible apply o_guardF); exact rfl; exact rfl) | ((with_reducible apply sbq_miss); exact rfl)))
    (first | apply sret_ret | apply sret_norm); exact res_tmp (vs := [_]) rfl rfl
  · have e : n = ((n.natAbs : Nat) : Int) := by omega
    have := c18n n.natAbs (by omega)
    rw [← e] at this
    unfold istr
    rw [if_neg hn]
    exact this

end Go.Proofs
