/- TraceThree's walk. -/
import Derived.Test.YtikddbjfljcbkaaDoorTrWalk
import Derived.Test.YtikddbjfljcbkaaDoorAbsTy
open Go Go.Abs Go.Proofs.SlimCode
namespace Go.Proofs

theorem begins_take {ns : List Int} {a b : Nat} (h : a ≤ b) {e c e' c' : Int} {s s' : List UInt8} : begins ⟨ns.take a, e, c, s⟩ ⟨ns.take b, e', c', s'⟩ = true := by
  unfold begins
  simp only [List.length_take, List.take_take, Bool.and_eq_true, decide_eq_true_eq]
  refine ⟨by omega, ?_⟩
  rcases Nat.le_total a ns.length with h1 | h1
  · rw [Nat.min_eq_left h1, Nat.min_eq_left h]
  · rw [List.take_of_length_le h1, List.take_of_length_le (by omega)]

theorem c5 {l : AV} {ns : List Int} (hl : NSl .i32 l ns) (hn : ns.length ≤ 9223372036854775807) (a b : Int) : PureC Tryd.prog ann 5 [l, .int .i64 a, .int .i64 b] (.bool true) := by
  refine s_pure_of Tryd.func5 sl5 rfl rfl rfl ?_
  unfold S5
  (repeat (first | ((with_reducible apply o_valW); exact rfl; exact rfl; exact rfl; exact trivial) | with_reducible apply s_seq | with_reducible apply s_reg | with_reducible apply s_skip | with_reducible apply s_block | with_reducible apply s_exit | with_reducible apply s_ret | with_reducible apply o_nil | with_reducible apply ssq_norm | with_reducible apply ssq_exit | with_reducible apply ssq_ret | with_reducible apply sbq_hit | with_reducible apply sbq_norm | with_reducible apply sbq_ret | with_reducible apply slq_exit | with_reducible apply slq_ret | with_reducible apply jq_exit | with_reducible apply jq_ret | ((with_reducible apply s_condT); exact rfl) | ((with_reducible apply s_condF); exact rfl) | ((with_reducible apply o_guardT); exact rfl; exact rfl) | ((with_reducible apply o_guardF); exact rfl; exact rfl) | ((with_reducible apply sbq_miss); exact rfl)))
  apply o_call rfl rfl rfl c6
  (repeat (first | ((with_reducible apply o_valW); exact rfl; exact rfl; exact rfl; exact trivial) | with_reducible apply s_seq | with_reducible apply s_reg | with_reducible apply s_skip | with_reducible apply s_block | with_reducible apply s_exit | with_reducible apply s_ret | with_reducible apply o_nil | with_reducible apply ssq_norm | with_reducible apply ssq_exit | with_reducible apply ssq_ret | with_reducible apply sbq_hit | with_reducible apply sbq_norm | with_reducible apply sbq_ret | with_reducible apply slq_exit | with_reducible apply slq_ret | with_reducible apply jq_exit | with_reducible apply jq_ret | ((with_reducible apply s_condT); exact rfl) | ((with_reducible apply s_condF); exact rfl) | ((with_reducible apply o_guardT); exact rfl; exact rfl) | ((with_reducible apply o_guardF); exact rfl; exact rfl) | ((with_reducible apply sbq_miss); exact rfl)))
  apply o_lenT rfl rfl hl
  apply o_int (m := ((min ns.length 15 : Nat) : Int)) rfl rfl trivial (by simp; omega)
  refine o_sltN (a := 0) (b := min ns.length 15) rfl rfl hl rfl rfl (by omega) (by omega) fun w hw => ?_
  rw [List.drop_zero] at hw
  generalize hns : ns.take (min ns.length 15) = ms at hw
  have hms : ms.length ≤ 9223372036854775807 := by rw [← hns]; simp; omega
  (repeat (first | ((with_reducible apply o_valW); exact rfl; exact rfl; exact rfl; exact trivial) | with_reducible apply s_seq | with_reducible apply s_reg | with_reducible apply s_skip | with_reducible apply s_block | with_reducible apply s_exit | with_reducible apply s_ret | with_reducible apply o_nil | with_reducible apply ssq_norm | with_reducible apply ssq_exit | with_reducible apply ssq_ret | with_reducible apply sbq_hit | with_reducible apply sbq_norm | with_reducible apply sbq_ret | with_reducible apply slq_exit | with_reducible apply slq_ret | with_reducible apply jq_exit | with_reducible apply jq_ret | ((with_reducible apply s_condT); exact rfl) | ((with_reducible apply s_condF); exact rfl) | ((with_reducible apply o_guardT); exact rfl; exact rfl) | ((with_reducible apply o_guardF); exact rfl; exact rfl) | ((with_reducible apply sbq_miss); exact rfl)))
  ((try ((with_reducible apply o_guardT); exact rfl; exact rfl)); (with_reducible apply o_bool); exact rfl; exact rfl; exact trivial; intro b1 h1; cases b1)
  case true =>
    (repeat (first | ((with_reducible apply o_valW); exact rfl; exact rfl; exact rfl; exact trivial) | with_reducible apply s_seq | with_reducible apply s_reg | with_reducible apply s_skip | with_reducible apply s_block | with_reducible apply s_exit | with_reducible apply s_ret | with_reducible apply o_nil | with_reducible apply ssq_norm | with_reducible apply ssq_exit | with_reducible apply ssq_ret | with_reducible apply sbq_hit | with_reducible apply sbq_norm | with_reducible apply sbq_ret | with_reducible apply slq_exit | with_reducible apply slq_ret | with_reducible apply jq_exit | with_reducible apply jq_ret | ((with_reducible apply s_condT); exact rfl) | ((with_reducible apply s_condF); exact rfl) | ((with_reducible apply o_guardT); exact rfl; exact rfl) | ((with_reducible apply o_guardF); exact rfl; exact rfl) | ((with_reducible apply sbq_miss); exact rfl)))
    (first | apply sret_ret | apply sret_norm); exact res_tmp (vs := [_]) rfl rfl
  (repeat (first | ((with_reducible apply o_valW); exact rfl; exact rfl; exact rfl; exact trivial) | with_reducible apply s_seq | with_reducible apply s_reg | with_reducible apply s_skip | with_reducible apply s_block | with_reducible apply s_exit | with_reducible apply s_ret | with_reducible apply o_nil | with_reducible apply ssq_norm | with_reducible apply ssq_exit | with_reducible apply ssq_ret | with_reducible apply sbq_hit | with_reducible apply sbq_norm | with_reducible apply sbq_ret | with_reducible apply slq_exit | with_reducible apply slq_ret | with_reducible apply jq_exit | with_reducible apply jq_ret | ((with_reducible apply s_condT); exact rfl) | ((with_reducible apply s_condF); exact rfl) | ((with_reducible apply o_guardT); exact rfl; exact rfl) | ((with_reducible apply o_guardF); exact rfl; exact rfl) | ((with_reducible apply sbq_miss); exact rfl)))
  ((try ((with_reducible apply o_guardT); exact rfl; exact rfl)); (with_reducible apply o_bool); exact rfl; exact rfl; exact trivial; intro b2 h2; cases b2)
  case true =>
    (repeat (first | ((with_reducible apply o_valW); exact rfl; exact rfl; exact rfl; exact trivial) | with_reducible apply s_seq | with_reducible apply s_reg | with_reducible apply s_skip | with_reducible apply s_block | with_reducible apply s_exit | with_reducible apply s_ret | with_reducible apply o_nil | with_reducible apply ssq_norm | with_reducible apply ssq_exit | with_reducible apply ssq_ret | with_reducible apply sbq_hit | with_reducible apply sbq_norm | with_reducible apply sbq_ret | with_reducible apply slq_exit | with_reducible apply slq_ret | with_reducible apply jq_exit | with_reducible apply jq_ret | ((with_reducible apply s_condT); exact rfl) | ((with_reducible apply s_condF); exact rfl) | ((with_reducible apply o_guardT); exact rfl; exact rfl) | ((with_reducible apply o_guardF); exact rfl; exact rfl) | ((with_reducible apply sbq_miss); exact rfl)))
    (first | apply sret_ret | apply sret_norm); exact res_tmp (vs := [_]) rfl rfl
  (repeat (first | ((with_reducible apply o_valW); exact rfl; exact rfl; exact rfl; exact trivial) | with_reducible apply s_seq | with_reducible apply s_reg | with_reducible apply s_skip | with_reducible apply s_block | with_reducible apply s_exit | with_reducible apply s_ret | with_reducible apply o_nil | with_reducible apply ssq_norm | with_reducible apply ssq_exit | with_reducible apply ssq_ret | with_reducible apply sbq_hit | with_reducible apply sbq_norm | with_reducible apply sbq_ret | with_reducible apply slq_exit | with_reducible apply slq_ret | with_reducible apply jq_exit | with_reducible apply jq_ret | ((with_reducible apply s_condT); exact rfl) | ((with_reducible apply s_condF); exact rfl) | ((with_reducible apply o_guardT); exact rfl; exact rfl) | ((with_reducible apply o_guardF); exact rfl; exact rfl) | ((with_reducible apply sbq_miss); exact rfl)))
  apply o_lenT rfl rfl hw
  ((try ((with_reducible apply o_guardT); exact rfl; exact rfl)); (with_reducible apply o_bool); exact rfl; exact rfl; exact trivial; intro b3 h3; cases b3)
  case true =>
    (repeat (first | ((with_reducible apply o_valW); exact rfl; exact rfl; exact rfl; exact trivial) | with_reducible apply s_seq | with_reducible apply s_reg | with_reducible apply s_skip | with_reducible apply s_block | with_reducible apply s_exit | with_reducible apply s_ret | with_reducible apply o_nil | with_reducible apply ssq_norm | with_reducible apply ssq_exit | with_reducible apply ssq_ret | with_reducible apply sbq_hit | with_reducible apply sbq_norm | with_reducible apply sbq_ret | with_reducible apply slq_exit | with_reducible apply slq_ret | with_reducible apply jq_exit | with_reducible apply jq_ret | ((with_reducible apply s_condT); exact rfl) | ((with_reducible apply s_condF); exact rfl) | ((with_reducible apply o_guardT); exact rfl; exact rfl) | ((with_reducible apply o_guardF); exact rfl; exact rfl) | ((with_reducible apply sbq_miss); exact rfl)))
    (first | apply sret_ret | apply sret_norm); exact res_tmp (vs := [_]) rfl rfl
  have ha : 0 ≤ a := by simpa using h1
  have hab : a ≤ b := by simpa using h2
  have hbl : b ≤ ms.length := by simpa using h3
  obtain ⟨a, rfl⟩ := Int.eq_ofNat_of_zero_le ha
  obtain ⟨b, rfl⟩ := Int.eq_ofNat_of_zero_le (Int.le_trans ha hab)
  (repeat (first | ((with_reducible apply o_valW); exact rfl; exact rfl; exact rfl; exact trivial) | with_reducible apply s_seq | with_reducible apply s_reg | with_reducible apply s_skip | with_reducible apply s_block | with_reducible apply s_exit | with_reducible apply s_ret | with_reducible apply o_nil | with_reducible apply ssq_norm | with_reducible apply ssq_exit | with_reducible apply ssq_ret | with_reducible apply sbq_hit | with_reducible apply sbq_norm | with_reducible apply sbq_ret | with_reducible apply slq_exit | with_reducible apply slq_ret | with_reducible apply jq_exit | with_reducible apply jq_ret | ((with_reducible apply s_condT); exact rfl) | ((with_reducible apply s_condF); exact rfl) | ((with_reducible apply o_guardT); exact rfl; exact rfl) | ((with_reducible apply o_guardF); exact rfl; exact rfl) | ((with_reducible apply sbq_miss); exact rfl)))
  show SOps _ _ _ _ _ _ _ _ _ (hset hp0 []) _
  refine o_sltN (a := 0) (b := a) rfl rfl hw rfl rfl (by omega) (by omega) fun w1 hw1 => ?_
  apply o_bld rfl (fill_one rfl hw1.one rfl (fill_one rfl rfl rfl fill_nil))
  ((with_reducible apply o_alcL dis_nil); exact rfl; intro i1 hD1)
  ((try ((with_reducible apply o_guardT); exact rfl; exact rfl)); (with_reducible apply o_stL 0 hD1); exact rfl; exact rfl; exact rfl; exact rfl; exact rfl; exact rfl; (exact by simp only [AV.cells, List.all_cons, hw1.one]; rfl); exact rfl; clear hD1; intro hD1)
  (repeat (first | ((with_reducible apply o_valW); exact rfl; exact rfl; exact rfl; exact trivial) | with_reducible apply s_seq | with_reducible apply s_reg | with_reducible apply s_skip | with_reducible apply s_block | with_reducible apply s_exit | with_reducible apply s_ret | with_reducible apply o_nil | with_reducible apply ssq_norm | with_reducible apply ssq_exit | with_reducible apply ssq_ret | with_reducible apply sbq_hit | with_reducible apply sbq_norm | with_reducible apply sbq_ret | with_reducible apply slq_exit | with_reducible apply slq_ret | with_reducible apply jq_exit | with_reducible apply jq_ret | ((with_reducible apply s_condT); exact rfl) | ((with_reducible apply s_condF); exact rfl) | ((with_reducible apply o_guardT); exact rfl; exact rfl) | ((with_reducible apply o_guardF); exact rfl; exact rfl) | ((with_reducible apply sbq_miss); exact rfl)))
  refine o_sltN (a := 0) (b := b) rfl rfl hw rfl rfl (by omega) (by omega) fun w2 hw2 => ?_
  apply o_bld rfl (fill_one rfl hw2.one rfl (fill_one rfl rfl rfl fill_nil))
  ((with_reducible apply o_alcL hD1); exact rfl; intro i2 hD2)
  ((try ((with_reducible apply o_guardT); exact rfl; exact rfl)); (with_reducible apply o_stL 0 hD2); exact rfl; exact rfl; exact rfl; exact rfl; exact rfl; exact rfl; (exact by simp only [AV.cells, List.all_cons, hw2.one]; rfl); exact rfl; clear hD2; intro hD2)
  (repeat (first | ((with_reducible apply o_valW); exact rfl; exact rfl; exact rfl; exact trivial) | with_reducible apply s_seq | with_reducible apply s_reg | with_reducible apply s_skip | with_reducible apply s_block | with_reducible apply s_exit | with_reducible apply s_ret | with_reducible apply o_nil | with_reducible apply ssq_norm | with_reducible apply ssq_exit | with_reducible apply ssq_ret | with_reducible apply sbq_hit | with_reducible apply sbq_norm | with_reducible apply sbq_ret | with_reducible apply slq_exit | with_reducible apply slq_ret | with_reducible apply jq_exit | with_reducible apply jq_ret | ((with_reducible apply s_condT); exact rfl) | ((with_reducible apply s_condF); exact rfl) | ((with_reducible apply o_guardT); exact rfl; exact rfl) | ((with_reducible apply o_guardF); exact rfl; exact rfl) | ((with_reducible apply sbq_miss); exact rfl)))
  apply o_bld rfl (fill_one rfl hw.one rfl (fill_one rfl rfl rfl (fill_one rfl rfl rfl fill_nil)))
  ((with_reducible apply o_alcL hD2); exact rfl; intro i3 hD3)
  ((try ((with_reducible apply o_guardT); exact rfl; exact rfl)); (with_reducible apply o_stL 0 hD3); exact rfl; exact rfl; exact rfl; exact rfl; exact rfl; exact rfl; (exact by simp only [AV.cells, List.all_cons, hw.one]; rfl); exact rfl; clear hD3; intro hD3)
  (repeat (first | ((with_reducible apply o_valW); exact rfl; exact rfl; exact rfl; exact trivial) | with_reducible apply s_seq | with_reducible apply s_reg | with_reducible apply s_skip | with_reducible apply s_block | with_reducible apply s_exit | with_reducible apply s_ret | with_reducible apply o_nil | with_reducible apply ssq_norm | with_reducible apply ssq_exit | with_reducible apply ssq_ret | with_reducible apply sbq_hit | with_reducible apply sbq_norm | with_reducible apply sbq_ret | with_reducible apply slq_exit | with_reducible apply slq_ret | with_reducible apply jq_exit | with_reducible apply jq_ret | ((with_reducible apply s_condT); exact rfl) | ((with_reducible apply s_condF); exact rfl) | ((with_reducible apply o_guardT); exact rfl; exact rfl) | ((with_reducible apply o_guardF); exact rfl; exact rfl) | ((with_reducible apply sbq_miss); exact rfl)))
  rw [List.drop_zero] at hw1 hw2
  let x : Tr := ⟨ms.take a, 3, 0, []⟩
  let y : Tr := ⟨ms.take b, 4, 0, []⟩
  let z : Tr := ⟨ms, 2, 0, [65, 97]⟩
  have hx : NSl .i32 w1 x.out := hw1
  have hy : NSl .i32 w2 y.out := hw2
  have hz : NSl .i32 w z.out := hw
  have lx : x.out.length ≤ 9223372036854775807 := by simp only [x, List.length_take]; omega
  have ly : y.out.length ≤ 9223372036854775807 := by simp only [y, List.length_take]; omega
  have lz : z.out.length ≤ 9223372036854775807 := hms
  have hxy : begins x y = true := begins_take (by omega)
  have hyz : begins y z = true := by
    have := begins_take (ns := ms) (a := b) (b := ms.length) (by omega) (e := 4) (c := 0) (e' := 2) (c' := 0) (s := []) (s' := [65, 97])
    rwa [List.take_length] at this
  have hxz : begins x z = true := by
    have := begins_take (ns := ms) (a := a) (b := ms.length) (by omega) (e := 3) (c := 0) (e' := 2) (c' := 0) (s := []) (s' := [65, 97])
    rwa [List.take_length] at this
  have axz : agree x z = true := by
    unfold agree
    rw [hxz]; rfl
  have azy : agree z y = true := by
    unfold agree
    rw [hyz]; rfl
  have axy : agree x y = true := by
    unfold agree
    rw [hxy]; rfl
  have hyx : begins y x = decide ((a : Int) = b) := by
    unfold begins
    have e1 : (ms.take a).length = a := by rw [List.length_take]; omega
    have e2 : (ms.take b).length = b := by rw [List.length_take]; omega
    show (decide ((ms.take b).length ≤ (ms.take a).length) && decide (ms.take b = (ms.take a).take (ms.take b).length)) = _
    rw [e1, e2]
    by_cases hc : a = b
    · subst hc
      simp [List.take_take]
    · rw [decide_eq_false (by omega : ¬(b ≤ a)), decide_eq_false (by omega : ¬((a : Int) = b))]; rfl
  have eyx : same x y = false := by
    unfold same
    rw [show decide (x.e = y.e) = false from rfl]
    simp
  have wz : whole z = true := rfl
  ((try ((with_reducible apply o_guardT); exact rfl; exact rfl)); (with_reducible apply o_ldnL 2 hD3); exact rfl; exact rfl; exact rfl; exact rfl; exact rfl)
  ((try ((with_reducible apply o_guardT); exact rfl; exact rfl)); (with_reducible apply o_ldnL 1 hD3); exact rfl; exact rfl; exact rfl; exact rfl; exact rfl)
  ((try ((with_reducible apply o_guardT); exact rfl; exact rfl)); (with_reducible apply o_call); exact rfl; exact rfl; exact rfl; exact c11 hx hy lx)
  rw [hxy]
  (repeat (first | ((with_reducible apply o_valW); exact rfl; exact rfl; exact rfl; exact trivial) | with_reducible apply s_seq | with_reducible apply s_reg | with_reducible apply s_skip | with_reducible apply s_block | with_reducible apply s_exit | with_reducible apply s_ret | with_reducible apply o_nil | with_reducible apply ssq_norm | with_reducible apply ssq_exit | with_reducible apply ssq_ret | with_reducible apply sbq_hit | with_reducible apply sbq_norm | with_reducible apply sbq_ret | with_reducible apply slq_exit | with_reducible apply slq_ret | with_reducible apply jq_exit | with_reducible apply jq_ret | ((with_reducible apply s_condT); exact rfl) | ((with_reducible apply s_condF); exact rfl) | ((with_reducible apply o_guardT); exact rfl; exact rfl) | ((with_reducible apply o_guardF); exact rfl; exact rfl) | ((with_reducible apply sbq_miss); exact rfl)))
  ((try ((with_reducible apply o_guardT); exact rfl; exact rfl)); (with_reducible apply o_ldnL 1 hD3); exact rfl; exact rfl; exact rfl; exact rfl; exact rfl)
  ((try ((with_reducible apply o_guardT); exact rfl; exact rfl)); (with_reducible apply o_ldnL 0 hD3); exact rfl; exact rfl; exact rfl; exact rfl; exact rfl)
  ((try ((with_reducible apply o_guardT); exact rfl; exact rfl)); (with_reducible apply o_call); exact rfl; exact rfl; exact rfl; exact c11 hy hz ly)
  rw [hyz]
  (repeat (first | ((with_reducible apply o_valW); exact rfl; exact rfl; exact rfl; exact trivial) | with_reducible apply s_seq | with_reducible apply s_reg | with_reducible apply s_skip | with_reducible apply s_block | with_reducible apply s_exit | with_reducible apply s_ret | with_reducible apply o_nil | with_reducible apply ssq_norm | with_reducible apply ssq_exit | with_reducible apply ssq_ret | with_reducible apply sbq_hit | with_reducible apply sbq_norm | with_reducible apply sbq_ret | with_reducible apply slq_exit | with_reducible apply slq_ret | with_reducible apply jq_exit | with_reducible apply jq_ret | ((with_reducible apply s_condT); exact rfl) | ((with_reducible apply s_condF); exact rfl) | ((with_reducible apply o_guardT); exact rfl; exact rfl) | ((with_reducible apply o_guardF); exact rfl; exact rfl) | ((with_reducible apply sbq_miss); exact rfl)))
  ((try ((with_reducible apply o_guardT); exact rfl; exact rfl)); (with_reducible apply o_ldnL 2 hD3); exact rfl; exact rfl; exact rfl; exact rfl; exact rfl)
  ((try ((with_reducible apply o_guardT); exact rfl; exact rfl)); (with_reducible apply o_ldnL 0 hD3); exact rfl; exact rfl; exact rfl; exact rfl; exact rfl)
  ((try ((with_reducible apply o_guardT); exact rfl; exact rfl)); (with_reducible apply o_call); exact rfl; exact rfl; exact rfl; exact c11 hx hz lx)
  rw [hxz]
  (repeat (first | ((with_reducible apply o_valW); exact rfl; exact rfl; exact rfl; exact trivial) | with_reducible apply s_seq | with_reducible apply s_reg | with_reducible apply s_skip | with_reducible apply s_block | with_reducible apply s_exit | with_reducible apply s_ret | with_reducible apply o_nil | with_reducible apply ssq_norm | with_reducible apply ssq_exit | with_reducible apply ssq_ret | with_reducible apply sbq_hit | with_reducible apply sbq_norm | with_reducible apply sbq_ret | with_reducible apply slq_exit | with_reducible apply slq_ret | with_reducible apply jq_exit | with_reducible apply jq_ret | ((with_reducible apply s_condT); exact rfl) | ((with_reducible apply s_condF); exact rfl) | ((with_reducible apply o_guardT); exact rfl; exact rfl) | ((with_reducible apply o_guardF); exact rfl; exact rfl) | ((with_reducible apply sbq_miss); exact rfl)))
  ((try ((with_reducible apply o_guardT); exact rfl; exact rfl)); (with_reducible apply o_ldnL 2 hD3); exact rfl; exact rfl; exact rfl; exact rfl; exact rfl)
  ((try ((with_reducible apply o_guardT); exact rfl; exact rfl)); (with_reducible apply o_ldnL 0 hD3); exact rfl; exact rfl; exact rfl; exact rfl; exact rfl)
  ((try ((with_reducible apply o_guardT); exact rfl; exact rfl)); (with_reducible apply o_call); exact rfl; exact rfl; exact rfl; exact c12 hx hz lx lz)
  rw [axz]
  (repeat (first | ((with_reducible apply o_valW); exact rfl; exact rfl; exact rfl; exact trivial) | with_reducible apply s_seq | with_reducible apply s_reg | with_reducible apply s_skip | with_reducible apply s_block | with_reducible apply s_exit | with_reducible apply s_ret | with_reducible apply o_nil | with_reducible apply ssq_norm | with_reducible apply ssq_exit | with_reducible apply ssq_ret | with_reducible apply sbq_hit | with_reducible apply sbq_norm | with_reducible apply sbq_ret | with_reducible apply slq_exit | with_reducible apply slq_ret | with_reducible apply jq_exit | with_reducible apply jq_ret | ((with_reducible apply s_condT); exact rfl) | ((with_reducible apply s_condF); exact rfl) | ((with_reducible apply o_guardT); exact rfl; exact rfl) | ((with_reducible apply o_guardF); exact rfl; exact rfl) | ((with_reducible apply sbq_miss); exact rfl)))
  ((try ((with_reducible apply o_guardT); exact rfl; exact rfl)); (with_reducible apply o_ldnL 0 hD3); exact rfl; exact rfl; exact rfl; exact rfl; exact rfl)
  ((try ((with_reducible apply o_guardT); exact rfl; exact rfl)); (with_reducible apply o_ldnL 1 hD3); exact rfl; exact rfl; exact rfl; exact rfl; exact rfl)
  ((try ((with_reducible apply o_guardT); exact rfl; exact rfl)); (with_reducible apply o_call); exact rfl; exact rfl; exact rfl; exact c12 hz hy lz ly)
  rw [azy]
  (repeat (first | ((with_reducible apply o_valW); exact rfl; exact rfl; exact rfl; exact trivial) | with_reducible apply s_seq | with_reducible apply s_reg | with_reducible apply s_skip | with_reducible apply s_block | with_reducible apply s_exit | with_reducible apply s_ret | with_reducible apply o_nil | with_reducible apply ssq_norm | with_reducible apply ssq_exit | with_reducible apply ssq_ret | with_reducible apply sbq_hit | with_reducible apply sbq_norm | with_reducible apply sbq_ret | with_reducible apply slq_exit | with_reducible apply slq_ret | with_reducible apply jq_exit | with_reducible apply jq_ret | ((with_reducible apply s_condT); exact rfl) | ((with_reducible apply s_condF); exact rfl) | ((with_reducible apply o_guardT); exact rfl; exact rfl) | ((with_reducible apply o_guardF); exact rfl; exact rfl) | ((with_reducible apply sbq_miss); exact rfl)))
  ((try ((with_reducible apply o_guardT); exact rfl; exact rfl)); (with_reducible apply o_ldnL 2 hD3); exact rfl; exact rfl; exact rfl; exact rfl; exact rfl)
  ((try ((with_reducible apply o_guardT); exact rfl; exact rfl)); (with_reducible apply o_ldnL 1 hD3); exact rfl; exact rfl; exact rfl; exact rfl; exact rfl)
  ((try ((with_reducible apply o_guardT); exact rfl; exact rfl)); (with_reducible apply o_call); exact rfl; exact rfl; exact rfl; exact c12 hx hy lx ly)
  rw [axy]
  (repeat (first | ((with_reducible apply o_valW); exact rfl; exact rfl; exact rfl; exact trivial) | with_reducible apply s_seq | with_reducible apply s_reg | with_reducible apply s_skip | with_reducible apply s_block | with_reducible apply s_exit | with_reducible apply s_ret | with_reducible apply o_nil | with_reducible apply ssq_norm | with_reducible apply ssq_exit | with_reducible apply ssq_ret | with_reducible apply sbq_hit | with_reducible apply sbq_norm | with_reducible apply sbq_ret | with_reducible apply slq_exit | with_reducible apply slq_ret | with_reducible apply jq_exit | with_reducible apply jq_ret | ((with_reducible apply s_condT); exact rfl) | ((with_reducible apply s_condF); exact rfl) | ((with_reducible apply o_guardT); exact rfl; exact rfl) | ((with_reducible apply o_guardF); exact rfl; exact rfl) | ((with_reducible apply sbq_miss); exact rfl)))
  ((try ((with_reducible apply o_guardT); exact rfl; exact rfl)); (with_reducible apply o_ldnL 1 hD3); exact rfl; exact rfl; exact rfl; exact rfl; exact rfl)
  ((try ((with_reducible apply o_guardT); exact rfl; exact rfl)); (with_reducible apply o_ldnL 2 hD3); exact rfl; exact rfl; exact rfl; exact rfl; exact rfl)
  ((try ((with_reducible apply o_guardT); exact rfl; exact rfl)); (with_reducible apply o_call); exact rfl; exact rfl; exact rfl; exact c11 hy hx ly)
  rw [hyx]
  (repeat (first | ((with_reducible apply o_valW); exact rfl; exact rfl; exact rfl; exact trivial) | with_reducible apply s_seq | with_reducible apply s_reg | with_reducible apply s_skip | with_reducible apply s_block | with_reducible apply s_exit | with_reducible apply s_ret | with_reducible apply o_nil | with_reducible apply ssq_norm | with_reducible apply ssq_exit | with_reducible apply ssq_ret | with_reducible apply sbq_hit | with_reducible apply sbq_norm | with_reducible apply sbq_ret | with_reducible apply slq_exit | with_reducible apply slq_ret | with_reducible apply jq_exit | with_reducible apply jq_ret | ((with_reducible apply s_condT); exact rfl) | ((with_reducible apply s_condF); exact rfl) | ((with_reducible apply o_guardT); exact rfl; exact rfl) | ((with_reducible apply o_guardF); exact rfl; exact rfl) | ((with_reducible apply sbq_miss); exact rfl)))
  ((try ((with_reducible apply o_guardT); exact rfl; exact rfl)); (with_reducible apply o_bool); exact rfl; exact rfl; exact trivial; intro b4 h4)
  rw [← h4]
  (first | ((with_reducible apply o_valW); exact rfl; exact rfl; exact rfl; exact trivial) | with_reducible apply s_seq | with_reducible apply s_reg | with_reducible apply s_skip | with_reducible apply s_block | with_reducible apply s_exit | with_reducible apply s_ret | with_reducible apply o_nil | with_reducible apply ssq_norm | with_reducible apply ssq_exit | with_reducible apply ssq_ret | with_reducible apply sbq_hit | with_reducible apply sbq_norm | with_reducible apply sbq_ret | with_reducible apply slq_exit | with_reducible apply slq_ret | with_reducible apply jq_exit | with_reducible apply jq_ret | ((with_reducible apply s_condT); exact rfl) | ((with_reducible apply s_condF); exact rfl) | ((with_reducible apply o_guardT); exact rfl; exact rfl) | ((with_reducible apply o_guardF); exact rfl; exact rfl) | ((with_reducible apply sbq_miss); exact rfl))
  apply o_true rfl rfl trivial (by simp)
  (repeat (first | ((with_reducible apply o_valW); exact rfl; exact rfl; exact rfl; exact trivial) | with_reducible apply s_seq | with_reducible apply s_reg | with_reducible apply s_skip | with_reducible apply s_block | with_reducible apply s_exit | with_reducible apply s_ret | with_reducible apply o_nil | with_reducible apply ssq_norm | with_reducible apply ssq_exit | with_reducible apply ssq_ret | with_reducible apply sbq_hit | with_reducible apply sbq_norm | with_reducible apply sbq_ret | with_reducible apply slq_exit | with_reducible apply slq_ret | with_reducible apply jq_exit | with_reducible apply jq_ret | ((with_reducible apply s_condT); exact rfl) | ((with_reducible apply s_condF); exact rfl) | ((with_reducible apply o_guardT); exact rfl; exact rfl) | ((with_reducible apply o_guardF); exact rfl; exact rfl) | ((with_reducible apply sbq_miss); exact rfl)))
  ((try ((with_reducible apply o_guardT); exact rfl; exact rfl)); (with_reducible apply o_ldnL 2 hD3); exact rfl; exact rfl; exact rfl; exact rfl; exact rfl)
  ((try ((with_reducible apply o_guardT); exact rfl; exact rfl)); (with_reducible apply o_ldnL 1 hD3); exact rfl; exact rfl; exact rfl; exact rfl; exact rfl)
  ((try ((with_reducible apply o_guardT); exact rfl; exact rfl)); (with_reducible apply o_call); exact rfl; exact rfl; exact rfl; exact c9 hx hy lx)
  rw [eyx]
  (repeat (first | ((with_reducible apply o_valW); exact rfl; exact rfl; exact rfl; exact trivial) | with_reducible apply s_seq | with_reducible apply s_reg | with_reducible apply s_skip | with_reducible apply s_block | with_reducible apply s_exit | with_reducible apply s_ret | with_reducible apply o_nil | with_reducible apply ssq_norm | with_reducible apply ssq_exit | with_reducible apply ssq_ret | with_reducible apply sbq_hit | with_reducible apply sbq_norm | with_reducible apply sbq_ret | with_reducible apply slq_exit | with_reducible apply slq_ret | with_reducible apply jq_exit | with_reducible apply jq_ret | ((with_reducible apply s_condT); exact rfl) | ((with_reducible apply s_condF); exact rfl) | ((with_reducible apply o_guardT); exact rfl; exact rfl) | ((with_reducible apply o_guardF); exact rfl; exact rfl) | ((with_reducible apply sbq_miss); exact rfl)))
  ((try ((with_reducible apply o_guardT); exact rfl; exact rfl)); (with_reducible apply o_ldnL 0 hD3); exact rfl; exact rfl; exact rfl; exact rfl; exact rfl)
  ((try ((with_reducible apply o_guardT); exact rfl; exact rfl)); (with_reducible apply o_call); exact rfl; exact rfl; exact rfl; exact c10 hz)
  rw [wz]
  (repeat (first | ((with_reducible apply o_valW); exact rfl; exact rfl; exact rfl; exact trivial) | with_reducible apply s_seq | with_reducible apply s_reg | with_reducible apply s_skip | with_reducible apply s_block | with_reducible apply s_exit | with_reducible apply s_ret | with_reducible apply o_nil | with_reducible apply ssq_norm | with_reducible apply ssq_exit | with_reducible apply ssq_ret | with_reducible apply sbq_hit | with_reducible apply sbq_norm | with_reducible apply sbq_ret | with_reducible apply slq_exit | with_reducible apply slq_ret | with_reducible apply jq_exit | with_reducible apply jq_ret | ((with_reducible apply s_condT); exact rfl) | ((with_reducible apply s_condF); exact rfl) | ((with_reducible apply o_guardT); exact rfl; exact rfl) | ((with_reducible apply o_guardF); exact rfl; exact rfl) | ((with_reducible apply sbq_miss); exact rfl)))
  (first | apply sret_ret | apply sret_norm); exact res_tmp (vs := [_]) rfl rfl

theorem ThreeRun.law_run (ps : List AV) (h : TyVs Tryd.prog 4 Tryd.f5.params.toList ps) : ∃ n h' n' lg, callN Tryd.prog ann n 5 ps (fun _ => none) 0 = some (.bool true, h', n', lg) := by
  obtain ⟨l, _, rfl, hl, a, _, rfl, ha, b, _, rfl, hb, rfl⟩ := h
  obtain ⟨ns, hn, hm, _⟩ := ty_nums (P := Tryd.prog) (t := 22) (e := 21) (i := .i32) (by kernel_rfl) (by kernel_rfl) (by kernel_rfl) hl
  obtain ⟨a, rfl, _⟩ := ty_int (P := Tryd.prog) (t := 3) (i := .i64) (by kernel_rfl) ha
  obtain ⟨b, rfl, _⟩ := ty_int (P := Tryd.prog) (t := 3) (i := .i64) (by kernel_rfl) hb
  exact run_of_pure (c5 hn (Nat.le_trans hm (by decide)) a b)
end Go.Proofs
