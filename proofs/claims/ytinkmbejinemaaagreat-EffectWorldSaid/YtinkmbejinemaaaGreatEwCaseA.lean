/- Cases of EffectWorld. -/
import Derived.Test.YtinkmbejinemaaaGreatEwO
open Go Go.Abs
namespace Go.Proofs.SlimCode
set_option maxRecDepth 100000
theorem w_n2_n5_t (T0 T1 : List AV → Bool) (d o : Int) : W T0 T1 (.int .i64 (.negSucc 1)) (.int .i64 (.negSucc 4)) [.int .i64 d, .int .i64 o, .bool true] = q2 (T0 [.int .i64 o, ci 3, ci 29]) (T1 [.int .i64 d, ci 6, ci 33]) := by kernel_rfl
theorem w_n2_n5_f (T0 T1 : List AV → Bool) (d o : Int) : W T0 T1 (.int .i64 (.negSucc 1)) (.int .i64 (.negSucc 4)) [.int .i64 d, .int .i64 o, .bool false] = q2 (T0 [.int .i64 o, ci 3, ci 29]) (T1 [.int .i64 d, ci 6, ci 33]) := by kernel_rfl
theorem w_n2_n4_t (T0 T1 : List AV → Bool) (d o : Int) : W T0 T1 (.int .i64 (.negSucc 1)) (.int .i64 (.negSucc 3)) [.int .i64 d, .int .i64 o, .bool true] = q2 (T0 [.int .i64 o, ci 3, ci 29]) (T1 [.int .i64 d, ci 6, ci 33]) := by kernel_rfl
theorem w_n2_n4_f (T0 T1 : List AV → Bool) (d o : Int) : W T0 T1 (.int .i64 (.negSucc 1)) (.int .i64 (.negSucc 3)) [.int .i64 d, .int .i64 o, .bool false] = q2 (T0 [.int .i64 o, ci 3, ci 29]) (T1 [.int .i64 d, ci 6, ci 33]) := by kernel_rfl
theorem w_n2_n3_t (T0 T1 : List AV → Bool) (d o : Int) : W T0 T1 (.int .i64 (.negSucc 1)) (.int .i64 (.negSucc 2)) [.int .i64 d, .int .i64 o, .bool true] = q2 (T0 [.int .i64 o, ci 3, ci 29]) (T1 [.int .i64 d, ci 6, ci 33]) := by kernel_rfl
theorem w_n2_n3_f (T0 T1 : List AV → Bool) (d o : Int) : W T0 T1 (.int .i64 (.negSucc 1)) (.int .i64 (.negSucc 2)) [.int .i64 d, .int .i64 o, .bool false] = q2 (T0 [.int .i64 o, ci 3, ci 29]) (T1 [.int .i64 d, ci 6, ci 33]) := by kernel_rfl
theorem w_n2_n2_t (T0 T1 : List AV → Bool) (d o : Int) : W T0 T1 (.int .i64 (.negSucc 1)) (.int .i64 (.negSucc 1)) [.int .i64 d, .int .i64 o, .bool true] = q2 (T0 [.int .i64 o, ci 3, ci 29]) (T1 [.int .i64 d, ci 6, ci 33]) := by kernel_rfl
theorem w_n2_n2_f (T0 T1 : List AV → Bool) (d o : Int) : W T0 T1 (.int .i64 (.negSucc 1)) (.int .i64 (.negSucc 1)) [.int .i64 d, .int .i64 o, .bool false] = q2 (T0 [.int .i64 o, ci 3, ci 29]) (T1 [.int .i64 d, ci 6, ci 33]) := by kernel_rfl
theorem w_n2_n1_t (T0 T1 : List AV → Bool) (d o : Int) : W T0 T1 (.int .i64 (.negSucc 1)) (.int .i64 (.negSucc 0)) [.int .i64 d, .int .i64 o, .bool true] = q2 (T0 [.int .i64 o, ci 3, ci 29]) (T1 [.int .i64 d, ci 6, ci 33]) := by kernel_rfl
theorem w_n2_n1_f (T0 T1 : List AV → Bool) (d o : Int) : W T0 T1 (.int .i64 (.negSucc 1)) (.int .i64 (.negSucc 0)) [.int .i64 d, .int .i64 o, .bool false] = q2 (T0 [.int .i64 o, ci 3, ci 29]) (T1 [.int .i64 d, ci 6, ci 33]) := by kernel_rfl
theorem w_n2_p0_t (T0 T1 : List AV → Bool) (d o : Int) : W T0 T1 (.int .i64 (.negSucc 1)) (.int .i64 (.ofNat 0)) [.int .i64 d, .int .i64 o, .bool true] = q2 (T0 [.int .i64 o, ci 3, ci 29]) (T1 [.int .i64 d, ci 6, ci 33]) := by kernel_rfl
theorem w_n2_p0_f (T0 T1 : List AV → Bool) (d o : Int) : W T0 T1 (.int .i64 (.negSucc 1)) (.int .i64 (.ofNat 0)) [.int .i64 d, .int .i64 o, .bool false] = q2 (T0 [.int .i64 o, ci 3, ci 29]) (T1 [.int .i64 d, ci 6, ci 33]) := by kernel_rfl
theorem w_n2_p1_t (T0 T1 : List AV → Bool) (d o : Int) : W T0 T1 (.int .i64 (.negSucc 1)) (.int .i64 (.ofNat 1)) [.int .i64 d, .int .i64 o, .bool true] = q2 (T0 [.int .i64 o, ci 3, ci 29]) (T1 [.int .i64 d, ci 6, ci 33]) := by kernel_rfl
theorem w_n2_p1_f (T0 T1 : List AV → Bool) (d o : Int) : W T0 T1 (.int .i64 (.negSucc 1)) (.int .i64 (.ofNat 1)) [.int .i64 d, .int .i64 o, .bool false] = q2 (T0 [.int .i64 o, ci 3, ci 29]) (T1 [.int .i64 d, ci 6, ci 33]) := by kernel_rfl
theorem w_n2_p2_t (T0 T1 : List AV → Bool) (d o : Int) : W T0 T1 (.int .i64 (.negSucc 1)) (.int .i64 (.ofNat 2)) [.int .i64 d, .int .i64 o, .bool true] = q2 (T0 [.int .i64 o, ci 3, ci 29]) (T1 [.int .i64 d, ci 6, ci 33]) := by kernel_rfl
theorem w_n2_p2_f (T0 T1 : List AV → Bool) (d o : Int) : W T0 T1 (.int .i64 (.negSucc 1)) (.int .i64 (.ofNat 2)) [.int .i64 d, .int .i64 o, .bool false] = q2 (T0 [.int .i64 o, ci 3, ci 29]) (T1 [.int .i64 d, ci 6, ci 33]) := by kernel_rfl
theorem w_n2_p3_t (T0 T1 : List AV → Bool) (d o : Int) : W T0 T1 (.int .i64 (.negSucc 1)) (.int .i64 (.ofNat 3)) [.int .i64 d, .int .i64 o, .bool true] = q2 (T0 [.int .i64 o, ci 3, ci 29]) (T1 [.int .i64 d, ci 6, ci 33]) := by kernel_rfl
theorem w_n2_p3_f (T0 T1 : List AV → Bool) (d o : Int) : W T0 T1 (.int .i64 (.negSucc 1)) (.int .i64 (.ofNat 3)) [.int .i64 d, .int .i64 o, .bool false] = q2 (T0 [.int .i64 o, ci 3, ci 29]) (T1 [.int .i64 d, ci 6, ci 33]) := by kernel_rfl
theorem w_n2_p4_t (T0 T1 : List AV → Bool) (d o : Int) : W T0 T1 (.int .i64 (.negSucc 1)) (.int .i64 (.ofNat 4)) [.int .i64 d, .int .i64 o, .bool true] = q2 (T0 [.int .i64 o, ci 3, ci 29]) (T1 [.int .i64 d, ci 6, ci 33]) := by kernel_rfl
theorem w_n2_p4_f (T0 T1 : List AV → Bool) (d o : Int) : W T0 T1 (.int .i64 (.negSucc 1)) (.int .i64 (.ofNat 4)) [.int .i64 d, .int .i64 o, .bool false] = q2 (T0 [.int .i64 o, ci 3, ci 29]) (T1 [.int .i64 d, ci 6, ci 33]) := by kernel_rfl
theorem w_n2_p5_t (T0 T1 : List AV → Bool) (d o : Int) : W T0 T1 (.int .i64 (.negSucc 1)) (.int .i64 (.ofNat 5)) [.int .i64 d, .int .i64 o, .bool true] = q2 (T0 [.int .i64 o, ci 3, ci 29]) (T1 [.int .i64 d, ci 6, ci 33]) := by kernel_rfl
theorem w_n2_p5_f (T0 T1 : List AV → Bool) (d o : Int) : W T0 T1 (.int .i64 (.negSucc 1)) (.int .i64 (.ofNat 5)) [.int .i64 d, .int .i64 o, .bool false] = q2 (T0 [.int .i64 o, ci 3, ci 29]) (T1 [.int .i64 d, ci 6, ci 33]) := by kernel_rfl
end Go.Proofs.SlimCode
