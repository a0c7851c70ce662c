/- Cases of ReachMade. -/
import Derived.Test.YtpieojmepdehcaaGreatRmO
open Go Go.Abs
namespace Go.Proofs.SlimCode
set_option maxRecDepth 100000
theorem w_n2_1_1 (T : List AV → Bool) (d : Int) : W T (.int .i64 (.negSucc 1)) [.tsl [.bool true] 1, .int .i64 d] = q1 (T [.int .i64 d, ci 3, ci 21]) := by kernel_rfl
theorem w_n2_2_11 (T : List AV → Bool) (d : Int) : W T (.int .i64 (.negSucc 1)) [.tsl [.bool true, .bool true] 2, .int .i64 d] = q1 (T [.int .i64 d, ci 3, ci 21]) := by kernel_rfl
theorem w_n2_3_011 (T : List AV → Bool) (l : List AV) (m : Nat) (d : Int) : W T (.int .i64 (.negSucc 1)) [.tsl (.bool false :: .bool true :: .bool true :: l) (m + 3), .int .i64 d] = q1 (T [.int .i64 d, ci 3, ci 21]) := by kernel_rfl
theorem w_n2_3_111 (T : List AV → Bool) (l : List AV) (m : Nat) (d : Int) : W T (.int .i64 (.negSucc 1)) [.tsl (.bool true :: .bool true :: .bool true :: l) (m + 3), .int .i64 d] = q1 (T [.int .i64 d, ci 3, ci 21]) := by kernel_rfl
theorem w_n1_1_1 (T : List AV → Bool) (d : Int) : W T (.int .i64 (.negSucc 0)) [.tsl [.bool true] 1, .int .i64 d] = q1 (T [.int .i64 d, ci 3, ci 21]) := by kernel_rfl
theorem w_n1_2_11 (T : List AV → Bool) (d : Int) : W T (.int .i64 (.negSucc 0)) [.tsl [.bool true, .bool true] 2, .int .i64 d] = q1 (T [.int .i64 d, ci 3, ci 21]) := by kernel_rfl
theorem w_n1_3_011 (T : List AV → Bool) (l : List AV) (m : Nat) (d : Int) : W T (.int .i64 (.negSucc 0)) [.tsl (.bool false :: .bool true :: .bool true :: l) (m + 3), .int .i64 d] = q1 (T [.int .i64 d, ci 3, ci 21]) := by kernel_rfl
theorem w_n1_3_111 (T : List AV → Bool) (l : List AV) (m : Nat) (d : Int) : W T (.int .i64 (.negSucc 0)) [.tsl (.bool true :: .bool true :: .bool true :: l) (m + 3), .int .i64 d] = q1 (T [.int .i64 d, ci 3, ci 21]) := by kernel_rfl
theorem w_p0_1_1 (T : List AV → Bool) (d : Int) : W T (.int .i64 (.ofNat 0)) [.tsl [.bool true] 1, .int .i64 d] = q1 (T [.int .i64 d, ci 3, ci 21]) := by kernel_rfl
theorem w_p0_2_11 (T : List AV → Bool) (d : Int) : W T (.int .i64 (.ofNat 0)) [.tsl [.bool true, .bool true] 2, .int .i64 d] = q1 (T [.int .i64 d, ci 3, ci 21]) := by kernel_rfl
theorem w_p0_3_011 (T : List AV → Bool) (l : List AV) (m : Nat) (d : Int) : W T (.int .i64 (.ofNat 0)) [.tsl (.bool false :: .bool true :: .bool true :: l) (m + 3), .int .i64 d] = q1 (T [.int .i64 d, ci 3, ci 21]) := by kernel_rfl
theorem w_p0_3_111 (T : List AV → Bool) (l : List AV) (m : Nat) (d : Int) : W T (.int .i64 (.ofNat 0)) [.tsl (.bool true :: .bool true :: .bool true :: l) (m + 3), .int .i64 d] = q1 (T [.int .i64 d, ci 3, ci 21]) := by kernel_rfl
theorem w_p1_1_1 (T : List AV → Bool) (d : Int) : W T (.int .i64 (.ofNat 1)) [.tsl [.bool true] 1, .int .i64 d] = q1 (T [.int .i64 d, ci 3, ci 21]) := by kernel_rfl
theorem w_p1_2_11 (T : List AV → Bool) (d : Int) : W T (.int .i64 (.ofNat 1)) [.tsl [.bool true, .bool true] 2, .int .i64 d] = q1 (T [.int .i64 d, ci 3, ci 21]) := by kernel_rfl
theorem w_p1_3_011 (T : List AV → Bool) (l : List AV) (m : Nat) (d : Int) : W T (.int .i64 (.ofNat 1)) [.tsl (.bool false :: .bool true :: .bool true :: l) (m + 3), .int .i64 d] = q1 (T [.int .i64 d, ci 3, ci 21]) := by kernel_rfl
theorem w_p1_3_111 (T : List AV → Bool) (l : List AV) (m : Nat) (d : Int) : W T (.int .i64 (.ofNat 1)) [.tsl (.bool true :: .bool true :: .bool true :: l) (m + 3), .int .i64 d] = q1 (T [.int .i64 d, ci 3, ci 21]) := by kernel_rfl
theorem w_p2_1_1 (T : List AV → Bool) (d : Int) : W T (.int .i64 (.ofNat 2)) [.tsl [.bool true] 1, .int .i64 d] = q1 (T [.int .i64 d, ci 3, ci 21]) := by kernel_rfl
theorem w_p2_2_11 (T : List AV → Bool) (d : Int) : W T (.int .i64 (.ofNat 2)) [.tsl [.bool true, .bool true] 2, .int .i64 d] = q1 (T [.int .i64 d, ci 3, ci 21]) := by kernel_rfl
theorem w_p2_3_011 (T : List AV → Bool) (l : List AV) (m : Nat) (d : Int) : W T (.int .i64 (.ofNat 2)) [.tsl (.bool false :: .bool true :: .bool true :: l) (m + 3), .int .i64 d] = q1 (T [.int .i64 d, ci 3, ci 21]) := by kernel_rfl
theorem w_p2_3_111 (T : List AV → Bool) (l : List AV) (m : Nat) (d : Int) : W T (.int .i64 (.ofNat 2)) [.tsl (.bool true :: .bool true :: .bool true :: l) (m + 3), .int .i64 d] = q1 (T [.int .i64 d, ci 3, ci 21]) := by kernel_rfl
end Go.Proofs.SlimCode
