/- Cases of ReachMade. -/
import Derived.Test.YtpieojmepdehcaaGreatRmO
open Go Go.Abs
namespace Go.Proofs.SlimCode
set_option maxRecDepth 100000
theorem w_n2_0_ (T : List AV → Bool) (d : Int) : W T (.int .i64 (.negSucc 1)) [.tsl [] 0, .int .i64 d] = q1 (T [.int .i64 d, ci 3, ci 21]) := by kernel_rfl
theorem w_n2_2_01 (T : List AV → Bool) (d : Int) : W T (.int .i64 (.negSucc 1)) [.tsl [.bool false, .bool true] 2, .int .i64 d] = q1 (T [.int .i64 d, ci 3, ci 21]) := by kernel_rfl
theorem w_n2_3_001 (T : List AV → Bool) (l : List AV) (m : Nat) (d : Int) : W T (.int .i64 (.negSucc 1)) [.tsl (.bool false :: .bool false :: .bool true :: l) (m + 3), .int .i64 d] = q1 (T [.int .i64 d, ci 3, ci 21]) := by kernel_rfl
theorem w_n2_3_101 (T : List AV → Bool) (l : List AV) (m : Nat) (d : Int) : W T (.int .i64 (.negSucc 1)) [.tsl (.bool true :: .bool false :: .bool true :: l) (m + 3), .int .i64 d] = q1 (T [.int .i64 d, ci 3, ci 21]) := by kernel_rfl
theorem w_n1_0_ (T : List AV → Bool) (d : Int) : W T (.int .i64 (.negSucc 0)) [.tsl [] 0, .int .i64 d] = q1 (T [.int .i64 d, ci 3, ci 21]) := by kernel_rfl
theorem w_n1_2_01 (T : List AV → Bool) (d : Int) : W T (.int .i64 (.negSucc 0)) [.tsl [.bool false, .bool true] 2, .int .i64 d] = q1 (T [.int .i64 d, ci 3, ci 21]) := by kernel_rfl
theorem w_n1_3_001 (T : List AV → Bool) (l : List AV) (m : Nat) (d : Int) : W T (.int .i64 (.negSucc 0)) [.tsl (.bool false :: .bool false :: .bool true :: l) (m + 3), .int .i64 d] = q1 (T [.int .i64 d, ci 3, ci 21]) := by kernel_rfl
theorem w_n1_3_101 (T : List AV → Bool) (l : List AV) (m : Nat) (d : Int) : W T (.int .i64 (.negSucc 0)) [.tsl (.bool true :: .bool false :: .bool true :: l) (m + 3), .int .i64 d] = q1 (T [.int .i64 d, ci 3, ci 21]) := by kernel_rfl
theorem w_p0_0_ (T : List AV → Bool) (d : Int) : W T (.int .i64 (.ofNat 0)) [.tsl [] 0, .int .i64 d] = q1 (T [.int .i64 d, ci 3, ci 21]) := by kernel_rfl
theorem w_p0_2_01 (T : List AV → Bool) (d : Int) : W T (.int .i64 (.ofNat 0)) [.tsl [.bool false, .bool true] 2, .int .i64 d] = q1 (T [.int .i64 d, ci 3, ci 21]) := by kernel_rfl
theorem w_p0_3_001 (T : List AV → Bool) (l : List AV) (m : Nat) (d : Int) : W T (.int .i64 (.ofNat 0)) [.tsl (.bool false :: .bool false :: .bool true :: l) (m + 3), .int .i64 d] = q1 (T [.int .i64 d, ci 3, ci 21]) := by kernel_rfl
theorem w_p0_3_101 (T : List AV → Bool) (l : List AV) (m : Nat) (d : Int) : W T (.int .i64 (.ofNat 0)) [.tsl (.bool true :: .bool false :: .bool true :: l) (m + 3), .int .i64 d] = q1 (T [.int .i64 d, ci 3, ci 21]) := by kernel_rfl
theorem w_p1_0_ (T : List AV → Bool) (d : Int) : W T (.int .i64 (.ofNat 1)) [.tsl [] 0, .int .i64 d] = q1 (T [.int .i64 d, ci 3, ci 21]) := by kernel_rfl
theorem w_p1_2_01 (T : List AV → Bool) (d : Int) : W T (.int .i64 (.ofNat 1)) [.tsl [.bool false, .bool true] 2, .int .i64 d] = q1 (T [.int .i64 d, ci 3, ci 21]) := by kernel_rfl
theorem w_p1_3_001 (T : List AV → Bool) (l : List AV) (m : Nat) (d : Int) : W T (.int .i64 (.ofNat 1)) [.tsl (.bool false :: .bool false :: .bool true :: l) (m + 3), .int .i64 d] = q1 (T [.int .i64 d, ci 3, ci 21]) := by kernel_rfl
theorem w_p1_3_101 (T : List AV → Bool) (l : List AV) (m : Nat) (d : Int) : W T (.int .i64 (.ofNat 1)) [.tsl (.bool true :: .bool false :: .bool true :: l) (m + 3), .int .i64 d] = q1 (T [.int .i64 d, ci 3, ci 21]) := by kernel_rfl
theorem w_p2_0_ (T : List AV → Bool) (d : Int) : W T (.int .i64 (.ofNat 2)) [.tsl [] 0, .int .i64 d] = q1 (T [.int .i64 d, ci 3, ci 21]) := by kernel_rfl
theorem w_p2_2_01 (T : List AV → Bool) (d : Int) : W T (.int .i64 (.ofNat 2)) [.tsl [.bool false, .bool true] 2, .int .i64 d] = q1 (T [.int .i64 d, ci 3, ci 21]) := by kernel_rfl
theorem w_p2_3_001 (T : List AV → Bool) (l : List AV) (m : Nat) (d : Int) : W T (.int .i64 (.ofNat 2)) [.tsl (.bool false :: .bool false :: .bool true :: l) (m + 3), .int .i64 d] = q1 (T [.int .i64 d, ci 3, ci 21]) := by kernel_rfl
theorem w_p2_3_101 (T : List AV → Bool) (l : List AV) (m : Nat) (d : Int) : W T (.int .i64 (.ofNat 2)) [.tsl (.bool true :: .bool false :: .bool true :: l) (m + 3), .int .i64 d] = q1 (T [.int .i64 d, ci 3, ci 21]) := by kernel_rfl
end Go.Proofs.SlimCode
