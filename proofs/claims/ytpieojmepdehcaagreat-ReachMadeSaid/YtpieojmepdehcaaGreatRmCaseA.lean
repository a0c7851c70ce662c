/- Cases of ReachMade. -/
import Derived.Test.YtpieojmepdehcaaGreatRmO
open Go Go.Abs
namespace Go.Proofs.SlimCode
set_option maxRecDepth 100000
theorem w_n2_nil (T : List AV → Bool) (d : Int) : W T (.int .i64 (.negSucc 1)) [.nil .sl, .int .i64 d] = q1 (T [.int .i64 d, ci 3, ci 21]) := by kernel_rfl
theorem w_n2_2_00 (T : List AV → Bool) (d : Int) : W T (.int .i64 (.negSucc 1)) [.tsl [.bool false, .bool false] 2, .int .i64 d] = q1 (T [.int .i64 d, ci 3, ci 21]) := by kernel_rfl
theorem w_n2_3_000 (T : List AV → Bool) (l : List AV) (m : Nat) (d : Int) : W T (.int .i64 (.negSucc 1)) [.tsl (.bool false :: .bool false :: .bool false :: l) (m + 3), .int .i64 d] = q1 (T [.int .i64 d, ci 3, ci 21]) := by kernel_rfl
theorem w_n2_3_100 (T : List AV → Bool) (l : List AV) (m : Nat) (d : Int) : W T (.int .i64 (.negSucc 1)) [.tsl (.bool true :: .bool false :: .bool false :: l) (m + 3), .int .i64 d] = q1 (T [.int .i64 d, ci 3, ci 21]) := by kernel_rfl
theorem w_n1_nil (T : List AV → Bool) (d : Int) : W T (.int .i64 (.negSucc 0)) [.nil .sl, .int .i64 d] = q1 (T [.int .i64 d, ci 3, ci 21]) := by kernel_rfl
theorem w_n1_2_00 (T : List AV → Bool) (d : Int) : W T (.int .i64 (.negSucc 0)) [.tsl [.bool false, .bool false] 2, .int .i64 d] = q1 (T [.int .i64 d, ci 3, ci 21]) := by kernel_rfl
theorem w_n1_3_000 (T : List AV → Bool) (l : List AV) (m : Nat) (d : Int) : W T (.int .i64 (.negSucc 0)) [.tsl (.bool false :: .bool false :: .bool false :: l) (m + 3), .int .i64 d] = q1 (T [.int .i64 d, ci 3, ci 21]) := by kernel_rfl
theorem w_n1_3_100 (T : List AV → Bool) (l : List AV) (m : Nat) (d : Int) : W T (.int .i64 (.negSucc 0)) [.tsl (.bool true :: .bool false :: .bool false :: l) (m + 3), .int .i64 d] = q1 (T [.int .i64 d, ci 3, ci 21]) := by kernel_rfl
theorem w_p0_nil (T : List AV → Bool) (d : Int) : W T (.int .i64 (.ofNat 0)) [.nil .sl, .int .i64 d] = q1 (T [.int .i64 d, ci 3, ci 21]) := by kernel_rfl
theorem w_p0_2_00 (T : List AV → Bool) (d : Int) : W T (.int .i64 (.ofNat 0)) [.tsl [.bool false, .bool false] 2, .int .i64 d] = q1 (T [.int .i64 d, ci 3, ci 21]) := by kernel_rfl
theorem w_p0_3_000 (T : List AV → Bool) (l : List AV) (m : Nat) (d : Int) : W T (.int .i64 (.ofNat 0)) [.tsl (.bool false :: .bool false :: .bool false :: l) (m + 3), .int .i64 d] = q1 (T [.int .i64 d, ci 3, ci 21]) := by kernel_rfl
theorem w_p0_3_100 (T : List AV → Bool) (l : List AV) (m : Nat) (d : Int) : W T (.int .i64 (.ofNat 0)) [.tsl (.bool true :: .bool false :: .bool false :: l) (m + 3), .int .i64 d] = q1 (T [.int .i64 d, ci 3, ci 21]) := by kernel_rfl
theorem w_p1_nil (T : List AV → Bool) (d : Int) : W T (.int .i64 (.ofNat 1)) [.nil .sl, .int .i64 d] = q1 (T [.int .i64 d, ci 3, ci 21]) := by kernel_rfl
theorem w_p1_2_00 (T : List AV → Bool) (d : Int) : W T (.int .i64 (.ofNat 1)) [.tsl [.bool false, .bool false] 2, .int .i64 d] = q1 (T [.int .i64 d, ci 3, ci 21]) := by kernel_rfl
theorem w_p1_3_000 (T : List AV → Bool) (l : List AV) (m : Nat) (d : Int) : W T (.int .i64 (.ofNat 1)) [.tsl (.bool false :: .bool false :: .bool false :: l) (m + 3), .int .i64 d] = q1 (T [.int .i64 d, ci 3, ci 21]) := by kernel_rfl
theorem w_p1_3_100 (T : List AV → Bool) (l : List AV) (m : Nat) (d : Int) : W T (.int .i64 (.ofNat 1)) [.tsl (.bool true :: .bool false :: .bool false :: l) (m + 3), .int .i64 d] = q1 (T [.int .i64 d, ci 3, ci 21]) := by kernel_rfl
theorem w_p2_nil (T : List AV → Bool) (d : Int) : W T (.int .i64 (.ofNat 2)) [.nil .sl, .int .i64 d] = q1 (T [.int .i64 d, ci 3, ci 21]) := by kernel_rfl
theorem w_p2_2_00 (T : List AV → Bool) (d : Int) : W T (.int .i64 (.ofNat 2)) [.tsl [.bool false, .bool false] 2, .int .i64 d] = q1 (T [.int .i64 d, ci 3, ci 21]) := by kernel_rfl
theorem w_p2_3_000 (T : List AV → Bool) (l : List AV) (m : Nat) (d : Int) : W T (.int .i64 (.ofNat 2)) [.tsl (.bool false :: .bool false :: .bool false :: l) (m + 3), .int .i64 d] = q1 (T [.int .i64 d, ci 3, ci 21]) := by kernel_rfl
theorem w_p2_3_100 (T : List AV → Bool) (l : List AV) (m : Nat) (d : Int) : W T (.int .i64 (.ofNat 2)) [.tsl (.bool true :: .bool false :: .bool false :: l) (m + 3), .int .i64 d] = q1 (T [.int .i64 d, ci 3, ci 21]) := by kernel_rfl
end Go.Proofs.SlimCode
