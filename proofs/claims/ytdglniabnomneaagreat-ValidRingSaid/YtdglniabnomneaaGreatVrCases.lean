/- The cases of ValidRing. -/
import Derived.Test.YtdglniabnomneaaGreatVrRun
open Go Go.Abs
namespace Go.Proofs.SlimCode
set_option maxRecDepth 100000
theorem big (m : Nat) (b : Bool) : runC 5000 (tb 2) 3 [.int .i64 (.ofNat (m + 11)), .bool b] = some (.bool true) := by kernel_rfl
theorem neg (m : Nat) (b : Bool) : runC 5000 (tb 2) 3 [.int .i64 (.negSucc m), .bool b] = some (.bool true) := by kernel_rfl
theorem nul (b : Bool) : runC 5000 (tb 2) 3 [.int .i64 (.ofNat 0), .bool b] = some (.bool true) := by kernel_rfl
theorem c1_true : runC 5000 (tb 2) 3 [.int .i64 (.ofNat 1), .bool true] = some (.bool true) := by kernel_rfl
theorem c1_false : runC 5000 (tb 2) 3 [.int .i64 (.ofNat 1), .bool false] = some (.bool true) := by kernel_rfl
theorem c2_true : runC 5000 (tb 2) 3 [.int .i64 (.ofNat 2), .bool true] = some (.bool true) := by kernel_rfl
theorem c2_false : runC 5000 (tb 2) 3 [.int .i64 (.ofNat 2), .bool false] = some (.bool true) := by kernel_rfl
theorem c3_true : runC 5000 (tb 2) 3 [.int .i64 (.ofNat 3), .bool true] = some (.bool true) := by kernel_rfl
theorem c3_false : runC 5000 (tb 2) 3 [.int .i64 (.ofNat 3), .bool false] = some (.bool true) := by kernel_rfl
theorem c4_true : runC 5000 (tb 2) 3 [.int .i64 (.ofNat 4), .bool true] = some (.bool true) := by kernel_rfl
theorem c4_false : runC 5000 (tb 2) 3 [.int .i64 (.ofNat 4), .bool false] = some (.bool true) := by kernel_rfl
theorem c5_true : runC 5000 (tb 2) 3 [.int .i64 (.ofNat 5), .bool true] = some (.bool true) := by kernel_rfl
theorem c5_false : runC 5000 (tb 2) 3 [.int .i64 (.ofNat 5), .bool false] = some (.bool true) := by kernel_rfl
theorem c6_true : runC 5000 (tb 2) 3 [.int .i64 (.ofNat 6), .bool true] = some (.bool true) := by kernel_rfl
theorem c6_false : runC 5000 (tb 2) 3 [.int .i64 (.ofNat 6), .bool false] = some (.bool true) := by kernel_rfl
theorem c7_true : runC 5000 (tb 2) 3 [.int .i64 (.ofNat 7), .bool true] = some (.bool true) := by kernel_rfl
theorem c7_false : runC 5000 (tb 2) 3 [.int .i64 (.ofNat 7), .bool false] = some (.bool true) := by kernel_rfl
theorem c8_true : runC 5000 (tb 2) 3 [.int .i64 (.ofNat 8), .bool true] = some (.bool true) := by kernel_rfl
theorem c8_false : runC 5000 (tb 2) 3 [.int .i64 (.ofNat 8), .bool false] = some (.bool true) := by kernel_rfl
theorem c9_true : runC 5000 (tb 2) 3 [.int .i64 (.ofNat 9), .bool true] = some (.bool true) := by kernel_rfl
theorem c9_false : runC 5000 (tb 2) 3 [.int .i64 (.ofNat 9), .bool false] = some (.bool true) := by kernel_rfl
theorem c10_true : runC 5000 (tb 2) 3 [.int .i64 (.ofNat 10), .bool true] = some (.bool true) := by kernel_rfl
theorem c10_false : runC 5000 (tb 2) 3 [.int .i64 (.ofNat 10), .bool false] = some (.bool true) := by kernel_rfl
end Go.Proofs.SlimCode
