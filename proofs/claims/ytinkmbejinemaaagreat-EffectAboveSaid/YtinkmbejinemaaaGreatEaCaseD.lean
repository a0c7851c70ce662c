/- Cases of EffectAbove. -/
import Derived.Test.YtinkmbejinemaaaGreatEwRunB
open Go Go.Abs
namespace Go.Proofs.SlimCode
set_option maxRecDepth 100000
theorem ab_9_0 : runE 5000 (tb 12) 6 [.int .i64 (.ofNat 9), .int .i64 (.ofNat 0)] = some (.bool true) := by kernel_rfl
theorem ab_9_1 : runE 5000 (tb 12) 6 [.int .i64 (.ofNat 9), .int .i64 (.ofNat 1)] = some (.bool true) := by kernel_rfl
theorem ab_9_2 : runE 5000 (tb 12) 6 [.int .i64 (.ofNat 9), .int .i64 (.ofNat 2)] = some (.bool true) := by kernel_rfl
theorem ab_9_3 : runE 5000 (tb 12) 6 [.int .i64 (.ofNat 9), .int .i64 (.ofNat 3)] = some (.bool true) := by kernel_rfl
theorem ab_9_4 : runE 5000 (tb 12) 6 [.int .i64 (.ofNat 9), .int .i64 (.ofNat 4)] = some (.bool true) := by kernel_rfl
theorem ab_9_5 : runE 5000 (tb 12) 6 [.int .i64 (.ofNat 9), .int .i64 (.ofNat 5)] = some (.bool true) := by kernel_rfl
theorem ab_9_6 : runE 5000 (tb 12) 6 [.int .i64 (.ofNat 9), .int .i64 (.ofNat 6)] = some (.bool true) := by kernel_rfl
theorem ab_9_7 : runE 5000 (tb 12) 6 [.int .i64 (.ofNat 9), .int .i64 (.ofNat 7)] = some (.bool true) := by kernel_rfl
theorem ab_9_8 : runE 5000 (tb 12) 6 [.int .i64 (.ofNat 9), .int .i64 (.ofNat 8)] = some (.bool true) := by kernel_rfl
theorem ab_9_9 : runE 5000 (tb 12) 6 [.int .i64 (.ofNat 9), .int .i64 (.ofNat 9)] = some (.bool true) := by kernel_rfl
theorem ab_9_big (m : Nat) : runE 5000 (tb 12) 6 [.int .i64 (.ofNat 9), .int .i64 (.ofNat (m + 10))] = some (.bool true) := by kernel_rfl
theorem ab_9_neg (m : Nat) : runE 5000 (tb 12) 6 [.int .i64 (.ofNat 9), .int .i64 (.negSucc m)] = some (.bool true) := by kernel_rfl
end Go.Proofs.SlimCode
