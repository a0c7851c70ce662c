/- Cases of EffectAbove. -/
import Derived.Test.YtinkmbejinemaaaGreatEwRunB
open Go Go.Abs
namespace Go.Proofs.SlimCode
set_option maxRecDepth 100000
theorem ab_8_0 : runE 5000 (tb 12) 6 [.int .i64 (.ofNat 8), .int .i64 (.ofNat 0)] = some (.bool true) := by kernel_rfl
theorem ab_8_1 : runE 5000 (tb 12) 6 [.int .i64 (.ofNat 8), .int .i64 (.ofNat 1)] = some (.bool true) := by kernel_rfl
theorem ab_8_2 : runE 5000 (tb 12) 6 [.int .i64 (.ofNat 8), .int .i64 (.ofNat 2)] = some (.bool true) := by kernel_rfl
theorem ab_8_3 : runE 5000 (tb 12) 6 [.int .i64 (.ofNat 8), .int .i64 (.ofNat 3)] = some (.bool true) := by kernel_rfl
theorem ab_8_4 : runE 5000 (tb 12) 6 [.int .i64 (.ofNat 8), .int .i64 (.ofNat 4)] = some (.bool true) := by kernel_rfl
theorem ab_8_5 : runE 5000 (tb 12) 6 [.int .i64 (.ofNat 8), .int .i64 (.ofNat 5)] = some (.bool true) := by kernel_rfl
theorem ab_8_6 : runE 5000 (tb 12) 6 [.int .i64 (.ofNat 8), .int .i64 (.ofNat 6)] = some (.bool true) := by kernel_rfl
theorem ab_8_7 : runE 5000 (tb 12) 6 [.int .i64 (.ofNat 8), .int .i64 (.ofNat 7)] = some (.bool true) := by kernel_rfl
theorem ab_8_8 : runE 5000 (tb 12) 6 [.int .i64 (.ofNat 8), .int .i64 (.ofNat 8)] = some (.bool true) := by kernel_rfl
theorem ab_8_big (m : Nat) : runE 5000 (tb 12) 6 [.int .i64 (.ofNat 8), .int .i64 (.ofNat (m + 9))] = some (.bool true) := by kernel_rfl
theorem ab_8_neg (m : Nat) : runE 5000 (tb 12) 6 [.int .i64 (.ofNat 8), .int .i64 (.negSucc m)] = some (.bool true) := by kernel_rfl
end Go.Proofs.SlimCode
