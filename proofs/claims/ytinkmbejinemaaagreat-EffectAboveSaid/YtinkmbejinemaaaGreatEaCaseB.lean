/- Cases of EffectAbove. -/
import Derived.Test.YtinkmbejinemaaaGreatEwRunB
open Go Go.Abs
namespace Go.Proofs.SlimCode
set_option maxRecDepth 100000
theorem ab_6_0 : runE 5000 (tb 12) 6 [.int .i64 (.ofNat 6), .int .i64 (.ofNat 0)] = some (.bool true) := by kernel_rfl
theorem ab_6_1 : runE 5000 (tb 12) 6 [.int .i64 (.ofNat 6), .int .i64 (.ofNat 1)] = some (.bool true) := by kernel_rfl
theorem ab_6_2 : runE 5000 (tb 12) 6 [.int .i64 (.ofNat 6), .int .i64 (.ofNat 2)] = some (.bool true) := by kernel_rfl
theorem ab_6_3 : runE 5000 (tb 12) 6 [.int .i64 (.ofNat 6), .int .i64 (.ofNat 3)] = some (.bool true) := by kernel_rfl
theorem ab_6_4 : runE 5000 (tb 12) 6 [.int .i64 (.ofNat 6), .int .i64 (.ofNat 4)] = some (.bool true) := by kernel_rfl
theorem ab_6_5 : runE 5000 (tb 12) 6 [.int .i64 (.ofNat 6), .int .i64 (.ofNat 5)] = some (.bool true) := by kernel_rfl
theorem ab_6_6 : runE 5000 (tb 12) 6 [.int .i64 (.ofNat 6), .int .i64 (.ofNat 6)] = some (.bool true) := by kernel_rfl
theorem ab_6_big (m : Nat) : runE 5000 (tb 12) 6 [.int .i64 (.ofNat 6), .int .i64 (.ofNat (m + 7))] = some (.bool true) := by kernel_rfl
theorem ab_6_neg (m : Nat) : runE 5000 (tb 12) 6 [.int .i64 (.ofNat 6), .int .i64 (.negSucc m)] = some (.bool true) := by kernel_rfl
theorem ab_7_0 : runE 5000 (tb 12) 6 [.int .i64 (.ofNat 7), .int .i64 (.ofNat 0)] = some (.bool true) := by kernel_rfl
theorem ab_7_1 : runE 5000 (tb 12) 6 [.int .i64 (.ofNat 7), .int .i64 (.ofNat 1)] = some (.bool true) := by kernel_rfl
theorem ab_7_2 : runE 5000 (tb 12) 6 [.int .i64 (.ofNat 7), .int .i64 (.ofNat 2)] = some (.bool true) := by kernel_rfl
theorem ab_7_3 : runE 5000 (tb 12) 6 [.int .i64 (.ofNat 7), .int .i64 (.ofNat 3)] = some (.bool true) := by kernel_rfl
theorem ab_7_4 : runE 5000 (tb 12) 6 [.int .i64 (.ofNat 7), .int .i64 (.ofNat 4)] = some (.bool true) := by kernel_rfl
theorem ab_7_5 : runE 5000 (tb 12) 6 [.int .i64 (.ofNat 7), .int .i64 (.ofNat 5)] = some (.bool true) := by kernel_rfl
theorem ab_7_6 : runE 5000 (tb 12) 6 [.int .i64 (.ofNat 7), .int .i64 (.ofNat 6)] = some (.bool true) := by kernel_rfl
theorem ab_7_7 : runE 5000 (tb 12) 6 [.int .i64 (.ofNat 7), .int .i64 (.ofNat 7)] = some (.bool true) := by kernel_rfl
theorem ab_7_big (m : Nat) : runE 5000 (tb 12) 6 [.int .i64 (.ofNat 7), .int .i64 (.ofNat (m + 8))] = some (.bool true) := by kernel_rfl
theorem ab_7_neg (m : Nat) : runE 5000 (tb 12) 6 [.int .i64 (.ofNat 7), .int .i64 (.negSucc m)] = some (.bool true) := by kernel_rfl
end Go.Proofs.SlimCode
