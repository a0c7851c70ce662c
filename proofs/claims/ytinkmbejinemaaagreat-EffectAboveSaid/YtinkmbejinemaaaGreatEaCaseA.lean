/- Cases of EffectAbove. -/
import Derived.Test.YtinkmbejinemaaaGreatEwRunB
open Go Go.Abs
namespace Go.Proofs.SlimCode
set_option maxRecDepth 100000
theorem ab_1_0 : runE 5000 (tb 12) 6 [.int .i64 (.ofNat 1), .int .i64 (.ofNat 0)] = some (.bool true) := by kernel_rfl
theorem ab_1_1 : runE 5000 (tb 12) 6 [.int .i64 (.ofNat 1), .int .i64 (.ofNat 1)] = some (.bool true) := by kernel_rfl
theorem ab_1_big (m : Nat) : runE 5000 (tb 12) 6 [.int .i64 (.ofNat 1), .int .i64 (.ofNat (m + 2))] = some (.bool true) := by kernel_rfl
theorem ab_1_neg (m : Nat) : runE 5000 (tb 12) 6 [.int .i64 (.ofNat 1), .int .i64 (.negSucc m)] = some (.bool true) := by kernel_rfl
theorem ab_2_0 : runE 5000 (tb 12) 6 [.int .i64 (.ofNat 2), .int .i64 (.ofNat 0)] = some (.bool true) := by kernel_rfl
theorem ab_2_1 : runE 5000 (tb 12) 6 [.int .i64 (.ofNat 2), .int .i64 (.ofNat 1)] = some (.bool true) := by kernel_rfl
theorem ab_2_2 : runE 5000 (tb 12) 6 [.int .i64 (.ofNat 2), .int .i64 (.ofNat 2)] = some (.bool true) := by kernel_rfl
theorem ab_2_big (m : Nat) : runE 5000 (tb 12) 6 [.int .i64 (.ofNat 2), .int .i64 (.ofNat (m + 3))] = some (.bool true) := by kernel_rfl
theorem ab_2_neg (m : Nat) : runE 5000 (tb 12) 6 [.int .i64 (.ofNat 2), .int .i64 (.negSucc m)] = some (.bool true) := by kernel_rfl
theorem ab_3_0 : runE 5000 (tb 12) 6 [.int .i64 (.ofNat 3), .int .i64 (.ofNat 0)] = some (.bool true) := by kernel_rfl
theorem ab_3_1 : runE 5000 (tb 12) 6 [.int .i64 (.ofNat 3), .int .i64 (.ofNat 1)] = some (.bool true) := by kernel_rfl
theorem ab_3_2 : runE 5000 (tb 12) 6 [.int .i64 (.ofNat 3), .int .i64 (.ofNat 2)] = some (.bool true) := by kernel_rfl
theorem ab_3_3 : runE 5000 (tb 12) 6 [.int .i64 (.ofNat 3), .int .i64 (.ofNat 3)] = some (.bool true) := by kernel_rfl
theorem ab_3_big (m : Nat) : runE 5000 (tb 12) 6 [.int .i64 (.ofNat 3), .int .i64 (.ofNat (m + 4))] = some (.bool true) := by kernel_rfl
theorem ab_3_neg (m : Nat) : runE 5000 (tb 12) 6 [.int .i64 (.ofNat 3), .int .i64 (.negSucc m)] = some (.bool true) := by kernel_rfl
theorem ab_4_0 : runE 5000 (tb 12) 6 [.int .i64 (.ofNat 4), .int .i64 (.ofNat 0)] = some (.bool true) := by kernel_rfl
theorem ab_4_1 : runE 5000 (tb 12) 6 [.int .i64 (.ofNat 4), .int .i64 (.ofNat 1)] = some (.bool true) := by kernel_rfl
theorem ab_4_2 : runE 5000 (tb 12) 6 [.int .i64 (.ofNat 4), .int .i64 (.ofNat 2)] = some (.bool true) := by kernel_rfl
theorem ab_4_3 : runE 5000 (tb 12) 6 [.int .i64 (.ofNat 4), .int .i64 (.ofNat 3)] = some (.bool true) := by kernel_rfl
theorem ab_4_4 : runE 5000 (tb 12) 6 [.int .i64 (.ofNat 4), .int .i64 (.ofNat 4)] = some (.bool true) := by kernel_rfl
theorem ab_4_big (m : Nat) : runE 5000 (tb 12) 6 [.int .i64 (.ofNat 4), .int .i64 (.ofNat (m + 5))] = some (.bool true) := by kernel_rfl
theorem ab_4_neg (m : Nat) : runE 5000 (tb 12) 6 [.int .i64 (.ofNat 4), .int .i64 (.negSucc m)] = some (.bool true) := by kernel_rfl
theorem ab_5_0 : runE 5000 (tb 12) 6 [.int .i64 (.ofNat 5), .int .i64 (.ofNat 0)] = some (.bool true) := by kernel_rfl
theorem ab_5_1 : runE 5000 (tb 12) 6 [.int .i64 (.ofNat 5), .int .i64 (.ofNat 1)] = some (.bool true) := by kernel_rfl
theorem ab_5_2 : runE 5000 (tb 12) 6 [.int .i64 (.ofNat 5), .int .i64 (.ofNat 2)] = some (.bool true) := by kernel_rfl
theorem ab_5_3 : runE 5000 (tb 12) 6 [.int .i64 (.ofNat 5), .int .i64 (.ofNat 3)] = some (.bool true) := by kernel_rfl
theorem ab_5_4 : runE 5000 (tb 12) 6 [.int .i64 (.ofNat 5), .int .i64 (.ofNat 4)] = some (.bool true) := by kernel_rfl
theorem ab_5_5 : runE 5000 (tb 12) 6 [.int .i64 (.ofNat 5), .int .i64 (.ofNat 5)] = some (.bool true) := by kernel_rfl
theorem ab_5_big (m : Nat) : runE 5000 (tb 12) 6 [.int .i64 (.ofNat 5), .int .i64 (.ofNat (m + 6))] = some (.bool true) := by kernel_rfl
theorem ab_5_neg (m : Nat) : runE 5000 (tb 12) 6 [.int .i64 (.ofNat 5), .int .i64 (.negSucc m)] = some (.bool true) := by kernel_rfl
end Go.Proofs.SlimCode
