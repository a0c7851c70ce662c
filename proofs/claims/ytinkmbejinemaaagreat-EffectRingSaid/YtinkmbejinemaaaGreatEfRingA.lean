/- Cases of EffectRing. -/
import Derived.Test.YtinkmbejinemaaaGreatEfRunB
open Go Go.Abs
namespace Go.Proofs.SlimCode
set_option maxRecDepth 100000
theorem ring_big (m : Nat) (b : Bool) : runE 5000 (tb 12) 4 [.int .i64 (.ofNat (m + 9)), .bool b] = some (.bool true) := by kernel_rfl
theorem ring_neg (m : Nat) (b : Bool) : runE 5000 (tb 12) 4 [.int .i64 (.negSucc m), .bool b] = some (.bool true) := by kernel_rfl
theorem ring_0 (b : Bool) : runE 5000 (tb 12) 4 [.int .i64 (.ofNat 0), .bool b] = some (.bool true) := by kernel_rfl
theorem ring_1 (b : Bool) : runE 5000 (tb 12) 4 [.int .i64 (.ofNat 1), .bool b] = some (.bool true) := by kernel_rfl
theorem ring_2_true : runE 5000 (tb 12) 4 [.int .i64 (.ofNat 2), .bool true] = some (.bool true) := by kernel_rfl
theorem ring_2_false : runE 5000 (tb 12) 4 [.int .i64 (.ofNat 2), .bool false] = some (.bool true) := by kernel_rfl
theorem ring_3_true : runE 5000 (tb 12) 4 [.int .i64 (.ofNat 3), .bool true] = some (.bool true) := by kernel_rfl
theorem ring_3_false : runE 5000 (tb 12) 4 [.int .i64 (.ofNat 3), .bool false] = some (.bool true) := by kernel_rfl
theorem ring_4_true : runE 5000 (tb 12) 4 [.int .i64 (.ofNat 4), .bool true] = some (.bool true) := by kernel_rfl
theorem ring_4_false : runE 5000 (tb 12) 4 [.int .i64 (.ofNat 4), .bool false] = some (.bool true) := by kernel_rfl
theorem ring_5_true : runE 5000 (tb 12) 4 [.int .i64 (.ofNat 5), .bool true] = some (.bool true) := by kernel_rfl
theorem ring_5_false : runE 5000 (tb 12) 4 [.int .i64 (.ofNat 5), .bool false] = some (.bool true) := by kernel_rfl
end Go.Proofs.SlimCode
