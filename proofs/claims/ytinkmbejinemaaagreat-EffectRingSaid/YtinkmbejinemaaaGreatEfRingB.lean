/- Cases of EffectRing. -/
import Derived.Test.YtinkmbejinemaaaGreatEfRunB
open Go Go.Abs
namespace Go.Proofs.SlimCode
set_option maxRecDepth 100000
theorem ring_6_true : runE 5000 (tb 12) 4 [.int .i64 (.ofNat 6), .bool true] = some (.bool true) := by kernel_rfl
theorem ring_6_false : runE 5000 (tb 12) 4 [.int .i64 (.ofNat 6), .bool false] = some (.bool true) := by kernel_rfl
theorem ring_7_true : runE 5000 (tb 12) 4 [.int .i64 (.ofNat 7), .bool true] = some (.bool true) := by kernel_rfl
theorem ring_7_false : runE 5000 (tb 12) 4 [.int .i64 (.ofNat 7), .bool false] = some (.bool true) := by kernel_rfl
theorem ring_8_true : runE 5000 (tb 12) 4 [.int .i64 (.ofNat 8), .bool true] = some (.bool true) := by kernel_rfl
theorem ring_8_false : runE 5000 (tb 12) 4 [.int .i64 (.ofNat 8), .bool false] = some (.bool true) := by kernel_rfl
end Go.Proofs.SlimCode
