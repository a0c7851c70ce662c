/- Cases of LazyDeep. -/
import Derived.Test.YtpieojmepdehcaaGreatErRunB
open Go Go.Abs
namespace Go.Proofs.SlimCode
set_option maxRecDepth 100000
theorem go_0 : runE 5000 (tb 15) 4 [.int .i64 (.ofNat 0)] = some (.bool true) := by kernel_rfl
theorem go_6 : runE 5000 (tb 15) 4 [.int .i64 (.ofNat 6)] = some (.bool true) := by kernel_rfl
theorem go_12 : runE 5000 (tb 15) 4 [.int .i64 (.ofNat 12)] = some (.bool true) := by kernel_rfl
theorem go_18 : runE 5000 (tb 15) 4 [.int .i64 (.ofNat 18)] = some (.bool true) := by kernel_rfl
theorem go_24 : runE 5000 (tb 15) 4 [.int .i64 (.ofNat 24)] = some (.bool true) := by kernel_rfl
theorem go_30 : runE 5000 (tb 15) 4 [.int .i64 (.ofNat 30)] = some (.bool true) := by kernel_rfl
theorem go_36 : runE 5000 (tb 15) 4 [.int .i64 (.ofNat 36)] = some (.bool true) := by kernel_rfl
theorem go_42 : runE 5000 (tb 15) 4 [.int .i64 (.ofNat 42)] = some (.bool true) := by kernel_rfl
theorem go_48 : runE 5000 (tb 15) 4 [.int .i64 (.ofNat 48)] = some (.bool true) := by kernel_rfl
theorem go_54 : runE 5000 (tb 15) 4 [.int .i64 (.ofNat 54)] = some (.bool true) := by kernel_rfl
theorem go_60 : runE 5000 (tb 15) 4 [.int .i64 (.ofNat 60)] = some (.bool true) := by kernel_rfl
theorem go_66 : runE 5000 (tb 15) 4 [.int .i64 (.ofNat 66)] = some (.bool true) := by kernel_rfl
theorem go_72 : runE 5000 (tb 15) 4 [.int .i64 (.ofNat 72)] = some (.bool true) := by kernel_rfl
theorem go_78 : runE 5000 (tb 15) 4 [.int .i64 (.ofNat 78)] = some (.bool true) := by kernel_rfl
end Go.Proofs.SlimCode
