/- Cases of LazyDeep. -/
import Derived.Test.YtpieojmepdehcaaGreatErRunB
open Go Go.Abs
namespace Go.Proofs.SlimCode
set_option maxRecDepth 100000
theorem go_1 : runE 5000 (tb 15) 4 [.int .i64 (.ofNat 1)] = some (.bool true) := by kernel_rfl
theorem go_7 : runE 5000 (tb 15) 4 [.int .i64 (.ofNat 7)] = some (.bool true) := by kernel_rfl
theorem go_13 : runE 5000 (tb 15) 4 [.int .i64 (.ofNat 13)] = some (.bool true) := by kernel_rfl
theorem go_19 : runE 5000 (tb 15) 4 [.int .i64 (.ofNat 19)] = some (.bool true) := by kernel_rfl
theorem go_25 : runE 5000 (tb 15) 4 [.int .i64 (.ofNat 25)] = some (.bool true) := by kernel_rfl
theorem go_31 : runE 5000 (tb 15) 4 [.int .i64 (.ofNat 31)] = some (.bool true) := by kernel_rfl
theorem go_37 : runE 5000 (tb 15) 4 [.int .i64 (.ofNat 37)] = some (.bool true) := by kernel_rfl
theorem go_43 : runE 5000 (tb 15) 4 [.int .i64 (.ofNat 43)] = some (.bool true) := by kernel_rfl
theorem go_49 : runE 5000 (tb 15) 4 [.int .i64 (.ofNat 49)] = some (.bool true) := by kernel_rfl
theorem go_55 : runE 5000 (tb 15) 4 [.int .i64 (.ofNat 55)] = some (.bool true) := by kernel_rfl
theorem go_61 : runE 5000 (tb 15) 4 [.int .i64 (.ofNat 61)] = some (.bool true) := by kernel_rfl
theorem go_67 : runE 5000 (tb 15) 4 [.int .i64 (.ofNat 67)] = some (.bool true) := by kernel_rfl
theorem go_73 : runE 5000 (tb 15) 4 [.int .i64 (.ofNat 73)] = some (.bool true) := by kernel_rfl
theorem go_79 : runE 5000 (tb 15) 4 [.int .i64 (.ofNat 79)] = some (.bool true) := by kernel_rfl
end Go.Proofs.SlimCode
