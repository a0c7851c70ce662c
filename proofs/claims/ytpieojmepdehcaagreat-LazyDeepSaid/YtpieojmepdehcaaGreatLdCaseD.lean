/- Cases of LazyDeep. -/
import Derived.Test.YtpieojmepdehcaaGreatErRunB
open Go Go.Abs
namespace Go.Proofs.SlimCode
set_option maxRecDepth 100000
theorem go_3 : runE 5000 (tb 15) 4 [.int .i64 (.ofNat 3)] = some (.bool true) := by kernel_rfl
theorem go_9 : runE 5000 (tb 15) 4 [.int .i64 (.ofNat 9)] = some (.bool true) := by kernel_rfl
theorem go_15 : runE 5000 (tb 15) 4 [.int .i64 (.ofNat 15)] = some (.bool true) := by kernel_rfl
theorem go_21 : runE 5000 (tb 15) 4 [.int .i64 (.ofNat 21)] = some (.bool true) := by kernel_rfl
theorem go_27 : runE 5000 (tb 15) 4 [.int .i64 (.ofNat 27)] = some (.bool true) := by kernel_rfl
theorem go_33 : runE 5000 (tb 15) 4 [.int .i64 (.ofNat 33)] = some (.bool true) := by kernel_rfl
theorem go_39 : runE 5000 (tb 15) 4 [.int .i64 (.ofNat 39)] = some (.bool true) := by kernel_rfl
theorem go_45 : runE 5000 (tb 15) 4 [.int .i64 (.ofNat 45)] = some (.bool true) := by kernel_rfl
theorem go_51 : runE 5000 (tb 15) 4 [.int .i64 (.ofNat 51)] = some (.bool true) := by kernel_rfl
theorem go_57 : runE 5000 (tb 15) 4 [.int .i64 (.ofNat 57)] = some (.bool true) := by kernel_rfl
theorem go_63 : runE 5000 (tb 15) 4 [.int .i64 (.ofNat 63)] = some (.bool true) := by kernel_rfl
theorem go_69 : runE 5000 (tb 15) 4 [.int .i64 (.ofNat 69)] = some (.bool true) := by kernel_rfl
theorem go_75 : runE 5000 (tb 15) 4 [.int .i64 (.ofNat 75)] = some (.bool true) := by kernel_rfl
end Go.Proofs.SlimCode
