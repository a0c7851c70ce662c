/- Cases of LazyDeep. -/
import Derived.Test.YtpieojmepdehcaaGreatErRunB
open Go Go.Abs
namespace Go.Proofs.SlimCode
set_option maxRecDepth 100000
theorem go_4 : runE 5000 (tb 15) 4 [.int .i64 (.ofNat 4)] = some (.bool true) := by kernel_rfl
theorem go_10 : runE 5000 (tb 15) 4 [.int .i64 (.ofNat 10)] = some (.bool true) := by kernel_rfl
theorem go_16 : runE 5000 (tb 15) 4 [.int .i64 (.ofNat 16)] = some (.bool true) := by kernel_rfl
theorem go_22 : runE 5000 (tb 15) 4 [.int .i64 (.ofNat 22)] = some (.bool true) := by kernel_rfl
theorem go_28 : runE 5000 (tb 15) 4 [.int .i64 (.ofNat 28)] = some (.bool true) := by kernel_rfl
theorem go_34 : runE 5000 (tb 15) 4 [.int .i64 (.ofNat 34)] = some (.bool true) := by kernel_rfl
theorem go_40 : runE 5000 (tb 15) 4 [.int .i64 (.ofNat 40)] = some (.bool true) := by kernel_rfl
theorem go_46 : runE 5000 (tb 15) 4 [.int .i64 (.ofNat 46)] = some (.bool true) := by kernel_rfl
theorem go_52 : runE 5000 (tb 15) 4 [.int .i64 (.ofNat 52)] = some (.bool true) := by kernel_rfl
theorem go_58 : runE 5000 (tb 15) 4 [.int .i64 (.ofNat 58)] = some (.bool true) := by kernel_rfl
theorem go_64 : runE 5000 (tb 15) 4 [.int .i64 (.ofNat 64)] = some (.bool true) := by kernel_rfl
theorem go_70 : runE 5000 (tb 15) 4 [.int .i64 (.ofNat 70)] = some (.bool true) := by kernel_rfl
theorem go_76 : runE 5000 (tb 15) 4 [.int .i64 (.ofNat 76)] = some (.bool true) := by kernel_rfl
end Go.Proofs.SlimCode
