/- Cases of LazyDeep. -/
import Derived.Test.YtpieojmepdehcaaGreatErRunB
open Go Go.Abs
namespace Go.Proofs.SlimCode
set_option maxRecDepth 100000
theorem go_2 : runE 5000 (tb 15) 4 [.int .i64 (.ofNat 2)] = some (.bool true) := by kernel_rfl
theorem go_8 : runE 5000 (tb 15) 4 [.int .i64 (.ofNat 8)] = some (.bool true) := by kernel_rfl
theorem go_14 : runE 5000 (tb 15) 4 [.int .i64 (.ofNat 14)] = some (.bool true) := by kernel_rfl
theorem go_20 : runE 5000 (tb 15) 4 [.int .i64 (.ofNat 20)] = some (.bool true) := by kernel_rfl
theorem go_26 : runE 5000 (tb 15) 4 [.int .i64 (.ofNat 26)] = some (.bool true) := by kernel_rfl
theorem go_32 : runE 5000 (tb 15) 4 [.int .i64 (.ofNat 32)] = some (.bool true) := by kernel_rfl
theorem go_38 : runE 5000 (tb 15) 4 [.int .i64 (.ofNat 38)] = some (.bool true) := by kernel_rfl
theorem go_44 : runE 5000 (tb 15) 4 [.int .i64 (.ofNat 44)] = some (.bool true) := by kernel_rfl
theorem go_50 : runE 5000 (tb 15) 4 [.int .i64 (.ofNat 50)] = some (.bool true) := by kernel_rfl
theorem go_56 : runE 5000 (tb 15) 4 [.int .i64 (.ofNat 56)] = some (.bool true) := by kernel_rfl
theorem go_62 : runE 5000 (tb 15) 4 [.int .i64 (.ofNat 62)] = some (.bool true) := by kernel_rfl
theorem go_68 : runE 5000 (tb 15) 4 [.int .i64 (.ofNat 68)] = some (.bool true) := by kernel_rfl
theorem go_74 : runE 5000 (tb 15) 4 [.int .i64 (.ofNat 74)] = some (.bool true) := by kernel_rfl
theorem go_80 : runE 5000 (tb 15) 4 [.int .i64 (.ofNat 80)] = some (.bool true) := by kernel_rfl
end Go.Proofs.SlimCode
