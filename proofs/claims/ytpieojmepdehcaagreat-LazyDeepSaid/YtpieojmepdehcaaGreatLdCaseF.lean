/- Cases of LazyDeep. -/
import Derived.Test.YtpieojmepdehcaaGreatErRunB
open Go Go.Abs
namespace Go.Proofs.SlimCode
set_option maxRecDepth 100000
theorem go_5 : runE 5000 (tb 15) 4 [.int .i64 (.ofNat 5)] = some (.bool true) := by kernel_rfl
theorem go_11 : runE 5000 (tb 15) 4 [.int .i64 (.ofNat 11)] = some (.bool true) := by kernel_rfl
theorem go_17 : runE 5000 (tb 15) 4 [.int .i64 (.ofNat 17)] = some (.bool true) := by kernel_rfl
theorem go_23 : runE 5000 (tb 15) 4 [.int .i64 (.ofNat 23)] = some (.bool true) := by kernel_rfl
theorem go_29 : runE 5000 (tb 15) 4 [.int .i64 (.ofNat 29)] = some (.bool true) := by kernel_rfl
theorem go_35 : runE 5000 (tb 15) 4 [.int .i64 (.ofNat 35)] = some (.bool true) := by kernel_rfl
theorem go_41 : runE 5000 (tb 15) 4 [.int .i64 (.ofNat 41)] = some (.bool true) := by kernel_rfl
theorem go_47 : runE 5000 (tb 15) 4 [.int .i64 (.ofNat 47)] = some (.bool true) := by kernel_rfl
theorem go_53 : runE 5000 (tb 15) 4 [.int .i64 (.ofNat 53)] = some (.bool true) := by kernel_rfl
theorem go_59 : runE 5000 (tb 15) 4 [.int .i64 (.ofNat 59)] = some (.bool true) := by kernel_rfl
theorem go_65 : runE 5000 (tb 15) 4 [.int .i64 (.ofNat 65)] = some (.bool true) := by kernel_rfl
theorem go_71 : runE 5000 (tb 15) 4 [.int .i64 (.ofNat 71)] = some (.bool true) := by kernel_rfl
theorem go_77 : runE 5000 (tb 15) 4 [.int .i64 (.ofNat 77)] = some (.bool true) := by kernel_rfl
end Go.Proofs.SlimCode
