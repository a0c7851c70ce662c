/- The runs of VmNone: loading. -/
import Derived.Test.YtdglniabnomneaaGreatVnRunA
open Go Go.Abs
namespace Go.Proofs.SlimCode
set_option maxRecDepth 100000
theorem run26 : runC 5000 (tb 2) 26 [] = some (.bool true) := by kernel_rfl
theorem p26 : PureC Tryz.prog ann 26 [] (.bool true) := runC_pure tk2 (by kernel_rfl) (by kernel_rfl) run26
theorem tk3 : TBok Tryz.prog ann (tb 3) := tbok 3 ⟨fun _ => p14, fun _ => p113, fun _ => p26, fun h => absurd h (by decide)⟩
end Go.Proofs.SlimCode
