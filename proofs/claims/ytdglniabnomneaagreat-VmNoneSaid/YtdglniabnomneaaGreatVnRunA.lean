/- The runs of VmNone: what begins it. -/
import Derived.Test.YtdglniabnomneaaGreatVnC2
open Go Go.Abs
namespace Go.Proofs.SlimCode
set_option maxRecDepth 100000
theorem tk0 : TBok Tryz.prog ann (tb 0) := tbok 0 ⟨fun h => absurd h (by decide), fun h => absurd h (by decide), fun h => absurd h (by decide), fun h => absurd h (by decide)⟩
theorem run14 : runC 5000 (tb 0) 14 [] = some (.bool true) := by kernel_rfl
theorem p14 : PureC Tryz.prog ann 14 [] (.bool true) := runC_pure tk0 (by kernel_rfl) (by kernel_rfl) run14
theorem tk1 : TBok Tryz.prog ann (tb 1) := tbok 1 ⟨fun _ => p14, fun h => absurd h (by decide), fun h => absurd h (by decide), fun h => absurd h (by decide)⟩
theorem run113 : runC 5000 (tb 1) 113 [] = some (.bool true) := by kernel_rfl
theorem p113 : PureC Tryz.prog ann 113 [] (.bool true) := runC_pure tk1 (by kernel_rfl) (by kernel_rfl) run113
theorem tk2 : TBok Tryz.prog ann (tb 2) := tbok 2 ⟨fun _ => p14, fun _ => p113, fun h => absurd h (by decide), fun h => absurd h (by decide)⟩
end Go.Proofs.SlimCode
