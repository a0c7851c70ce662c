/- The last beginnings. -/
import Derived.Test.YtinkmbejinemaaaGreatEwRunA
open Go Go.Abs
namespace Go.Proofs.SlimCode
set_option maxRecDepth 100000
theorem run24 : runE 5000 (tb 10) 24 [] = some (.bool true) := by kernel_rfl
theorem p24 : PureC Tryz.prog ann 24 [] (.bool true) := runE_pure tk10 (by kernel_rfl) (by kernel_rfl) run24
theorem tk11 : TBok2 Tryz.prog ann (tb 11) := tbok 11 ⟨fun _ => p281, fun _ => p271, fun _ => p232, fun _ => p228, fun _ => p226, fun _ => p214, fun _ => p179, fun _ => p88, fun _ => p18, fun _ => p19, fun _ => p24, fun h => absurd h (by decide), fun h => absurd h (by decide)⟩
theorem run11 : runE 5000 (tb 11) 11 [] = some (.bool true) := by kernel_rfl
theorem p11 : PureC Tryz.prog ann 11 [] (.bool true) := runE_pure tk11 (by kernel_rfl) (by kernel_rfl) run11
theorem tk12 : TBok2 Tryz.prog ann (tb 12) := tbok 12 ⟨fun _ => p281, fun _ => p271, fun _ => p232, fun _ => p228, fun _ => p226, fun _ => p214, fun _ => p179, fun _ => p88, fun _ => p18, fun _ => p19, fun _ => p24, fun _ => p11, fun h => absurd h (by decide)⟩
end Go.Proofs.SlimCode
