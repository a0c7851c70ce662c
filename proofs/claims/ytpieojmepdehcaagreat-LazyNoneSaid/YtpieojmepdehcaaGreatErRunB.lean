/- Further beginnings. -/
import Derived.Test.YtpieojmepdehcaaGreatErRunA
open Go Go.Abs
namespace Go.Proofs.SlimCode
set_option maxRecDepth 100000
theorem run296 : runE 5000 (tb 10) 296 [] = some (.bool true) := by kernel_rfl
theorem p296 : PureC Tryz.prog ann 296 [] (.bool true) := runE_pure tk10 (by kernel_rfl) (by kernel_rfl) run296
theorem tk11 : TBok2 Tryz.prog ann (tb 11) := tbok 11 ⟨fun _ => p424, fun _ => p407, fun _ => p385, fun _ => p355, fun _ => p341, fun _ => p298, fun _ => p324, fun _ => p261, fun _ => p77, fun _ => p114, fun _ => p296, fun h => absurd h (by decide), fun h => absurd h (by decide), fun h => absurd h (by decide), fun h => absurd h (by decide), fun h => absurd h (by decide), fun h => absurd h (by decide), fun h => absurd h (by decide), fun h => absurd h (by decide)⟩
theorem run115 : runE 5000 (tb 11) 115 [] = some (.bool true) := by kernel_rfl
theorem p115 : PureC Tryz.prog ann 115 [] (.bool true) := runE_pure tk11 (by kernel_rfl) (by kernel_rfl) run115
theorem tk12 : TBok2 Tryz.prog ann (tb 12) := tbok 12 ⟨fun _ => p424, fun _ => p407, fun _ => p385, fun _ => p355, fun _ => p341, fun _ => p298, fun _ => p324, fun _ => p261, fun _ => p77, fun _ => p114, fun _ => p296, fun _ => p115, fun h => absurd h (by decide), fun h => absurd h (by decide), fun h => absurd h (by decide), fun h => absurd h (by decide), fun h => absurd h (by decide), fun h => absurd h (by decide), fun h => absurd h (by decide)⟩
theorem run299 : runE 5000 (tb 12) 299 [] = some (.bool true) := by kernel_rfl
theorem p299 : PureC Tryz.prog ann 299 [] (.bool true) := runE_pure tk12 (by kernel_rfl) (by kernel_rfl) run299
theorem tk13 : TBok2 Tryz.prog ann (tb 13) := tbok 13 ⟨fun _ => p424, fun _ => p407, fun _ => p385, fun _ => p355, fun _ => p341, fun _ => p298, fun _ => p324, fun _ => p261, fun _ => p77, fun _ => p114, fun _ => p296, fun _ => p115, fun _ => p299, fun h => absurd h (by decide), fun h => absurd h (by decide), fun h => absurd h (by decide), fun h => absurd h (by decide), fun h => absurd h (by decide), fun h => absurd h (by decide)⟩
theorem run116 : runE 5000 (tb 13) 116 [] = some (.bool true) := by kernel_rfl
theorem p116 : PureC Tryz.prog ann 116 [] (.bool true) := runE_pure tk13 (by kernel_rfl) (by kernel_rfl) run116
theorem tk14 : TBok2 Tryz.prog ann (tb 14) := tbok 14 ⟨fun _ => p424, fun _ => p407, fun _ => p385, fun _ => p355, fun _ => p341, fun _ => p298, fun _ => p324, fun _ => p261, fun _ => p77, fun _ => p114, fun _ => p296, fun _ => p115, fun _ => p299, fun _ => p116, fun h => absurd h (by decide), fun h => absurd h (by decide), fun h => absurd h (by decide), fun h => absurd h (by decide), fun h => absurd h (by decide)⟩
theorem run12 : runE 5000 (tb 14) 12 [] = some (.bool true) := by kernel_rfl
theorem p12 : PureC Tryz.prog ann 12 [] (.bool true) := runE_pure tk14 (by kernel_rfl) (by kernel_rfl) run12
theorem tk15 : TBok2 Tryz.prog ann (tb 15) := tbok 15 ⟨fun _ => p424, fun _ => p407, fun _ => p385, fun _ => p355, fun _ => p341, fun _ => p298, fun _ => p324, fun _ => p261, fun _ => p77, fun _ => p114, fun _ => p296, fun _ => p115, fun _ => p299, fun _ => p116, fun _ => p12, fun h => absurd h (by decide), fun h => absurd h (by decide), fun h => absurd h (by decide), fun h => absurd h (by decide)⟩
end Go.Proofs.SlimCode
