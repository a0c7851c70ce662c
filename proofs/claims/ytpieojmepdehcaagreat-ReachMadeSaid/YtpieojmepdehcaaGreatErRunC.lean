/- The last beginnings. -/
import Derived.Test.YtpieojmepdehcaaGreatErRunB
open Go Go.Abs
namespace Go.Proofs.SlimCode
set_option maxRecDepth 100000
theorem run78 : runE 5000 (tb 15) 78 [] = some (.bool true) := by kernel_rfl
theorem p78 : PureC Tryz.prog ann 78 [] (.bool true) := runE_pure tk15 (by kernel_rfl) (by kernel_rfl) run78
theorem tk16 : TBok2 Tryz.prog ann (tb 16) := tbok 16 ⟨fun _ => p424, fun _ => p407, fun _ => p385, fun _ => p355, fun _ => p341, fun _ => p298, fun _ => p324, fun _ => p261, fun _ => p77, fun _ => p114, fun _ => p296, fun _ => p115, fun _ => p299, fun _ => p116, fun _ => p12, fun _ => p78, fun h => absurd h (by decide), fun h => absurd h (by decide), fun h => absurd h (by decide)⟩
theorem run7 : runE 5000 (tb 16) 7 [] = some (.bool true) := by kernel_rfl
theorem p7 : PureC Tryz.prog ann 7 [] (.bool true) := runE_pure tk16 (by kernel_rfl) (by kernel_rfl) run7
theorem tk17 : TBok2 Tryz.prog ann (tb 17) := tbok 17 ⟨fun _ => p424, fun _ => p407, fun _ => p385, fun _ => p355, fun _ => p341, fun _ => p298, fun _ => p324, fun _ => p261, fun _ => p77, fun _ => p114, fun _ => p296, fun _ => p115, fun _ => p299, fun _ => p116, fun _ => p12, fun _ => p78, fun _ => p7, fun h => absurd h (by decide), fun h => absurd h (by decide)⟩
theorem run158 : runE 5000 (tb 17) 158 [] = some (.bool true) := by kernel_rfl
theorem p158 : PureC Tryz.prog ann 158 [] (.bool true) := runE_pure tk17 (by kernel_rfl) (by kernel_rfl) run158
theorem tk18 : TBok2 Tryz.prog ann (tb 18) := tbok 18 ⟨fun _ => p424, fun _ => p407, fun _ => p385, fun _ => p355, fun _ => p341, fun _ => p298, fun _ => p324, fun _ => p261, fun _ => p77, fun _ => p114, fun _ => p296, fun _ => p115, fun _ => p299, fun _ => p116, fun _ => p12, fun _ => p78, fun _ => p7, fun _ => p158, fun h => absurd h (by decide)⟩
theorem run26 : runE 5000 (tb 18) 26 [] = some (.bool true) := by kernel_rfl
theorem p26 : PureC Tryz.prog ann 26 [] (.bool true) := runE_pure tk18 (by kernel_rfl) (by kernel_rfl) run26
theorem tk19 : TBok2 Tryz.prog ann (tb 19) := tbok 19 ⟨fun _ => p424, fun _ => p407, fun _ => p385, fun _ => p355, fun _ => p341, fun _ => p298, fun _ => p324, fun _ => p261, fun _ => p77, fun _ => p114, fun _ => p296, fun _ => p115, fun _ => p299, fun _ => p116, fun _ => p12, fun _ => p78, fun _ => p7, fun _ => p158, fun _ => p26⟩
end Go.Proofs.SlimCode
