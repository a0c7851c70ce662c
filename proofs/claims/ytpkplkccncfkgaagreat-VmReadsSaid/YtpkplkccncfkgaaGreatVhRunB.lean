/- Further beginnings. -/
import Derived.Test.YtpkplkccncfkgaaGreatVhRunA
open Go Go.Abs
namespace Go.Proofs.SlimCode
set_option maxRecDepth 100000
theorem run21 : runE 5000 (tb 10) 21 [] = some (.bool true) := by kernel_rfl
theorem p21 : PureC Tryz.prog ann 21 [] (.bool true) := runE_pure tk10 (by kernel_rfl) (by kernel_rfl) run21
theorem tk11 : TBok2 Tryz.prog ann (tb 11) := tbok 11 ⟨fun _ => p215, fun _ => p212, fun _ => p244, fun _ => p226, fun _ => p216, fun _ => p213, fun _ => p207, fun _ => p188, fun _ => p126, fun _ => p55, fun _ => p21, fun h => absurd h (by decide), fun h => absurd h (by decide), fun h => absurd h (by decide), fun h => absurd h (by decide), fun h => absurd h (by decide), fun h => absurd h (by decide)⟩
theorem run12 : runE 5000 (tb 11) 12 [] = some (.bool true) := by kernel_rfl
theorem p12 : PureC Tryz.prog ann 12 [] (.bool true) := runE_pure tk11 (by kernel_rfl) (by kernel_rfl) run12
theorem tk12 : TBok2 Tryz.prog ann (tb 12) := tbok 12 ⟨fun _ => p215, fun _ => p212, fun _ => p244, fun _ => p226, fun _ => p216, fun _ => p213, fun _ => p207, fun _ => p188, fun _ => p126, fun _ => p55, fun _ => p21, fun _ => p12, fun h => absurd h (by decide), fun h => absurd h (by decide), fun h => absurd h (by decide), fun h => absurd h (by decide), fun h => absurd h (by decide)⟩
theorem run22 : runE 5000 (tb 12) 22 [] = some (.bool true) := by kernel_rfl
theorem p22 : PureC Tryz.prog ann 22 [] (.bool true) := runE_pure tk12 (by kernel_rfl) (by kernel_rfl) run22
theorem tk13 : TBok2 Tryz.prog ann (tb 13) := tbok 13 ⟨fun _ => p215, fun _ => p212, fun _ => p244, fun _ => p226, fun _ => p216, fun _ => p213, fun _ => p207, fun _ => p188, fun _ => p126, fun _ => p55, fun _ => p21, fun _ => p12, fun _ => p22, fun h => absurd h (by decide), fun h => absurd h (by decide), fun h => absurd h (by decide), fun h => absurd h (by decide)⟩
theorem run13 : runE 5000 (tb 13) 13 [] = some (.bool true) := by kernel_rfl
theorem p13 : PureC Tryz.prog ann 13 [] (.bool true) := runE_pure tk13 (by kernel_rfl) (by kernel_rfl) run13
theorem tk14 : TBok2 Tryz.prog ann (tb 14) := tbok 14 ⟨fun _ => p215, fun _ => p212, fun _ => p244, fun _ => p226, fun _ => p216, fun _ => p213, fun _ => p207, fun _ => p188, fun _ => p126, fun _ => p55, fun _ => p21, fun _ => p12, fun _ => p22, fun _ => p13, fun h => absurd h (by decide), fun h => absurd h (by decide), fun h => absurd h (by decide)⟩
theorem run23 : runE 5000 (tb 14) 23 [] = some (.bool true) := by kernel_rfl
theorem p23 : PureC Tryz.prog ann 23 [] (.bool true) := runE_pure tk14 (by kernel_rfl) (by kernel_rfl) run23
theorem tk15 : TBok2 Tryz.prog ann (tb 15) := tbok 15 ⟨fun _ => p215, fun _ => p212, fun _ => p244, fun _ => p226, fun _ => p216, fun _ => p213, fun _ => p207, fun _ => p188, fun _ => p126, fun _ => p55, fun _ => p21, fun _ => p12, fun _ => p22, fun _ => p13, fun _ => p23, fun h => absurd h (by decide), fun h => absurd h (by decide)⟩
theorem run14 : runE 5000 (tb 15) 14 [] = some (.bool true) := by kernel_rfl
theorem p14 : PureC Tryz.prog ann 14 [] (.bool true) := runE_pure tk15 (by kernel_rfl) (by kernel_rfl) run14
theorem tk16 : TBok2 Tryz.prog ann (tb 16) := tbok 16 ⟨fun _ => p215, fun _ => p212, fun _ => p244, fun _ => p226, fun _ => p216, fun _ => p213, fun _ => p207, fun _ => p188, fun _ => p126, fun _ => p55, fun _ => p21, fun _ => p12, fun _ => p22, fun _ => p13, fun _ => p23, fun _ => p14, fun h => absurd h (by decide)⟩
theorem run5 : runE 5000 (tb 16) 5 [] = some (.bool true) := by kernel_rfl
theorem p5 : PureC Tryz.prog ann 5 [] (.bool true) := runE_pure tk16 (by kernel_rfl) (by kernel_rfl) run5
theorem tk17 : TBok2 Tryz.prog ann (tb 17) := tbok 17 ⟨fun _ => p215, fun _ => p212, fun _ => p244, fun _ => p226, fun _ => p216, fun _ => p213, fun _ => p207, fun _ => p188, fun _ => p126, fun _ => p55, fun _ => p21, fun _ => p12, fun _ => p22, fun _ => p13, fun _ => p23, fun _ => p14, fun _ => p5⟩
end Go.Proofs.SlimCode
