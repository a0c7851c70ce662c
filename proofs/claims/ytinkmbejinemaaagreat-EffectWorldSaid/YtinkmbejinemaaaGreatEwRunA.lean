/- The beginnings, run once each. -/
import Derived.Test.YtinkmbejinemaaaGreatEwC2
open Go Go.Abs
namespace Go.Proofs.SlimCode
set_option maxRecDepth 100000
theorem tk0 : TBok2 Tryz.prog ann (tb 0) := tbok 0 ⟨fun h => absurd h (by decide), fun h => absurd h (by decide), fun h => absurd h (by decide), fun h => absurd h (by decide), fun h => absurd h (by decide), fun h => absurd h (by decide), fun h => absurd h (by decide), fun h => absurd h (by decide), fun h => absurd h (by decide), fun h => absurd h (by decide), fun h => absurd h (by decide), fun h => absurd h (by decide), fun h => absurd h (by decide)⟩
theorem run281 : runE 5000 (tb 0) 281 [] = some (.bool true) := by kernel_rfl
theorem p281 : PureC Tryz.prog ann 281 [] (.bool true) := runE_pure tk0 (by kernel_rfl) (by kernel_rfl) run281
theorem tk1 : TBok2 Tryz.prog ann (tb 1) := tbok 1 ⟨fun _ => p281, fun h => absurd h (by decide), fun h => absurd h (by decide), fun h => absurd h (by decide), fun h => absurd h (by decide), fun h => absurd h (by decide), fun h => absurd h (by decide), fun h => absurd h (by decide), fun h => absurd h (by decide), fun h => absurd h (by decide), fun h => absurd h (by decide), fun h => absurd h (by decide), fun h => absurd h (by decide)⟩
theorem run271 : runE 5000 (tb 1) 271 [] = some (.bool true) := by kernel_rfl
theorem p271 : PureC Tryz.prog ann 271 [] (.bool true) := runE_pure tk1 (by kernel_rfl) (by kernel_rfl) run271
theorem tk2 : TBok2 Tryz.prog ann (tb 2) := tbok 2 ⟨fun _ => p281, fun _ => p271, fun h => absurd h (by decide), fun h => absurd h (by decide), fun h => absurd h (by decide), fun h => absurd h (by decide), fun h => absurd h (by decide), fun h => absurd h (by decide), fun h => absurd h (by decide), fun h => absurd h (by decide), fun h => absurd h (by decide), fun h => absurd h (by decide), fun h => absurd h (by decide)⟩
theorem run232 : runE 5000 (tb 2) 232 [] = some (.bool true) := by kernel_rfl
theorem p232 : PureC Tryz.prog ann 232 [] (.bool true) := runE_pure tk2 (by kernel_rfl) (by kernel_rfl) run232
theorem tk3 : TBok2 Tryz.prog ann (tb 3) := tbok 3 ⟨fun _ => p281, fun _ => p271, fun _ => p232, fun h => absurd h (by decide), fun h => absurd h (by decide), fun h => absurd h (by decide), fun h => absurd h (by decide), fun h => absurd h (by decide), fun h => absurd h (by decide), fun h => absurd h (by decide), fun h => absurd h (by decide), fun h => absurd h (by decide), fun h => absurd h (by decide)⟩
theorem run228 : runE 5000 (tb 3) 228 [] = some (.bool true) := by kernel_rfl
theorem p228 : PureC Tryz.prog ann 228 [] (.bool true) := runE_pure tk3 (by kernel_rfl) (by kernel_rfl) run228
theorem tk4 : TBok2 Tryz.prog ann (tb 4) := tbok 4 ⟨fun _ => p281, fun _ => p271, fun _ => p232, fun _ => p228, fun h => absurd h (by decide), fun h => absurd h (by decide), fun h => absurd h (by decide), fun h => absurd h (by decide), fun h => absurd h (by decide), fun h => absurd h (by decide), fun h => absurd h (by decide), fun h => absurd h (by decide), fun h => absurd h (by decide)⟩
theorem run226 : runE 5000 (tb 4) 226 [] = some (.bool true) := by kernel_rfl
theorem p226 : PureC Tryz.prog ann 226 [] (.bool true) := runE_pure tk4 (by kernel_rfl) (by kernel_rfl) run226
theorem tk5 : TBok2 Tryz.prog ann (tb 5) := tbok 5 ⟨fun _ => p281, fun _ => p271, fun _ => p232, fun _ => p228, fun _ => p226, fun h => absurd h (by decide), fun h => absurd h (by decide), fun h => absurd h (by decide), fun h => absurd h (by decide), fun h => absurd h (by decide), fun h => absurd h (by decide), fun h => absurd h (by decide), fun h => absurd h (by decide)⟩
theorem run214 : runE 5000 (tb 5) 214 [] = some (.bool true) := by kernel_rfl
theorem p214 : PureC Tryz.prog ann 214 [] (.bool true) := runE_pure tk5 (by kernel_rfl) (by kernel_rfl) run214
theorem tk6 : TBok2 Tryz.prog ann (tb 6) := tbok 6 ⟨fun _ => p281, fun _ => p271, fun _ => p232, fun _ => p228, fun _ => p226, fun _ => p214, fun h => absurd h (by decide), fun h => absurd h (by decide), fun h => absurd h (by decide), fun h => absurd h (by decide), fun h => absurd h (by decide), fun h => absurd h (by decide), fun h => absurd h (by decide)⟩
theorem run179 : runE 5000 (tb 6) 179 [] = some (.bool true) := by kernel_rfl
theorem p179 : PureC Tryz.prog ann 179 [] (.bool true) := runE_pure tk6 (by kernel_rfl) (by kernel_rfl) run179
theorem tk7 : TBok2 Tryz.prog ann (tb 7) := tbok 7 ⟨fun _ => p281, fun _ => p271, fun _ => p232, fun _ => p228, fun _ => p226, fun _ => p214, fun _ => p179, fun h => absurd h (by decide), fun h => absurd h (by decide), fun h => absurd h (by decide), fun h => absurd h (by decide), fun h => absurd h (by decide), fun h => absurd h (by decide)⟩
theorem run88 : runE 5000 (tb 7) 88 [] = some (.bool true) := by kernel_rfl
theorem p88 : PureC Tryz.prog ann 88 [] (.bool true) := runE_pure tk7 (by kernel_rfl) (by kernel_rfl) run88
theorem tk8 : TBok2 Tryz.prog ann (tb 8) := tbok 8 ⟨fun _ => p281, fun _ => p271, fun _ => p232, fun _ => p228, fun _ => p226, fun _ => p214, fun _ => p179, fun _ => p88, fun h => absurd h (by decide), fun h => absurd h (by decide), fun h => absurd h (by decide), fun h => absurd h (by decide), fun h => absurd h (by decide)⟩
theorem run18 : runE 5000 (tb 8) 18 [] = some (.bool true) := by kernel_rfl
theorem p18 : PureC Tryz.prog ann 18 [] (.bool true) := runE_pure tk8 (by kernel_rfl) (by kernel_rfl) run18
theorem tk9 : TBok2 Tryz.prog ann (tb 9) := tbok 9 ⟨fun _ => p281, fun _ => p271, fun _ => p232, fun _ => p228, fun _ => p226, fun _ => p214, fun _ => p179, fun _ => p88, fun _ => p18, fun h => absurd h (by decide), fun h => absurd h (by decide), fun h => absurd h (by decide), fun h => absurd h (by decide)⟩
theorem run19 : runE 5000 (tb 9) 19 [] = some (.bool true) := by kernel_rfl
theorem p19 : PureC Tryz.prog ann 19 [] (.bool true) := runE_pure tk9 (by kernel_rfl) (by kernel_rfl) run19
theorem tk10 : TBok2 Tryz.prog ann (tb 10) := tbok 10 ⟨fun _ => p281, fun _ => p271, fun _ => p232, fun _ => p228, fun _ => p226, fun _ => p214, fun _ => p179, fun _ => p88, fun _ => p18, fun _ => p19, fun h => absurd h (by decide), fun h => absurd h (by decide), fun h => absurd h (by decide)⟩
end Go.Proofs.SlimCode
