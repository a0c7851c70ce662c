/- The runs of VmNone: the machine. -/
import Derived.Test.YtdglniabnomneaaGreatVnRunB
import Derived.Test.YtdglniabnomneaaGreatAbsTyS
open Go Go.Abs
namespace Go.Proofs.SlimCode
set_option maxRecDepth 100000
theorem run9 : runC 5000 (tb 3) 9 [] = some (.bool true) := by kernel_rfl
theorem p9 : PureC Tryz.prog ann 9 [] (.bool true) := runC_pure tk3 (by kernel_rfl) (by kernel_rfl) run9
theorem tk4 : TBok Tryz.prog ann (tb 4) := tbok 4 ⟨fun _ => p14, fun _ => p113, fun _ => p26, fun _ => p9⟩
theorem run4 : runC 5000 (tb 4) 4 [] = some (.bool true) := by kernel_rfl
theorem law_run (ps : List AV) (h : TyVs Tryz.prog 4 Tryz.f4.params.toList ps) : ∃ n h' n' lg, callN Tryz.prog ann n 4 ps (fun _ => none) 0 = some (.bool true, h', n', lg) := by
  have : ps = [] := h
  subst this
  exact runC_ok tk4 run4
end Go.Proofs.SlimCode
