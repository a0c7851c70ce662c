/- ReachNone's law, run: true. -/
import Derived.Test.YtinkmbejinemaaaGreatEfRunA
import Derived.Test.YtinkmbejinemaaaGreatAbsTyS
open Go Go.Abs
namespace Go.Proofs.SlimCode
set_option maxRecDepth 100000
theorem extok : ExtOK Tryz.prog ann := by
  intro f e h
  replace h : List.lookup f extL = some e := h
  unfold extL at h
  rw [List.lookup_cons] at h
  cases hb : (f == 212) with
  | true =>
    rw [hb] at h
    cases h
    cases eq_of_beq hb
    exact ⟨Tryz.f212, Tryz.func212, by kernel_rfl, by kernel_rfl, by kernel_rfl, by kernel_rfl⟩
  | false =>
  rw [hb] at h
  simp only at h
  cases h
theorem run3 : runE 5000 (tb 10) 3 [] = some (.bool true) := by kernel_rfl
theorem law_run (ps : List AV) (h : TyVs Tryz.prog 4 Tryz.f3.params.toList ps) : ∃ n h' n' lg, callN Tryz.prog ann n 3 ps (fun _ => none) 0 = some (.bool true, h', n', lg) := by
  have : ps = [] := h
  subst this
  exact runE_ok tk10 run3
end Go.Proofs.SlimCode
