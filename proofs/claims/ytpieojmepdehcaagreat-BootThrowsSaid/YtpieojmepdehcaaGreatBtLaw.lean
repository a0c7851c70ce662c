/- BootThrows, run: true for both. -/
import Derived.Test.YtpieojmepdehcaaGreatErRunC
import Derived.Test.YtpieojmepdehcaaGreatAbsTyS
open Go Go.Abs
namespace Go.Proofs.SlimCode
set_option maxRecDepth 100000
theorem extok : ExtOK Tryz.prog ann := by
  intro f e h
  replace h : List.lookup f extL = some e := h
  unfold extL at h
  rw [List.lookup_cons] at h
  cases hb : (f == 254) with
  | true =>
    rw [hb] at h
    cases h
    cases eq_of_beq hb
    exact ⟨Tryz.f254, Tryz.func254, by kernel_rfl, by kernel_rfl, by kernel_rfl, by kernel_rfl⟩
  | false =>
  rw [hb] at h
  simp only at h
  rw [List.lookup_cons] at h
  cases hb : (f == 364) with
  | true =>
    rw [hb] at h
    cases h
    cases eq_of_beq hb
    exact ⟨Tryz.f364, Tryz.func364, by kernel_rfl, by kernel_rfl, by kernel_rfl, by kernel_rfl⟩
  | false =>
  rw [hb] at h
  simp only at h
  cases h

theorem go1 : runE 5000 (tb 19) 6 [.bool true] = some (.bool true) := by kernel_rfl
theorem go0 : runE 5000 (tb 19) 6 [.bool false] = some (.bool true) := by kernel_rfl
theorem law_run (ps : List AV) (h : TyVs Tryz.prog 4 Tryz.f6.params.toList ps) : ∃ n h' n' lg, callN Tryz.prog ann n 6 ps (fun _ => none) 0 = some (.bool true, h', n', lg) := by
  obtain ⟨a, _, rfl, ha, rfl⟩ := h
  obtain ⟨b, rfl⟩ := ty_bool (P := Tryz.prog) (t := 4) (by kernel_rfl) ha
  cases b with
  | true => exact runE_ok tk19 (k := 5000) go1
  | false => exact runE_ok tk19 (k := 5000) go0
end Go.Proofs.SlimCode
