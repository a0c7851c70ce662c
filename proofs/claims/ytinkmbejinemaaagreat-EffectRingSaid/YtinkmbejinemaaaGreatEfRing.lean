/- EffectRing, run: true for all. -/
import Derived.Test.YtinkmbejinemaaaGreatEfRingA
import Derived.Test.YtinkmbejinemaaaGreatEfRingB
import Derived.Test.YtinkmbejinemaaaGreatAbsTyS
open Go Go.Abs
namespace Go.Proofs.SlimCode
set_option maxRecDepth 100000
theorem extok : ExtOK Tryz.prog ann := by
  intro f e h
  replace h : List.lookup f extL = some e := h
  unfold extL at h
  rw [List.lookup_cons] at h
  cases hb : (f == 212) with
  | true =>
    rw [hb] at h
    cases h
    cases eq_of_beq hb
    exact ⟨Tryz.f212, Tryz.func212, by kernel_rfl, by kernel_rfl, by kernel_rfl, by kernel_rfl⟩
  | false =>
  rw [hb] at h
  simp only at h
  cases h

theorem law_run (ps : List AV) (h : TyVs Tryz.prog 4 Tryz.f4.params.toList ps) : ∃ n h' n' lg, callN Tryz.prog ann n 4 ps (fun _ => none) 0 = some (.bool true, h', n', lg) := by
  obtain ⟨a, _, rfl, ha, b, _, rfl, hb, rfl⟩ := h
  obtain ⟨n, rfl, _⟩ := ty_int (P := Tryz.prog) (t := 3) (i := .i64) (by kernel_rfl) ha
  obtain ⟨b, rfl⟩ := ty_bool (P := Tryz.prog) (t := 4) (by kernel_rfl) hb
  refine runE_ok tk12 (k := 5000) ?_
  cases n with
  | negSucc m => exact ring_neg m b
  | ofNat m =>
    by_cases hm : m ≤ 8
    · obtain rfl | rfl | rfl | rfl | rfl | rfl | rfl | rfl | rfl : m = 0 ∨ m = 1 ∨ m = 2 ∨ m = 3 ∨ m = 4 ∨ m = 5 ∨ m = 6 ∨ m = 7 ∨ m = 8 := by omega
      · exact ring_0 b
      · exact ring_1 b
      · cases b with
        | true => exact ring_2_true
        | false => exact ring_2_false
      · cases b with
        | true => exact ring_3_true
        | false => exact ring_3_false
      · cases b with
        | true => exact ring_4_true
        | false => exact ring_4_false
      · cases b with
        | true => exact ring_5_true
        | false => exact ring_5_false
      · cases b with
        | true => exact ring_6_true
        | false => exact ring_6_false
      · cases b with
        | true => exact ring_7_true
        | false => exact ring_7_false
      · cases b with
        | true => exact ring_8_true
        | false => exact ring_8_false
    · obtain ⟨j, rfl⟩ : ∃ j, m = j + 9 := ⟨m - 9, by omega⟩
      exact ring_big j b
end Go.Proofs.SlimCode
