/- ValidRing's law, run: true for all. -/
import Derived.Test.YtdglniabnomneaaGreatVrCases
import Derived.Test.YtdglniabnomneaaGreatAbsTy
set_option maxRecDepth 100000
open Go Go.Abs
namespace Go.Proofs.SlimCode
theorem law_run (ps : List AV) (h : TyVs Tryz.prog 4 Tryz.f3.params.toList ps) : ∃ n h' n' lg, callN Tryz.prog ann n 3 ps (fun _ => none) 0 = some (.bool true, h', n', lg) := by
  obtain ⟨a, _, rfl, ha, b, _, rfl, hb, rfl⟩ := h
  obtain ⟨n, rfl, _⟩ := ty_int (P := Tryz.prog) (t := 3) (i := .i64) (by kernel_rfl) ha
  obtain ⟨b, rfl⟩ := ty_bool (P := Tryz.prog) (t := 4) (by kernel_rfl) hb
  refine runC_ok tk2 (k := 5000) ?_
  cases n with
  | negSucc m => exact neg m b
  | ofNat m =>
    by_cases hm : m ≤ 10
    · obtain rfl | rfl | rfl | rfl | rfl | rfl | rfl | rfl | rfl | rfl | rfl : m = 0 ∨ m = 1 ∨ m = 2 ∨ m = 3 ∨ m = 4 ∨ m = 5 ∨ m = 6 ∨ m = 7 ∨ m = 8 ∨ m = 9 ∨ m = 10 := by omega
      · exact nul b
      · cases b with
        | true => exact c1_true
        | false => exact c1_false
      · cases b with
        | true => exact c2_true
        | false => exact c2_false
      · cases b with
        | true => exact c3_true
        | false => exact c3_false
      · cases b with
        | true => exact c4_true
        | false => exact c4_false
      · cases b with
        | true => exact c5_true
        | false => exact c5_false
      · cases b with
        | true => exact c6_true
        | false => exact c6_false
      · cases b with
        | true => exact c7_true
        | false => exact c7_false
      · cases b with
        | true => exact c8_true
        | false => exact c8_false
      · cases b with
        | true => exact c9_true
        | false => exact c9_false
      · cases b with
        | true => exact c10_true
        | false => exact c10_false
    · obtain ⟨j, rfl⟩ : ∃ j, m = j + 11 := ⟨m - 11, by omega⟩
      exact big j b
end Go.Proofs.SlimCode
