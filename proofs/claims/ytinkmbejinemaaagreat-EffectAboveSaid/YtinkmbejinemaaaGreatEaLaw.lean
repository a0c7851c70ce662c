/- EffectAbove, run: true for all. -/
import Derived.Test.YtinkmbejinemaaaGreatEaCaseA
import Derived.Test.YtinkmbejinemaaaGreatEaCaseB
import Derived.Test.YtinkmbejinemaaaGreatEaCaseC
import Derived.Test.YtinkmbejinemaaaGreatEaCaseD
import Derived.Test.YtinkmbejinemaaaGreatEaCaseE
import Derived.Test.YtinkmbejinemaaaGreatAbsTyS
open Go Go.Abs
namespace Go.Proofs.SlimCode
set_option maxRecDepth 100000
theorem extok : ExtOK Tryz.prog ann := by
  intro f e h
  replace h : List.lookup f extL = some e := h
  unfold extL at h
  rw [List.lookup_cons] at h
  cases hb : (f == 212) with
  | true =>
    rw [hb] at h
    cases h
    cases eq_of_beq hb
    exact ⟨Tryz.f212, Tryz.func212, by kernel_rfl, by kernel_rfl, by kernel_rfl, by kernel_rfl⟩
  | false =>
  rw [hb] at h
  simp only at h
  cases h

theorem ab_big (m : Nat) (b : Int) : runE 5000 (tb 12) 6 [.int .i64 (.ofNat (m + 11)), .int .i64 b] = some (.bool true) := by kernel_rfl
theorem ab_neg (m : Nat) (b : Int) : runE 5000 (tb 12) 6 [.int .i64 (.negSucc m), .int .i64 b] = some (.bool true) := by kernel_rfl
theorem ab_0 (b : Int) : runE 5000 (tb 12) 6 [.int .i64 (.ofNat 0), .int .i64 b] = some (.bool true) := by kernel_rfl
theorem ab_1 (b : Int) : runE 5000 (tb 12) 6 [.int .i64 (.ofNat 1), .int .i64 b] = some (.bool true) := by
  cases b with
  | negSucc m => exact ab_1_neg m
  | ofNat m =>
    by_cases hm : m ≤ 1
    · obtain rfl | rfl : m = 0 ∨ m = 1 := by omega
      · exact ab_1_0
      · exact ab_1_1
    · obtain ⟨j, rfl⟩ : ∃ j, m = j + 2 := ⟨m - 2, by omega⟩
      exact ab_1_big j
theorem ab_2 (b : Int) : runE 5000 (tb 12) 6 [.int .i64 (.ofNat 2), .int .i64 b] = some (.bool true) := by
  cases b with
  | negSucc m => exact ab_2_neg m
  | ofNat m =>
    by_cases hm : m ≤ 2
    · obtain rfl | rfl | rfl : m = 0 ∨ m = 1 ∨ m = 2 := by omega
      · exact ab_2_0
      · exact ab_2_1
      · exact ab_2_2
    · obtain ⟨j, rfl⟩ : ∃ j, m = j + 3 := ⟨m - 3, by omega⟩
      exact ab_2_big j
theorem ab_3 (b : Int) : runE 5000 (tb 12) 6 [.int .i64 (.ofNat 3), .int .i64 b] = some (.bool true) := by
  cases b with
  | negSucc m => exact ab_3_neg m
  | ofNat m =>
    by_cases hm : m ≤ 3
    · obtain rfl | rfl | rfl | rfl : m = 0 ∨ m = 1 ∨ m = 2 ∨ m = 3 := by omega
      · exact ab_3_0
      · exact ab_3_1
      · exact ab_3_2
      · exact ab_3_3
    · obtain ⟨j, rfl⟩ : ∃ j, m = j + 4 := ⟨m - 4, by omega⟩
      exact ab_3_big j
theorem ab_4 (b : Int) : runE 5000 (tb 12) 6 [.int .i64 (.ofNat 4), .int .i64 b] = some (.bool true) := by
  cases b with
  | negSucc m => exact ab_4_neg m
  | ofNat m =>
    by_cases hm : m ≤ 4
    · obtain rfl | rfl | rfl | rfl | rfl : m = 0 ∨ m = 1 ∨ m = 2 ∨ m = 3 ∨ m = 4 := by omega
      · exact ab_4_0
      · exact ab_4_1
      · exact ab_4_2
      · exact ab_4_3
      · exact ab_4_4
    · obtain ⟨j, rfl⟩ : ∃ j, m = j + 5 := ⟨m - 5, by omega⟩
      exact ab_4_big j
theorem ab_5 (b : Int) : runE 5000 (tb 12) 6 [.int .i64 (.ofNat 5), .int .i64 b] = some (.bool true) := by
  cases b with
  | negSucc m => exact ab_5_neg m
  | ofNat m =>
    by_cases hm : m ≤ 5
    · obtain rfl | rfl | rfl | rfl | rfl | rfl : m = 0 ∨ m = 1 ∨ m = 2 ∨ m = 3 ∨ m = 4 ∨ m = 5 := by omega
      · exact ab_5_0
      · exact ab_5_1
      · exact ab_5_2
      · exact ab_5_3
      · exact ab_5_4
      · exact ab_5_5
    · obtain ⟨j, rfl⟩ : ∃ j, m = j + 6 := ⟨m - 6, by omega⟩
      exact ab_5_big j
theorem ab_6 (b : Int) : runE 5000 (tb 12) 6 [.int .i64 (.ofNat 6), .int .i64 b] = some (.bool true) := by
  cases b with
  | negSucc m => exact ab_6_neg m
  | ofNat m =>
    by_cases hm : m ≤ 6
    · obtain rfl | rfl | rfl | rfl | rfl | rfl | rfl : m = 0 ∨ m = 1 ∨ m = 2 ∨ m = 3 ∨ m = 4 ∨ m = 5 ∨ m = 6 := by omega
      · exact ab_6_0
      · exact ab_6_1
      · exact ab_6_2
      · exact ab_6_3
      · exact ab_6_4
      · exact ab_6_5
      · exact ab_6_6
    · obtain ⟨j, rfl⟩ : ∃ j, m = j + 7 := ⟨m - 7, by omega⟩
      exact ab_6_big j
theorem ab_7 (b : Int) : runE 5000 (tb 12) 6 [.int .i64 (.ofNat 7), .int .i64 b] = some (.bool true) := by
  cases b with
  | negSucc m => exact ab_7_neg m
  | ofNat m =>
    by_cases hm : m ≤ 7
    · obtain rfl | rfl | rfl | rfl | rfl | rfl | rfl | rfl : m = 0 ∨ m = 1 ∨ m = 2 ∨ m = 3 ∨ m = 4 ∨ m = 5 ∨ m = 6 ∨ m = 7 := by omega
      · exact ab_7_0
      · exact ab_7_1
      · exact ab_7_2
      · exact ab_7_3
      · exact ab_7_4
      · exact ab_7_5
      · exact ab_7_6
      · exact ab_7_7
    · obtain ⟨j, rfl⟩ : ∃ j, m = j + 8 := ⟨m - 8, by omega⟩
      exact ab_7_big j
theorem ab_8 (b : Int) : runE 5000 (tb 12) 6 [.int .i64 (.ofNat 8), .int .i64 b] = some (.bool true) := by
  cases b with
  | negSucc m => exact ab_8_neg m
  | ofNat m =>
    by_cases hm : m ≤ 8
    · obtain rfl | rfl | rfl | rfl | rfl | rfl | rfl | rfl | rfl : m = 0 ∨ m = 1 ∨ m = 2 ∨ m = 3 ∨ m = 4 ∨ m = 5 ∨ m = 6 ∨ m = 7 ∨ m = 8 := by omega
      · exact ab_8_0
      · exact ab_8_1
      · exact ab_8_2
      · exact ab_8_3
      · exact ab_8_4
      · exact ab_8_5
      · exact ab_8_6
      · exact ab_8_7
      · exact ab_8_8
    · obtain ⟨j, rfl⟩ : ∃ j, m = j + 9 := ⟨m - 9, by omega⟩
      exact ab_8_big j
theorem ab_9 (b : Int) : runE 5000 (tb 12) 6 [.int .i64 (.ofNat 9), .int .i64 b] = some (.bool true) := by
  cases b with
  | negSucc m => exact ab_9_neg m
  | ofNat m =>
    by_cases hm : m ≤ 9
    · obtain rfl | rfl | rfl | rfl | rfl | rfl | rfl | rfl | rfl | rfl : m = 0 ∨ m = 1 ∨ m = 2 ∨ m = 3 ∨ m = 4 ∨ m = 5 ∨ m = 6 ∨ m = 7 ∨ m = 8 ∨ m = 9 := by omega
      · exact ab_9_0
      · exact ab_9_1
      · exact ab_9_2
      · exact ab_9_3
      · exact ab_9_4
      · exact ab_9_5
      · exact ab_9_6
      · exact ab_9_7
      · exact ab_9_8
      · exact ab_9_9
    · obtain ⟨j, rfl⟩ : ∃ j, m = j + 10 := ⟨m - 10, by omega⟩
      exact ab_9_big j
theorem ab_10 (b : Int) : runE 5000 (tb 12) 6 [.int .i64 (.ofNat 10), .int .i64 b] = some (.bool true) := by
  cases b with
  | negSucc m => exact ab_10_neg m
  | ofNat m =>
    by_cases hm : m ≤ 10
    · obtain rfl | rfl | rfl | rfl | rfl | rfl | rfl | rfl | rfl | rfl | rfl : m = 0 ∨ m = 1 ∨ m = 2 ∨ m = 3 ∨ m = 4 ∨ m = 5 ∨ m = 6 ∨ m = 7 ∨ m = 8 ∨ m = 9 ∨ m = 10 := by omega
      · exact ab_10_0
      · exact ab_10_1
      · exact ab_10_2
      · exact ab_10_3
      · exact ab_10_4
      · exact ab_10_5
      · exact ab_10_6
      · exact ab_10_7
      · exact ab_10_8
      · exact ab_10_9
      · exact ab_10_10
    · obtain ⟨j, rfl⟩ : ∃ j, m = j + 11 := ⟨m - 11, by omega⟩
      exact ab_10_big j
theorem law_run (ps : List AV) (h : TyVs Tryz.prog 4 Tryz.f6.params.toList ps) : ∃ n h' n' lg, callN Tryz.prog ann n 6 ps (fun _ => none) 0 = some (.bool true, h', n', lg) := by
  obtain ⟨a, _, rfl, ha, b, _, rfl, hb, rfl⟩ := h
  obtain ⟨n, rfl, _⟩ := ty_int (P := Tryz.prog) (t := 3) (i := .i64) (by kernel_rfl) ha
  obtain ⟨b, rfl, _⟩ := ty_int (P := Tryz.prog) (t := 3) (i := .i64) (by kernel_rfl) hb
  refine runE_ok tk12 (k := 5000) ?_
  cases n with
  | negSucc m => exact ab_neg m b
  | ofNat m =>
    by_cases hm : m ≤ 10
    · obtain rfl | rfl | rfl | rfl | rfl | rfl | rfl | rfl | rfl | rfl | rfl : m = 0 ∨ m = 1 ∨ m = 2 ∨ m = 3 ∨ m = 4 ∨ m = 5 ∨ m = 6 ∨ m = 7 ∨ m = 8 ∨ m = 9 ∨ m = 10 := by omega
      · exact ab_0 b
      · exact ab_1 b
      · exact ab_2 b
      · exact ab_3 b
      · exact ab_4 b
      · exact ab_5 b
      · exact ab_6 b
      · exact ab_7 b
      · exact ab_8 b
      · exact ab_9 b
      · exact ab_10 b
    · obtain ⟨j, rfl⟩ : ∃ j, m = j + 11 := ⟨m - 11, by omega⟩
      exact ab_big j b
end Go.Proofs.SlimCode
