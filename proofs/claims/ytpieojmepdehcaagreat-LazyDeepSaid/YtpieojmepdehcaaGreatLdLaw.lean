/- LazyDeep, run: true for all. -/
import Derived.Test.YtpieojmepdehcaaGreatLdCaseA
import Derived.Test.YtpieojmepdehcaaGreatLdCaseB
import Derived.Test.YtpieojmepdehcaaGreatLdCaseC
import Derived.Test.YtpieojmepdehcaaGreatLdCaseD
import Derived.Test.YtpieojmepdehcaaGreatLdCaseE
import Derived.Test.YtpieojmepdehcaaGreatLdCaseF
import Derived.Test.YtpieojmepdehcaaGreatErRunB
import Derived.Test.YtpieojmepdehcaaGreatAbsTyS
open Go Go.Abs
namespace Go.Proofs.SlimCode
set_option maxRecDepth 100000
theorem extok : ExtOK Tryz.prog ann := by
  intro f e h
  replace h : List.lookup f extL = some e := h
  unfold extL at h
  rw [List.lookup_cons] at h
  cases hb : (f == 254) with
  | true =>
    rw [hb] at h
    cases h
    cases eq_of_beq hb
    exact ⟨Tryz.f254, Tryz.func254, by kernel_rfl, by kernel_rfl, by kernel_rfl, by kernel_rfl⟩
  | false =>
  rw [hb] at h
  simp only at h
  rw [List.lookup_cons] at h
  cases hb : (f == 364) with
  | true =>
    rw [hb] at h
    cases h
    cases eq_of_beq hb
    exact ⟨Tryz.f364, Tryz.func364, by kernel_rfl, by kernel_rfl, by kernel_rfl, by kernel_rfl⟩
  | false =>
  rw [hb] at h
  simp only at h
  cases h

theorem go_big (m : Nat) : runE 5000 (tb 15) 4 [.int .i64 (.ofNat (m + 81))] = some (.bool true) := by kernel_rfl
theorem go_neg (m : Nat) : runE 5000 (tb 15) 4 [.int .i64 (.negSucc m)] = some (.bool true) := by kernel_rfl
theorem g0 (b : Nat) (hb : b < 9) : runE 5000 (tb 15) 4 [.int .i64 (.ofNat (9 * 0 + b))] = some (.bool true) := by
  match b, hb with
  | 0, _ => exact go_0
  | 1, _ => exact go_1
  | 2, _ => exact go_2
  | 3, _ => exact go_3
  | 4, _ => exact go_4
  | 5, _ => exact go_5
  | 6, _ => exact go_6
  | 7, _ => exact go_7
  | 8, _ => exact go_8
  | b + 9, h => exact absurd h (by omega)
theorem g1 (b : Nat) (hb : b < 9) : runE 5000 (tb 15) 4 [.int .i64 (.ofNat (9 * 1 + b))] = some (.bool true) := by
  match b, hb with
  | 0, _ => exact go_9
  | 1, _ => exact go_10
  | 2, _ => exact go_11
  | 3, _ => exact go_12
  | 4, _ => exact go_13
  | 5, _ => exact go_14
  | 6, _ => exact go_15
  | 7, _ => exact go_16
  | 8, _ => exact go_17
  | b + 9, h => exact absurd h (by omega)
theorem g2 (b : Nat) (hb : b < 9) : runE 5000 (tb 15) 4 [.int .i64 (.ofNat (9 * 2 + b))] = some (.bool true) := by
  match b, hb with
  | 0, _ => exact go_18
  | 1, _ => exact go_19
  | 2, _ => exact go_20
  | 3, _ => exact go_21
  | 4, _ => exact go_22
  | 5, _ => exact go_23
  | 6, _ => exact go_24
  | 7, _ => exact go_25
  | 8, _ => exact go_26
  | b + 9, h => exact absurd h (by omega)
theorem g3 (b : Nat) (hb : b < 9) : runE 5000 (tb 15) 4 [.int .i64 (.ofNat (9 * 3 + b))] = some (.bool true) := by
  match b, hb with
  | 0, _ => exact go_27
  | 1, _ => exact go_28
  | 2, _ => exact go_29
  | 3, _ => exact go_30
  | 4, _ => exact go_31
  | 5, _ => exact go_32
  | 6, _ => exact go_33
  | 7, _ => exact go_34
  | 8, _ => exact go_35
  | b + 9, h => exact absurd h (by omega)
theorem g4 (b : Nat) (hb : b < 9) : runE 5000 (tb 15) 4 [.int .i64 (.ofNat (9 * 4 + b))] = some (.bool true) := by
  match b, hb with
  | 0, _ => exact go_36
  | 1, _ => exact go_37
  | 2, _ => exact go_38
  | 3, _ => exact go_39
  | 4, _ => exact go_40
  | 5, _ => exact go_41
  | 6, _ => exact go_42
  | 7, _ => exact go_43
  | 8, _ => exact go_44
  | b + 9, h => exact absurd h (by omega)
theorem g5 (b : Nat) (hb : b < 9) : runE 5000 (tb 15) 4 [.int .i64 (.ofNat (9 * 5 + b))] = some (.bool true) := by
  match b, hb with
  | 0, _ => exact go_45
  | 1, _ => exact go_46
  | 2, _ => exact go_47
  | 3, _ => exact go_48
  | 4, _ => exact go_49
  | 5, _ => exact go_50
  | 6, _ => exact go_51
  | 7, _ => exact go_52
  | 8, _ => exact go_53
  | b + 9, h => exact absurd h (by omega)
theorem g6 (b : Nat) (hb : b < 9) : runE 5000 (tb 15) 4 [.int .i64 (.ofNat (9 * 6 + b))] = some (.bool true) := by
  match b, hb with
  | 0, _ => exact go_54
  | 1, _ => exact go_55
  | 2, _ => exact go_56
  | 3, _ => exact go_57
  | 4, _ => exact go_58
  | 5, _ => exact go_59
  | 6, _ => exact go_60
  | 7, _ => exact go_61
  | 8, _ => exact go_62
  | b + 9, h => exact absurd h (by omega)
theorem g7 (b : Nat) (hb : b < 9) : runE 5000 (tb 15) 4 [.int .i64 (.ofNat (9 * 7 + b))] = some (.bool true) := by
  match b, hb with
  | 0, _ => exact go_63
  | 1, _ => exact go_64
  | 2, _ => exact go_65
  | 3, _ => exact go_66
  | 4, _ => exact go_67
  | 5, _ => exact go_68
  | 6, _ => exact go_69
  | 7, _ => exact go_70
  | 8, _ => exact go_71
  | b + 9, h => exact absurd h (by omega)
theorem g8 (b : Nat) (hb : b < 9) : runE 5000 (tb 15) 4 [.int .i64 (.ofNat (9 * 8 + b))] = some (.bool true) := by
  match b, hb with
  | 0, _ => exact go_72
  | 1, _ => exact go_73
  | 2, _ => exact go_74
  | 3, _ => exact go_75
  | 4, _ => exact go_76
  | 5, _ => exact go_77
  | 6, _ => exact go_78
  | 7, _ => exact go_79
  | 8, _ => exact go_80
  | b + 9, h => exact absurd h (by omega)
theorem law_run (ps : List AV) (h : TyVs Tryz.prog 4 Tryz.f4.params.toList ps) : ∃ n h' n' lg, callN Tryz.prog ann n 4 ps (fun _ => none) 0 = some (.bool true, h', n', lg) := by
  obtain ⟨a, _, rfl, ha, rfl⟩ := h
  obtain ⟨n, rfl, _⟩ := ty_int (P := Tryz.prog) (t := 3) (i := .i64) (by kernel_rfl) ha
  refine runE_ok tk15 (k := 5000) ?_
  cases n with
  | negSucc m => exact go_neg m
  | ofNat m =>
    by_cases hm : m ≤ 80
    · obtain ⟨a, b, ha, hb, rfl⟩ : ∃ a b, a < 9 ∧ b < 9 ∧ m = 9 * a + b := ⟨m / 9, m % 9, by omega, by omega, by omega⟩
      match a, ha with
      | 0, _ => exact g0 b hb
      | 1, _ => exact g1 b hb
      | 2, _ => exact g2 b hb
      | 3, _ => exact g3 b hb
      | 4, _ => exact g4 b hb
      | 5, _ => exact g5 b hb
      | 6, _ => exact g6 b hb
      | 7, _ => exact g7 b hb
      | 8, _ => exact g8 b hb
      | a + 9, h => exact absurd h (by omega)
    · obtain ⟨j, rfl⟩ : ∃ j, m = j + 81 := ⟨m - 81, by omega⟩
      exact go_big j
end Go.Proofs.SlimCode
