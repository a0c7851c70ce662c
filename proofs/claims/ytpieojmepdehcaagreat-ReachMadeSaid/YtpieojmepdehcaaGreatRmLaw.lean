/- ReachMade, run: true for all. -/
import Derived.Test.YtpieojmepdehcaaGreatRmCaseA
import Derived.Test.YtpieojmepdehcaaGreatRmCaseB
import Derived.Test.YtpieojmepdehcaaGreatRmCaseC
import Derived.Test.YtpieojmepdehcaaGreatRmCaseD
import Derived.Test.YtpieojmepdehcaaGreatAbsTyS
open Go Go.Abs
namespace Go.Proofs.SlimCode
set_option maxRecDepth 100000
theorem extok : ExtOK Tryz.prog ann := by
  intro f e h
  replace h : List.lookup f extL = some e := h
  unfold extL at h
  rw [List.lookup_cons] at h
  cases hb : (f == 254) with
  | true =>
    rw [hb] at h
    cases h
    cases eq_of_beq hb
    exact ⟨Tryz.f254, Tryz.func254, by kernel_rfl, by kernel_rfl, by kernel_rfl, by kernel_rfl⟩
  | false =>
  rw [hb] at h
  simp only at h
  rw [List.lookup_cons] at h
  cases hb : (f == 364) with
  | true =>
    rw [hb] at h
    cases h
    cases eq_of_beq hb
    exact ⟨Tryz.f364, Tryz.func364, by kernel_rfl, by kernel_rfl, by kernel_rfl, by kernel_rfl⟩
  | false =>
  rw [hb] at h
  simp only at h
  cases h

theorem w_n2 (T : List AV → Bool) (d : Int) (a : AV) (h : a = .nil .sl ∨ ∃ bs : List Bool, a = .tsl (bs.map .bool) bs.length) : W T (.int .i64 (.negSucc 1)) [a, .int .i64 d] = q1 (T [.int .i64 d, ci 3, ci 21]) := by
  rcases h with rfl | ⟨bs, rfl⟩
  · exact w_n2_nil T d
  · match bs with
    | [] => exact w_n2_0_ T d
    | [false] => exact w_n2_1_0 T d
    | [true] => exact w_n2_1_1 T d
    | [false, false] => exact w_n2_2_00 T d
    | [false, true] => exact w_n2_2_01 T d
    | [true, false] => exact w_n2_2_10 T d
    | [true, true] => exact w_n2_2_11 T d
    | false :: false :: false :: bs => exact w_n2_3_000 T (bs.map .bool) bs.length d
    | false :: false :: true :: bs => exact w_n2_3_001 T (bs.map .bool) bs.length d
    | false :: true :: false :: bs => exact w_n2_3_010 T (bs.map .bool) bs.length d
    | false :: true :: true :: bs => exact w_n2_3_011 T (bs.map .bool) bs.length d
    | true :: false :: false :: bs => exact w_n2_3_100 T (bs.map .bool) bs.length d
    | true :: false :: true :: bs => exact w_n2_3_101 T (bs.map .bool) bs.length d
    | true :: true :: false :: bs => exact w_n2_3_110 T (bs.map .bool) bs.length d
    | true :: true :: true :: bs => exact w_n2_3_111 T (bs.map .bool) bs.length d
theorem w_n1 (T : List AV → Bool) (d : Int) (a : AV) (h : a = .nil .sl ∨ ∃ bs : List Bool, a = .tsl (bs.map .bool) bs.length) : W T (.int .i64 (.negSucc 0)) [a, .int .i64 d] = q1 (T [.int .i64 d, ci 3, ci 21]) := by
  rcases h with rfl | ⟨bs, rfl⟩
  · exact w_n1_nil T d
  · match bs with
    | [] => exact w_n1_0_ T d
    | [false] => exact w_n1_1_0 T d
    | [true] => exact w_n1_1_1 T d
    | [false, false] => exact w_n1_2_00 T d
    | [false, true] => exact w_n1_2_01 T d
    | [true, false] => exact w_n1_2_10 T d
    | [true, true] => exact w_n1_2_11 T d
    | false :: false :: false :: bs => exact w_n1_3_000 T (bs.map .bool) bs.length d
    | false :: false :: true :: bs => exact w_n1_3_001 T (bs.map .bool) bs.length d
    | false :: true :: false :: bs => exact w_n1_3_010 T (bs.map .bool) bs.length d
    | false :: true :: true :: bs => exact w_n1_3_011 T (bs.map .bool) bs.length d
    | true :: false :: false :: bs => exact w_n1_3_100 T (bs.map .bool) bs.length d
    | true :: false :: true :: bs => exact w_n1_3_101 T (bs.map .bool) bs.length d
    | true :: true :: false :: bs => exact w_n1_3_110 T (bs.map .bool) bs.length d
    | true :: true :: true :: bs => exact w_n1_3_111 T (bs.map .bool) bs.length d
theorem w_p0 (T : List AV → Bool) (d : Int) (a : AV) (h : a = .nil .sl ∨ ∃ bs : List Bool, a = .tsl (bs.map .bool) bs.length) : W T (.int .i64 (.ofNat 0)) [a, .int .i64 d] = q1 (T [.int .i64 d, ci 3, ci 21]) := by
  rcases h with rfl | ⟨bs, rfl⟩
  · exact w_p0_nil T d
  · match bs with
    | [] => exact w_p0_0_ T d
    | [false] => exact w_p0_1_0 T d
    | [true] => exact w_p0_1_1 T d
    | [false, false] => exact w_p0_2_00 T d
    | [false, true] => exact w_p0_2_01 T d
    | [true, false] => exact w_p0_2_10 T d
    | [true, true] => exact w_p0_2_11 T d
    | false :: false :: false :: bs => exact w_p0_3_000 T (bs.map .bool) bs.length d
    | false :: false :: true :: bs => exact w_p0_3_001 T (bs.map .bool) bs.length d
    | false :: true :: false :: bs => exact w_p0_3_010 T (bs.map .bool) bs.length d
    | false :: true :: true :: bs => exact w_p0_3_011 T (bs.map .bool) bs.length d
    | true :: false :: false :: bs => exact w_p0_3_100 T (bs.map .bool) bs.length d
    | true :: false :: true :: bs => exact w_p0_3_101 T (bs.map .bool) bs.length d
    | true :: true :: false :: bs => exact w_p0_3_110 T (bs.map .bool) bs.length d
    | true :: true :: true :: bs => exact w_p0_3_111 T (bs.map .bool) bs.length d
theorem w_p1 (T : List AV → Bool) (d : Int) (a : AV) (h : a = .nil .sl ∨ ∃ bs : List Bool, a = .tsl (bs.map .bool) bs.length) : W T (.int .i64 (.ofNat 1)) [a, .int .i64 d] = q1 (T [.int .i64 d, ci 3, ci 21]) := by
  rcases h with rfl | ⟨bs, rfl⟩
  · exact w_p1_nil T d
  · match bs with
    | [] => exact w_p1_0_ T d
    | [false] => exact w_p1_1_0 T d
    | [true] => exact w_p1_1_1 T d
    | [false, false] => exact w_p1_2_00 T d
    | [false, true] => exact w_p1_2_01 T d
    | [true, false] => exact w_p1_2_10 T d
    | [true, true] => exact w_p1_2_11 T d
    | false :: false :: false :: bs => exact w_p1_3_000 T (bs.map .bool) bs.length d
    | false :: false :: true :: bs => exact w_p1_3_001 T (bs.map .bool) bs.length d
    | false :: true :: false :: bs => exact w_p1_3_010 T (bs.map .bool) bs.length d
    | false :: true :: true :: bs => exact w_p1_3_011 T (bs.map .bool) bs.length d
    | true :: false :: false :: bs => exact w_p1_3_100 T (bs.map .bool) bs.length d
    | true :: false :: true :: bs => exact w_p1_3_101 T (bs.map .bool) bs.length d
    | true :: true :: false :: bs => exact w_p1_3_110 T (bs.map .bool) bs.length d
    | true :: true :: true :: bs => exact w_p1_3_111 T (bs.map .bool) bs.length d
theorem w_p2 (T : List AV → Bool) (d : Int) (a : AV) (h : a = .nil .sl ∨ ∃ bs : List Bool, a = .tsl (bs.map .bool) bs.length) : W T (.int .i64 (.ofNat 2)) [a, .int .i64 d] = q1 (T [.int .i64 d, ci 3, ci 21]) := by
  rcases h with rfl | ⟨bs, rfl⟩
  · exact w_p2_nil T d
  · match bs with
    | [] => exact w_p2_0_ T d
    | [false] => exact w_p2_1_0 T d
    | [true] => exact w_p2_1_1 T d
    | [false, false] => exact w_p2_2_00 T d
    | [false, true] => exact w_p2_2_01 T d
    | [true, false] => exact w_p2_2_10 T d
    | [true, true] => exact w_p2_2_11 T d
    | false :: false :: false :: bs => exact w_p2_3_000 T (bs.map .bool) bs.length d
    | false :: false :: true :: bs => exact w_p2_3_001 T (bs.map .bool) bs.length d
    | false :: true :: false :: bs => exact w_p2_3_010 T (bs.map .bool) bs.length d
    | false :: true :: true :: bs => exact w_p2_3_011 T (bs.map .bool) bs.length d
    | true :: false :: false :: bs => exact w_p2_3_100 T (bs.map .bool) bs.length d
    | true :: false :: true :: bs => exact w_p2_3_101 T (bs.map .bool) bs.length d
    | true :: true :: false :: bs => exact w_p2_3_110 T (bs.map .bool) bs.length d
    | true :: true :: true :: bs => exact w_p2_3_111 T (bs.map .bool) bs.length d
theorem w_of (T : List AV → Bool) (v : AV) (vs : List AV) : callF F3 (orR 21 (orP T v) (callE (tb 17) 5000)) 5000 vs hs0 (fun v _ => some v) = W T v vs := by kernel_rfl
theorem law_run (ps : List AV) (h : TyVs Tryz.prog 4 Tryz.f3.params.toList ps) : ∃ n h' n' lg, callN Tryz.prog ann n 3 ps (fun _ => none) 0 = some (.bool true, h', n', lg) := by
  obtain ⟨a, _, rfl, ha, b, _, rfl, hb, rfl⟩ := h
  have ha := ty_bools (P := Tryz.prog) (t := 22) (e := 4) (by kernel_rfl) (by kernel_rfl) ha
  obtain ⟨d, rfl, _⟩ := ty_int (P := Tryz.prog) (t := 3) (i := .i64) (by kernel_rfl) hb
  let T : List AV → Bool := fun vs => @decide (vs = [.int .i64 d, ci 3, ci 21]) (Classical.propDecidable _)
  have h0 : T [.int .i64 d, ci 3, ci 21] = true := @decide_eq_true _ (Classical.propDecidable _) rfl
  have k0 : ∀ vs, T vs = true → vs = [.int .i64 d, ci 3, ci 21] := fun vs hx => @of_decide_eq_true _ (Classical.propDecidable _) hx
  have c0 : CLok Tryz.prog ann (orR 21 (orP T (.int .i64 (d.tmod 3))) (callE (tb 17) 5000)) := orR_ok (orP_rem k0 fun K => bRem_int d 2 K) (callE_ok tk17 5000)
  refine orun_ok (fe2_of fe3) c0 (kk := 5000) ((w_of T _ _).trans ?_)
  have fin : q1 (T [.int .i64 d, ci 3, ci 21]) = some (.bool true) := by rw [h0]; rfl
  refine Eq.trans ?_ fin
  have b1 : -3 < d.tmod 3 := by have := Int.lt_tmod_of_pos d (b := 3) (by omega); omega
  have b2 : d.tmod 3 < 3 := Int.tmod_lt_of_pos d (by omega)
  generalize d.tmod 3 = r at b1 b2
  obtain rfl | rfl | rfl | rfl | rfl : r = -2 ∨ r = -1 ∨ r = 0 ∨ r = 1 ∨ r = 2 := by omega
  · exact w_n2 T d a ha
  · exact w_n1 T d a ha
  · exact w_p0 T d a ha
  · exact w_p1 T d a ha
  · exact w_p2 T d a ha
end Go.Proofs.SlimCode
