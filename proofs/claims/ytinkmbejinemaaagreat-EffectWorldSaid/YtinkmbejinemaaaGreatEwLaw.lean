/- EffectWorld, run: true for all. -/
import Derived.Test.YtinkmbejinemaaaGreatEwCaseA
import Derived.Test.YtinkmbejinemaaaGreatEwCaseB
import Derived.Test.YtinkmbejinemaaaGreatEwCaseC
import Derived.Test.YtinkmbejinemaaaGreatEwCaseD
import Derived.Test.YtinkmbejinemaaaGreatEwCaseE
import Derived.Test.YtinkmbejinemaaaGreatAbsTyS
open Go Go.Abs
namespace Go.Proofs.SlimCode
set_option maxRecDepth 100000
theorem extok : ExtOK Tryz.prog ann := by
  intro f e h
  replace h : List.lookup f extL = some e := h
  unfold extL at h
  rw [List.lookup_cons] at h
  cases hb : (f == 212) with
  | true =>
    rw [hb] at h
    cases h
    cases eq_of_beq hb
    exact ⟨Tryz.f212, Tryz.func212, by kernel_rfl, by kernel_rfl, by kernel_rfl, by kernel_rfl⟩
  | false =>
  rw [hb] at h
  simp only at h
  cases h

theorem w_n2 (T0 T1 : List AV → Bool) (d o : Int) (b : Bool) (r : Int) (h1 : -6 < r) (h2 : r < 6) : W T0 T1 (.int .i64 (.negSucc 1)) (.int .i64 r) [.int .i64 d, .int .i64 o, .bool b] = q2 (T0 [.int .i64 o, ci 3, ci 29]) (T1 [.int .i64 d, ci 6, ci 33]) := by
  obtain rfl | rfl | rfl | rfl | rfl | rfl | rfl | rfl | rfl | rfl | rfl : r = -5 ∨ r = -4 ∨ r = -3 ∨ r = -2 ∨ r = -1 ∨ r = 0 ∨ r = 1 ∨ r = 2 ∨ r = 3 ∨ r = 4 ∨ r = 5 := by omega
  · cases b with
    | true => exact w_n2_n5_t T0 T1 d o
    | false => exact w_n2_n5_f T0 T1 d o
  · cases b with
    | true => exact w_n2_n4_t T0 T1 d o
    | false => exact w_n2_n4_f T0 T1 d o
  · cases b with
    | true => exact w_n2_n3_t T0 T1 d o
    | false => exact w_n2_n3_f T0 T1 d o
  · cases b with
    | true => exact w_n2_n2_t T0 T1 d o
    | false => exact w_n2_n2_f T0 T1 d o
  · cases b with
    | true => exact w_n2_n1_t T0 T1 d o
    | false => exact w_n2_n1_f T0 T1 d o
  · cases b with
    | true => exact w_n2_p0_t T0 T1 d o
    | false => exact w_n2_p0_f T0 T1 d o
  · cases b with
    | true => exact w_n2_p1_t T0 T1 d o
    | false => exact w_n2_p1_f T0 T1 d o
  · cases b with
    | true => exact w_n2_p2_t T0 T1 d o
    | false => exact w_n2_p2_f T0 T1 d o
  · cases b with
    | true => exact w_n2_p3_t T0 T1 d o
    | false => exact w_n2_p3_f T0 T1 d o
  · cases b with
    | true => exact w_n2_p4_t T0 T1 d o
    | false => exact w_n2_p4_f T0 T1 d o
  · cases b with
    | true => exact w_n2_p5_t T0 T1 d o
    | false => exact w_n2_p5_f T0 T1 d o
theorem w_n1 (T0 T1 : List AV → Bool) (d o : Int) (b : Bool) (r : Int) (h1 : -6 < r) (h2 : r < 6) : W T0 T1 (.int .i64 (.negSucc 0)) (.int .i64 r) [.int .i64 d, .int .i64 o, .bool b] = q2 (T0 [.int .i64 o, ci 3, ci 29]) (T1 [.int .i64 d, ci 6, ci 33]) := by
  obtain rfl | rfl | rfl | rfl | rfl | rfl | rfl | rfl | rfl | rfl | rfl : r = -5 ∨ r = -4 ∨ r = -3 ∨ r = -2 ∨ r = -1 ∨ r = 0 ∨ r = 1 ∨ r = 2 ∨ r = 3 ∨ r = 4 ∨ r = 5 := by omega
  · cases b with
    | true => exact w_n1_n5_t T0 T1 d o
    | false => exact w_n1_n5_f T0 T1 d o
  · cases b with
    | true => exact w_n1_n4_t T0 T1 d o
    | false => exact w_n1_n4_f T0 T1 d o
  · cases b with
    | true => exact w_n1_n3_t T0 T1 d o
    | false => exact w_n1_n3_f T0 T1 d o
  · cases b with
    | true => exact w_n1_n2_t T0 T1 d o
    | false => exact w_n1_n2_f T0 T1 d o
  · cases b with
    | true => exact w_n1_n1_t T0 T1 d o
    | false => exact w_n1_n1_f T0 T1 d o
  · cases b with
    | true => exact w_n1_p0_t T0 T1 d o
    | false => exact w_n1_p0_f T0 T1 d o
  · cases b with
    | true => exact w_n1_p1_t T0 T1 d o
    | false => exact w_n1_p1_f T0 T1 d o
  · cases b with
    | true => exact w_n1_p2_t T0 T1 d o
    | false => exact w_n1_p2_f T0 T1 d o
  · cases b with
    | true => exact w_n1_p3_t T0 T1 d o
    | false => exact w_n1_p3_f T0 T1 d o
  · cases b with
    | true => exact w_n1_p4_t T0 T1 d o
    | false => exact w_n1_p4_f T0 T1 d o
  · cases b with
    | true => exact w_n1_p5_t T0 T1 d o
    | false => exact w_n1_p5_f T0 T1 d o
theorem w_p0 (T0 T1 : List AV → Bool) (d o : Int) (b : Bool) (r : Int) (h1 : -6 < r) (h2 : r < 6) : W T0 T1 (.int .i64 (.ofNat 0)) (.int .i64 r) [.int .i64 d, .int .i64 o, .bool b] = q2 (T0 [.int .i64 o, ci 3, ci 29]) (T1 [.int .i64 d, ci 6, ci 33]) := by
  obtain rfl | rfl | rfl | rfl | rfl | rfl | rfl | rfl | rfl | rfl | rfl : r = -5 ∨ r = -4 ∨ r = -3 ∨ r = -2 ∨ r = -1 ∨ r = 0 ∨ r = 1 ∨ r = 2 ∨ r = 3 ∨ r = 4 ∨ r = 5 := by omega
  · cases b with
    | true => exact w_p0_n5_t T0 T1 d o
    | false => exact w_p0_n5_f T0 T1 d o
  · cases b with
    | true => exact w_p0_n4_t T0 T1 d o
    | false => exact w_p0_n4_f T0 T1 d o
  · cases b with
    | true => exact w_p0_n3_t T0 T1 d o
    | false => exact w_p0_n3_f T0 T1 d o
  · cases b with
    | true => exact w_p0_n2_t T0 T1 d o
    | false => exact w_p0_n2_f T0 T1 d o
  · cases b with
    | true => exact w_p0_n1_t T0 T1 d o
    | false => exact w_p0_n1_f T0 T1 d o
  · cases b with
    | true => exact w_p0_p0_t T0 T1 d o
    | false => exact w_p0_p0_f T0 T1 d o
  · cases b with
    | true => exact w_p0_p1_t T0 T1 d o
    | false => exact w_p0_p1_f T0 T1 d o
  · cases b with
    | true => exact w_p0_p2_t T0 T1 d o
    | false => exact w_p0_p2_f T0 T1 d o
  · cases b with
    | true => exact w_p0_p3_t T0 T1 d o
    | false => exact w_p0_p3_f T0 T1 d o
  · cases b with
    | true => exact w_p0_p4_t T0 T1 d o
    | false => exact w_p0_p4_f T0 T1 d o
  · cases b with
    | true => exact w_p0_p5_t T0 T1 d o
    | false => exact w_p0_p5_f T0 T1 d o
theorem w_p1 (T0 T1 : List AV → Bool) (d o : Int) (b : Bool) (r : Int) (h1 : -6 < r) (h2 : r < 6) : W T0 T1 (.int .i64 (.ofNat 1)) (.int .i64 r) [.int .i64 d, .int .i64 o, .bool b] = q2 (T0 [.int .i64 o, ci 3, ci 29]) (T1 [.int .i64 d, ci 6, ci 33]) := by
  obtain rfl | rfl | rfl | rfl | rfl | rfl | rfl | rfl | rfl | rfl | rfl : r = -5 ∨ r = -4 ∨ r = -3 ∨ r = -2 ∨ r = -1 ∨ r = 0 ∨ r = 1 ∨ r = 2 ∨ r = 3 ∨ r = 4 ∨ r = 5 := by omega
  · cases b with
    | true => exact w_p1_n5_t T0 T1 d o
    | false => exact w_p1_n5_f T0 T1 d o
  · cases b with
    | true => exact w_p1_n4_t T0 T1 d o
    | false => exact w_p1_n4_f T0 T1 d o
  · cases b with
    | true => exact w_p1_n3_t T0 T1 d o
    | false => exact w_p1_n3_f T0 T1 d o
  · cases b with
    | true => exact w_p1_n2_t T0 T1 d o
    | false => exact w_p1_n2_f T0 T1 d o
  · cases b with
    | true => exact w_p1_n1_t T0 T1 d o
    | false => exact w_p1_n1_f T0 T1 d o
  · cases b with
    | true => exact w_p1_p0_t T0 T1 d o
    | false => exact w_p1_p0_f T0 T1 d o
  · cases b with
    | true => exact w_p1_p1_t T0 T1 d o
    | false => exact w_p1_p1_f T0 T1 d o
  · cases b with
    | true => exact w_p1_p2_t T0 T1 d o
    | false => exact w_p1_p2_f T0 T1 d o
  · cases b with
    | true => exact w_p1_p3_t T0 T1 d o
    | false => exact w_p1_p3_f T0 T1 d o
  · cases b with
    | true => exact w_p1_p4_t T0 T1 d o
    | false => exact w_p1_p4_f T0 T1 d o
  · cases b with
    | true => exact w_p1_p5_t T0 T1 d o
    | false => exact w_p1_p5_f T0 T1 d o
theorem w_p2 (T0 T1 : List AV → Bool) (d o : Int) (b : Bool) (r : Int) (h1 : -6 < r) (h2 : r < 6) : W T0 T1 (.int .i64 (.ofNat 2)) (.int .i64 r) [.int .i64 d, .int .i64 o, .bool b] = q2 (T0 [.int .i64 o, ci 3, ci 29]) (T1 [.int .i64 d, ci 6, ci 33]) := by
  obtain rfl | rfl | rfl | rfl | rfl | rfl | rfl | rfl | rfl | rfl | rfl : r = -5 ∨ r = -4 ∨ r = -3 ∨ r = -2 ∨ r = -1 ∨ r = 0 ∨ r = 1 ∨ r = 2 ∨ r = 3 ∨ r = 4 ∨ r = 5 := by omega
  · cases b with
    | true => exact w_p2_n5_t T0 T1 d o
    | false => exact w_p2_n5_f T0 T1 d o
  · cases b with
    | true => exact w_p2_n4_t T0 T1 d o
    | false => exact w_p2_n4_f T0 T1 d o
  · cases b with
    | true => exact w_p2_n3_t T0 T1 d o
    | false => exact w_p2_n3_f T0 T1 d o
  · cases b with
    | true => exact w_p2_n2_t T0 T1 d o
    | false => exact w_p2_n2_f T0 T1 d o
  · cases b with
    | true => exact w_p2_n1_t T0 T1 d o
    | false => exact w_p2_n1_f T0 T1 d o
  · cases b with
    | true => exact w_p2_p0_t T0 T1 d o
    | false => exact w_p2_p0_f T0 T1 d o
  · cases b with
    | true => exact w_p2_p1_t T0 T1 d o
    | false => exact w_p2_p1_f T0 T1 d o
  · cases b with
    | true => exact w_p2_p2_t T0 T1 d o
    | false => exact w_p2_p2_f T0 T1 d o
  · cases b with
    | true => exact w_p2_p3_t T0 T1 d o
    | false => exact w_p2_p3_f T0 T1 d o
  · cases b with
    | true => exact w_p2_p4_t T0 T1 d o
    | false => exact w_p2_p4_f T0 T1 d o
  · cases b with
    | true => exact w_p2_p5_t T0 T1 d o
    | false => exact w_p2_p5_f T0 T1 d o
theorem w_of (T0 T1 : List AV → Bool) (v0 v1 : AV) (vs : List AV) : callF F5 (orR 29 (orP T0 v0) (orR 33 (orP T1 v1) (callE (tb 12) 5000))) 5000 vs hs0 (fun v _ => some v) = W T0 T1 v0 v1 vs := by kernel_rfl
theorem law_run (ps : List AV) (h : TyVs Tryz.prog 4 Tryz.f5.params.toList ps) : ∃ n h' n' lg, callN Tryz.prog ann n 5 ps (fun _ => none) 0 = some (.bool true, h', n', lg) := by
  obtain ⟨a, _, rfl, ha, b, _, rfl, hb, c, _, rfl, hc, rfl⟩ := h
  obtain ⟨d, rfl, _⟩ := ty_int (P := Tryz.prog) (t := 3) (i := .i64) (by kernel_rfl) ha
  obtain ⟨o, rfl, _⟩ := ty_int (P := Tryz.prog) (t := 3) (i := .i64) (by kernel_rfl) hb
  obtain ⟨b, rfl⟩ := ty_bool (P := Tryz.prog) (t := 4) (by kernel_rfl) hc
  let T0 : List AV → Bool := fun vs => @decide (vs = [.int .i64 o, ci 3, ci 29]) (Classical.propDecidable _)
  let T1 : List AV → Bool := fun vs => @decide (vs = [.int .i64 d, ci 6, ci 33]) (Classical.propDecidable _)
  have h0 : T0 [.int .i64 o, ci 3, ci 29] = true := @decide_eq_true _ (Classical.propDecidable _) rfl
  have h1 : T1 [.int .i64 d, ci 6, ci 33] = true := @decide_eq_true _ (Classical.propDecidable _) rfl
  have k0 : ∀ vs, T0 vs = true → vs = [.int .i64 o, ci 3, ci 29] := fun vs hx => @of_decide_eq_true _ (Classical.propDecidable _) hx
  have k1 : ∀ vs, T1 vs = true → vs = [.int .i64 d, ci 6, ci 33] := fun vs hx => @of_decide_eq_true _ (Classical.propDecidable _) hx
  have c1 : CLok Tryz.prog ann (orR 33 (orP T1 (.int .i64 (d.tmod 6))) (callE (tb 12) 5000)) := orR_ok (orP_rem k1 fun K => bRem_int d 5 K) (callE_ok tk12 5000)
  have c0 : CLok Tryz.prog ann (orR 29 (orP T0 (.int .i64 (o.tmod 3))) (orR 33 (orP T1 (.int .i64 (d.tmod 6))) (callE (tb 12) 5000))) := orR_ok (orP_rem k0 fun K => bRem_int o 2 K) c1
  refine orun_ok (fe2_of fe5) c0 (kk := 5000) ((w_of T0 T1 _ _ _).trans ?_)
  have fin : q2 (T0 [.int .i64 o, ci 3, ci 29]) (T1 [.int .i64 d, ci 6, ci 33]) = some (.bool true) := by rw [h0, h1]; rfl
  refine Eq.trans ?_ fin
  have b1 : -6 < d.tmod 6 := by have := Int.lt_tmod_of_pos d (b := 6) (by omega); omega
  have b2 : d.tmod 6 < 6 := Int.tmod_lt_of_pos d (by omega)
  have b3 : -3 < o.tmod 3 := by have := Int.lt_tmod_of_pos o (b := 3) (by omega); omega
  have b4 : o.tmod 3 < 3 := Int.tmod_lt_of_pos o (by omega)
  generalize o.tmod 3 = r0 at b3 b4
  generalize d.tmod 6 = r1 at b1 b2
  obtain rfl | rfl | rfl | rfl | rfl : r0 = -2 ∨ r0 = -1 ∨ r0 = 0 ∨ r0 = 1 ∨ r0 = 2 := by omega
  · exact w_n2 T0 T1 d o b r1 b1 b2
  · exact w_n1 T0 T1 d o b r1 b1 b2
  · exact w_p0 T0 T1 d o b r1 b1 b2
  · exact w_p1 T0 T1 d o b r1 b1 b2
  · exact w_p2 T0 T1 d o b r1 b1 b2
end Go.Proofs.SlimCode
