/- VmReads, run: true for all. -/
import Derived.Test.YtpkplkccncfkgaaGreatVlCaseA
import Derived.Test.YtpkplkccncfkgaaGreatVlCaseC
import Derived.Test.YtpkplkccncfkgaaGreatVlCaseE
import Derived.Test.YtpkplkccncfkgaaGreatVlCaseG
import Derived.Test.YtpkplkccncfkgaaGreatVlCaseH
import Derived.Test.YtpkplkccncfkgaaGreatVlCaseI
import Derived.Test.YtpkplkccncfkgaaGreatAbsTyS
open Go Go.Abs
namespace Go.Proofs.SlimCode
set_option maxRecDepth 100000
theorem extok : ExtOK Tryz.prog ann := by
  intro f e h
  replace h : List.lookup f extL = some e := h
  unfold extL at h
  cases h

theorem fin (c : Int) (n : Nat) (l : List Int) : chk (TQ (.bool false)) (qs c n l) = some (.bool true) := chk_true fun q hq => by
  simp only [qs, List.mem_cons, List.mem_map] at hq
  rcases hq with rfl | rfl | rfl | rfl | ⟨x, _, rfl⟩ <;> first | exact tq_ns _ | exact tq_ne _ rfl
theorem hm (m : Nat) : hmin (ci (m + 21)) = h20 (ci (m + 21)) := by
  funext K
  have e : svB (fun _ => none) (.mnx false [(.c (ci (m + 21))), (.c (ci 20))]) = some (ci 20) := by
    simp only [svB, evS, ev, mnxI, if_true, Bool.false_eq_true, if_false]
    have : min (20 : Int) (Int.ofNat (m + 21)) = 20 := by
      have : (20 : Int) ≤ Int.ofNat (m + 21) := by show (20 : Int) ≤ ((m + 21 : Nat) : Int); omega
      omega
    first
      | rfl
      | (show some (AV.int .i64 (min _ _)) = _; rw [this]; rfl)
      | (show some (AV.int .i64 (min _ _)) = _; rw [Int.min_comm, this]; rfl)
  show Option.rec (motive := fun _ => RT) none (fun v => forceV v K) (svB (fun _ => none) (.mnx false [(.c (ci (m + 21))), (.c (ci 20))])) = K (ci 20)
  rw [e]
  exact forceV_eq _ _
def hl (m : Nat) (h : AV → VK) : AV → VK := fun _ => h (ci (m + 21))
theorem w1 (E : List AV → Bool) (x0 x1 x2 x3 x4 x5 x6 x7 x8 x9 x10 x11 x12 x13 x14 x15 x16 x17 x18 x19 : Int) (y : AV) (l : List AV) (m : Nat) (n : Int) : go E (.tsl (.int .i32 x0 :: .int .i32 x1 :: .int .i32 x2 :: .int .i32 x3 :: .int .i32 x4 :: .int .i32 x5 :: .int .i32 x6 :: .int .i32 x7 :: .int .i32 x8 :: .int .i32 x9 :: .int .i32 x10 :: .int .i32 x11 :: .int .i32 x12 :: .int .i32 x13 :: .int .i32 x14 :: .int .i32 x15 :: .int .i32 x16 :: .int .i32 x17 :: .int .i32 x18 :: .int .i32 x19 :: y :: l) (m + 21)) (.int .i64 n) = W21 E (hl m hmin) [.tsl (.int .i32 x0 :: .int .i32 x1 :: .int .i32 x2 :: .int .i32 x3 :: .int .i32 x4 :: .int .i32 x5 :: .int .i32 x6 :: .int .i32 x7 :: .int .i32 x8 :: .int .i32 x9 :: .int .i32 x10 :: .int .i32 x11 :: .int .i32 x12 :: .int .i32 x13 :: .int .i32 x14 :: .int .i32 x15 :: .int .i32 x16 :: .int .i32 x17 :: .int .i32 x18 :: .int .i32 x19 :: y :: l) (m + 21), .int .i64 n] := by kernel_rfl
theorem w2 (E : List AV → Bool) (m : Nat) (vs : List AV) : W21 E (hl m hmin) vs = W21 E h20 vs := by
  have : hl m hmin = h20 := by
    funext a
    exact hm m
  rw [this]
theorem a_0 (n : Int) : go (TQ (.bool false)) (.tsl [] 0) (.int .i64 n) = some (.bool true) := by
  cases n with
  | negSucc j => exact (v_0_neg _  j)
  | ofNat j =>
    match j with
    | 0 => exact (v_0_0 _ ).trans (fin _ _ _)
    | 1 => exact (v_0_1 _ ).trans (fin _ _ _)
    | 2 => exact (v_0_2 _ ).trans (fin _ _ _)
    | 3 => exact (v_0_3 _ ).trans (fin _ _ _)
    | 4 => exact (v_0_4 _ ).trans (fin _ _ _)
    | 5 => exact (v_0_5 _ ).trans (fin _ _ _)
    | 6 => exact (v_0_6 _ ).trans (fin _ _ _)
    | 7 => exact (v_0_7 _ ).trans (fin _ _ _)
    | 8 => exact (v_0_8 _ ).trans (fin _ _ _)
    | 9 => exact (v_0_9 _ ).trans (fin _ _ _)
    | 10 => exact (v_0_10 _ ).trans (fin _ _ _)
    | j + 11 => exact (v_0_big _  j)
theorem a_1 (x0 : Int) (n : Int) : go (TQ (.bool false)) (.tsl [.int .i32 x0] 1) (.int .i64 n) = some (.bool true) := by
  cases n with
  | negSucc j => exact (v_1_neg _ x0 j)
  | ofNat j =>
    match j with
    | 0 => exact (v_1_0 _ x0).trans (fin _ _ _)
    | 1 => exact (v_1_1 _ x0).trans (fin _ _ _)
    | 2 => exact (v_1_2 _ x0).trans (fin _ _ _)
    | 3 => exact (v_1_3 _ x0).trans (fin _ _ _)
    | 4 => exact (v_1_4 _ x0).trans (fin _ _ _)
    | 5 => exact (v_1_5 _ x0).trans (fin _ _ _)
    | 6 => exact (v_1_6 _ x0).trans (fin _ _ _)
    | 7 => exact (v_1_7 _ x0).trans (fin _ _ _)
    | 8 => exact (v_1_8 _ x0).trans (fin _ _ _)
    | 9 => exact (v_1_9 _ x0).trans (fin _ _ _)
    | 10 => exact (v_1_10 _ x0).trans (fin _ _ _)
    | j + 11 => exact (v_1_big _ x0 j)
theorem a_2 (x0 x1 : Int) (n : Int) : go (TQ (.bool false)) (.tsl [.int .i32 x0, .int .i32 x1] 2) (.int .i64 n) = some (.bool true) := by
  cases n with
  | negSucc j => exact (v_2_neg _ x0 x1 j)
  | ofNat j =>
    match j with
    | 0 => exact (v_2_0 _ x0 x1).trans (fin _ _ _)
    | 1 => exact (v_2_1 _ x0 x1).trans (fin _ _ _)
    | 2 => exact (v_2_2 _ x0 x1).trans (fin _ _ _)
    | 3 => exact (v_2_3 _ x0 x1).trans (fin _ _ _)
    | 4 => exact (v_2_4 _ x0 x1).trans (fin _ _ _)
    | 5 => exact (v_2_5 _ x0 x1).trans (fin _ _ _)
    | 6 => exact (v_2_6 _ x0 x1).trans (fin _ _ _)
    | 7 => exact (v_2_7 _ x0 x1).trans (fin _ _ _)
    | 8 => exact (v_2_8 _ x0 x1).trans (fin _ _ _)
    | 9 => exact (v_2_9 _ x0 x1).trans (fin _ _ _)
    | 10 => exact (v_2_10 _ x0 x1).trans (fin _ _ _)
    | j + 11 => exact (v_2_big _ x0 x1 j)
theorem a_3 (x0 x1 x2 : Int) (n : Int) : go (TQ (.bool false)) (.tsl [.int .i32 x0, .int .i32 x1, .int .i32 x2] 3) (.int .i64 n) = some (.bool true) := by
  cases n with
  | negSucc j => exact (v_3_neg _ x0 x1 x2 j)
  | ofNat j =>
    match j with
    | 0 => exact (v_3_0 _ x0 x1 x2).trans (fin _ _ _)
    | 1 => exact (v_3_1 _ x0 x1 x2).trans (fin _ _ _)
    | 2 => exact (v_3_2 _ x0 x1 x2).trans (fin _ _ _)
    | 3 => exact (v_3_3 _ x0 x1 x2).trans (fin _ _ _)
    | 4 => exact (v_3_4 _ x0 x1 x2).trans (fin _ _ _)
    | 5 => exact (v_3_5 _ x0 x1 x2).trans (fin _ _ _)
    | 6 => exact (v_3_6 _ x0 x1 x2).trans (fin _ _ _)
    | 7 => exact (v_3_7 _ x0 x1 x2).trans (fin _ _ _)
    | 8 => exact (v_3_8 _ x0 x1 x2).trans (fin _ _ _)
    | 9 => exact (v_3_9 _ x0 x1 x2).trans (fin _ _ _)
    | 10 => exact (v_3_10 _ x0 x1 x2).trans (fin _ _ _)
    | j + 11 => exact (v_3_big _ x0 x1 x2 j)
theorem a_4 (x0 x1 x2 x3 : Int) (n : Int) : go (TQ (.bool false)) (.tsl [.int .i32 x0, .int .i32 x1, .int .i32 x2, .int .i32 x3] 4) (.int .i64 n) = some (.bool true) := by
  cases n with
  | negSucc j => exact (v_4_neg _ x0 x1 x2 x3 j)
  | ofNat j =>
    match j with
    | 0 => exact (v_4_0 _ x0 x1 x2 x3).trans (fin _ _ _)
    | 1 => exact (v_4_1 _ x0 x1 x2 x3).trans (fin _ _ _)
    | 2 => exact (v_4_2 _ x0 x1 x2 x3).trans (fin _ _ _)
    | 3 => exact (v_4_3 _ x0 x1 x2 x3).trans (fin _ _ _)
    | 4 => exact (v_4_4 _ x0 x1 x2 x3).trans (fin _ _ _)
    | 5 => exact (v_4_5 _ x0 x1 x2 x3).trans (fin _ _ _)
    | 6 => exact (v_4_6 _ x0 x1 x2 x3).trans (fin _ _ _)
    | 7 => exact (v_4_7 _ x0 x1 x2 x3).trans (fin _ _ _)
    | 8 => exact (v_4_8 _ x0 x1 x2 x3).trans (fin _ _ _)
    | 9 => exact (v_4_9 _ x0 x1 x2 x3).trans (fin _ _ _)
    | 10 => exact (v_4_10 _ x0 x1 x2 x3).trans (fin _ _ _)
    | j + 11 => exact (v_4_big _ x0 x1 x2 x3 j)
theorem a_5 (x0 x1 x2 x3 x4 : Int) (n : Int) : go (TQ (.bool false)) (.tsl [.int .i32 x0, .int .i32 x1, .int .i32 x2, .int .i32 x3, .int .i32 x4] 5) (.int .i64 n) = some (.bool true) := by
  cases n with
  | negSucc j => exact (v_5_neg _ x0 x1 x2 x3 x4 j)
  | ofNat j =>
    match j with
    | 0 => exact (v_5_0 _ x0 x1 x2 x3 x4).trans (fin _ _ _)
    | 1 => exact (v_5_1 _ x0 x1 x2 x3 x4).trans (fin _ _ _)
    | 2 => exact (v_5_2 _ x0 x1 x2 x3 x4).trans (fin _ _ _)
    | 3 => exact (v_5_3 _ x0 x1 x2 x3 x4).trans (fin _ _ _)
    | 4 => exact (v_5_4 _ x0 x1 x2 x3 x4).trans (fin _ _ _)
    | 5 => exact (v_5_5 _ x0 x1 x2 x3 x4).trans (fin _ _ _)
    | 6 => exact (v_5_6 _ x0 x1 x2 x3 x4).trans (fin _ _ _)
    | 7 => exact (v_5_7 _ x0 x1 x2 x3 x4).trans (fin _ _ _)
    | 8 => exact (v_5_8 _ x0 x1 x2 x3 x4).trans (fin _ _ _)
    | 9 => exact (v_5_9 _ x0 x1 x2 x3 x4).trans (fin _ _ _)
    | 10 => exact (v_5_10 _ x0 x1 x2 x3 x4).trans (fin _ _ _)
    | j + 11 => exact (v_5_big _ x0 x1 x2 x3 x4 j)
theorem a_6 (x0 x1 x2 x3 x4 x5 : Int) (n : Int) : go (TQ (.bool false)) (.tsl [.int .i32 x0, .int .i32 x1, .int .i32 x2, .int .i32 x3, .int .i32 x4, .int .i32 x5] 6) (.int .i64 n) = some (.bool true) := by
  cases n with
  | negSucc j => exact (v_6_neg _ x0 x1 x2 x3 x4 x5 j)
  | ofNat j =>
    match j with
    | 0 => exact (v_6_0 _ x0 x1 x2 x3 x4 x5).trans (fin _ _ _)
    | 1 => exact (v_6_1 _ x0 x1 x2 x3 x4 x5).trans (fin _ _ _)
    | 2 => exact (v_6_2 _ x0 x1 x2 x3 x4 x5).trans (fin _ _ _)
    | 3 => exact (v_6_3 _ x0 x1 x2 x3 x4 x5).trans (fin _ _ _)
    | 4 => exact (v_6_4 _ x0 x1 x2 x3 x4 x5).trans (fin _ _ _)
    | 5 => exact (v_6_5 _ x0 x1 x2 x3 x4 x5).trans (fin _ _ _)
    | 6 => exact (v_6_6 _ x0 x1 x2 x3 x4 x5).trans (fin _ _ _)
    | 7 => exact (v_6_7 _ x0 x1 x2 x3 x4 x5).trans (fin _ _ _)
    | 8 => exact (v_6_8 _ x0 x1 x2 x3 x4 x5).trans (fin _ _ _)
    | 9 => exact (v_6_9 _ x0 x1 x2 x3 x4 x5).trans (fin _ _ _)
    | 10 => exact (v_6_10 _ x0 x1 x2 x3 x4 x5).trans (fin _ _ _)
    | j + 11 => exact (v_6_big _ x0 x1 x2 x3 x4 x5 j)
theorem a_7 (x0 x1 x2 x3 x4 x5 x6 : Int) (n : Int) : go (TQ (.bool false)) (.tsl [.int .i32 x0, .int .i32 x1, .int .i32 x2, .int .i32 x3, .int .i32 x4, .int .i32 x5, .int .i32 x6] 7) (.int .i64 n) = some (.bool true) := by
  cases n with
  | negSucc j => exact (v_7_neg _ x0 x1 x2 x3 x4 x5 x6 j)
  | ofNat j =>
    match j with
    | 0 => exact (v_7_0 _ x0 x1 x2 x3 x4 x5 x6).trans (fin _ _ _)
    | 1 => exact (v_7_1 _ x0 x1 x2 x3 x4 x5 x6).trans (fin _ _ _)
    | 2 => exact (v_7_2 _ x0 x1 x2 x3 x4 x5 x6).trans (fin _ _ _)
    | 3 => exact (v_7_3 _ x0 x1 x2 x3 x4 x5 x6).trans (fin _ _ _)
    | 4 => exact (v_7_4 _ x0 x1 x2 x3 x4 x5 x6).trans (fin _ _ _)
    | 5 => exact (v_7_5 _ x0 x1 x2 x3 x4 x5 x6).trans (fin _ _ _)
    | 6 => exact (v_7_6 _ x0 x1 x2 x3 x4 x5 x6).trans (fin _ _ _)
    | 7 => exact (v_7_7 _ x0 x1 x2 x3 x4 x5 x6).trans (fin _ _ _)
    | 8 => exact (v_7_8 _ x0 x1 x2 x3 x4 x5 x6).trans (fin _ _ _)
    | 9 => exact (v_7_9 _ x0 x1 x2 x3 x4 x5 x6).trans (fin _ _ _)
    | 10 => exact (v_7_10 _ x0 x1 x2 x3 x4 x5 x6).trans (fin _ _ _)
    | j + 11 => exact (v_7_big _ x0 x1 x2 x3 x4 x5 x6 j)
theorem a_8 (x0 x1 x2 x3 x4 x5 x6 x7 : Int) (n : Int) : go (TQ (.bool false)) (.tsl [.int .i32 x0, .int .i32 x1, .int .i32 x2, .int .i32 x3, .int .i32 x4, .int .i32 x5, .int .i32 x6, .int .i32 x7] 8) (.int .i64 n) = some (.bool true) := by
  cases n with
  | negSucc j => exact (v_8_neg _ x0 x1 x2 x3 x4 x5 x6 x7 j)
  | ofNat j =>
    match j with
    | 0 => exact (v_8_0 _ x0 x1 x2 x3 x4 x5 x6 x7).trans (fin _ _ _)
    | 1 => exact (v_8_1 _ x0 x1 x2 x3 x4 x5 x6 x7).trans (fin _ _ _)
    | 2 => exact (v_8_2 _ x0 x1 x2 x3 x4 x5 x6 x7).trans (fin _ _ _)
    | 3 => exact (v_8_3 _ x0 x1 x2 x3 x4 x5 x6 x7).trans (fin _ _ _)
    | 4 => exact (v_8_4 _ x0 x1 x2 x3 x4 x5 x6 x7).trans (fin _ _ _)
    | 5 => exact (v_8_5 _ x0 x1 x2 x3 x4 x5 x6 x7).trans (fin _ _ _)
    | 6 => exact (v_8_6 _ x0 x1 x2 x3 x4 x5 x6 x7).trans (fin _ _ _)
    | 7 => exact (v_8_7 _ x0 x1 x2 x3 x4 x5 x6 x7).trans (fin _ _ _)
    | 8 => exact (v_8_8 _ x0 x1 x2 x3 x4 x5 x6 x7).trans (fin _ _ _)
    | 9 => exact (v_8_9 _ x0 x1 x2 x3 x4 x5 x6 x7).trans (fin _ _ _)
    | 10 => exact (v_8_10 _ x0 x1 x2 x3 x4 x5 x6 x7).trans (fin _ _ _)
    | j + 11 => exact (v_8_big _ x0 x1 x2 x3 x4 x5 x6 x7 j)
theorem a_9 (x0 x1 x2 x3 x4 x5 x6 x7 x8 : Int) (n : Int) : go (TQ (.bool false)) (.tsl [.int .i32 x0, .int .i32 x1, .int .i32 x2, .int .i32 x3, .int .i32 x4, .int .i32 x5, .int .i32 x6, .int .i32 x7, .int .i32 x8] 9) (.int .i64 n) = some (.bool true) := by
  cases n with
  | negSucc j => exact (v_9_neg _ x0 x1 x2 x3 x4 x5 x6 x7 x8 j)
  | ofNat j =>
    match j with
    | 0 => exact (v_9_0 _ x0 x1 x2 x3 x4 x5 x6 x7 x8).trans (fin _ _ _)
    | 1 => exact (v_9_1 _ x0 x1 x2 x3 x4 x5 x6 x7 x8).trans (fin _ _ _)
    | 2 => exact (v_9_2 _ x0 x1 x2 x3 x4 x5 x6 x7 x8).trans (fin _ _ _)
    | 3 => exact (v_9_3 _ x0 x1 x2 x3 x4 x5 x6 x7 x8).trans (fin _ _ _)
    | 4 => exact (v_9_4 _ x0 x1 x2 x3 x4 x5 x6 x7 x8).trans (fin _ _ _)
    | 5 => exact (v_9_5 _ x0 x1 x2 x3 x4 x5 x6 x7 x8).trans (fin _ _ _)
    | 6 => exact (v_9_6 _ x0 x1 x2 x3 x4 x5 x6 x7 x8).trans (fin _ _ _)
    | 7 => exact (v_9_7 _ x0 x1 x2 x3 x4 x5 x6 x7 x8).trans (fin _ _ _)
    | 8 => exact (v_9_8 _ x0 x1 x2 x3 x4 x5 x6 x7 x8).trans (fin _ _ _)
    | 9 => exact (v_9_9 _ x0 x1 x2 x3 x4 x5 x6 x7 x8).trans (fin _ _ _)
    | 10 => exact (v_9_10 _ x0 x1 x2 x3 x4 x5 x6 x7 x8).trans (fin _ _ _)
    | j + 11 => exact (v_9_big _ x0 x1 x2 x3 x4 x5 x6 x7 x8 j)
theorem a_10 (x0 x1 x2 x3 x4 x5 x6 x7 x8 x9 : Int) (n : Int) : go (TQ (.bool false)) (.tsl [.int .i32 x0, .int .i32 x1, .int .i32 x2, .int .i32 x3, .int .i32 x4, .int .i32 x5, .int .i32 x6, .int .i32 x7, .int .i32 x8, .int .i32 x9] 10) (.int .i64 n) = some (.bool true) := by
  cases n with
  | negSucc j => exact (v_10_neg _ x0 x1 x2 x3 x4 x5 x6 x7 x8 x9 j)
  | ofNat j =>
    match j with
    | 0 => exact (v_10_0 _ x0 x1 x2 x3 x4 x5 x6 x7 x8 x9).trans (fin _ _ _)
    | 1 => exact (v_10_1 _ x0 x1 x2 x3 x4 x5 x6 x7 x8 x9).trans (fin _ _ _)
    | 2 => exact (v_10_2 _ x0 x1 x2 x3 x4 x5 x6 x7 x8 x9).trans (fin _ _ _)
    | 3 => exact (v_10_3 _ x0 x1 x2 x3 x4 x5 x6 x7 x8 x9).trans (fin _ _ _)
    | 4 => exact (v_10_4 _ x0 x1 x2 x3 x4 x5 x6 x7 x8 x9).trans (fin _ _ _)
    | 5 => exact (v_10_5 _ x0 x1 x2 x3 x4 x5 x6 x7 x8 x9).trans (fin _ _ _)
    | 6 => exact (v_10_6 _ x0 x1 x2 x3 x4 x5 x6 x7 x8 x9).trans (fin _ _ _)
    | 7 => exact (v_10_7 _ x0 x1 x2 x3 x4 x5 x6 x7 x8 x9).trans (fin _ _ _)
    | 8 => exact (v_10_8 _ x0 x1 x2 x3 x4 x5 x6 x7 x8 x9).trans (fin _ _ _)
    | 9 => exact (v_10_9 _ x0 x1 x2 x3 x4 x5 x6 x7 x8 x9).trans (fin _ _ _)
    | 10 => exact (v_10_10 _ x0 x1 x2 x3 x4 x5 x6 x7 x8 x9).trans (fin _ _ _)
    | j + 11 => exact (v_10_big _ x0 x1 x2 x3 x4 x5 x6 x7 x8 x9 j)
theorem a_11 (x0 x1 x2 x3 x4 x5 x6 x7 x8 x9 x10 : Int) (n : Int) : go (TQ (.bool false)) (.tsl [.int .i32 x0, .int .i32 x1, .int .i32 x2, .int .i32 x3, .int .i32 x4, .int .i32 x5, .int .i32 x6, .int .i32 x7, .int .i32 x8, .int .i32 x9, .int .i32 x10] 11) (.int .i64 n) = some (.bool true) := by
  cases n with
  | negSucc j => exact (v_11_neg _ x0 x1 x2 x3 x4 x5 x6 x7 x8 x9 x10 j)
  | ofNat j =>
    match j with
    | 0 => exact (v_11_0 _ x0 x1 x2 x3 x4 x5 x6 x7 x8 x9 x10).trans (fin _ _ _)
    | 1 => exact (v_11_1 _ x0 x1 x2 x3 x4 x5 x6 x7 x8 x9 x10).trans (fin _ _ _)
    | 2 => exact (v_11_2 _ x0 x1 x2 x3 x4 x5 x6 x7 x8 x9 x10).trans (fin _ _ _)
    | 3 => exact (v_11_3 _ x0 x1 x2 x3 x4 x5 x6 x7 x8 x9 x10).trans (fin _ _ _)
    | 4 => exact (v_11_4 _ x0 x1 x2 x3 x4 x5 x6 x7 x8 x9 x10).trans (fin _ _ _)
    | 5 => exact (v_11_5 _ x0 x1 x2 x3 x4 x5 x6 x7 x8 x9 x10).trans (fin _ _ _)
    | 6 => exact (v_11_6 _ x0 x1 x2 x3 x4 x5 x6 x7 x8 x9 x10).trans (fin _ _ _)
    | 7 => exact (v_11_7 _ x0 x1 x2 x3 x4 x5 x6 x7 x8 x9 x10).trans (fin _ _ _)
    | 8 => exact (v_11_8 _ x0 x1 x2 x3 x4 x5 x6 x7 x8 x9 x10).trans (fin _ _ _)
    | 9 => exact (v_11_9 _ x0 x1 x2 x3 x4 x5 x6 x7 x8 x9 x10).trans (fin _ _ _)
    | 10 => exact (v_11_10 _ x0 x1 x2 x3 x4 x5 x6 x7 x8 x9 x10).trans (fin _ _ _)
    | j + 11 => exact (v_11_big _ x0 x1 x2 x3 x4 x5 x6 x7 x8 x9 x10 j)
theorem a_12 (x0 x1 x2 x3 x4 x5 x6 x7 x8 x9 x10 x11 : Int) (n : Int) : go (TQ (.bool false)) (.tsl [.int .i32 x0, .int .i32 x1, .int .i32 x2, .int .i32 x3, .int .i32 x4, .int .i32 x5, .int .i32 x6, .int .i32 x7, .int .i32 x8, .int .i32 x9, .int .i32 x10, .int .i32 x11] 12) (.int .i64 n) = some (.bool true) := by
  cases n with
  | negSucc j => exact (v_12_neg _ x0 x1 x2 x3 x4 x5 x6 x7 x8 x9 x10 x11 j)
  | ofNat j =>
    match j with
    | 0 => exact (v_12_0 _ x0 x1 x2 x3 x4 x5 x6 x7 x8 x9 x10 x11).trans (fin _ _ _)
    | 1 => exact (v_12_1 _ x0 x1 x2 x3 x4 x5 x6 x7 x8 x9 x10 x11).trans (fin _ _ _)
    | 2 => exact (v_12_2 _ x0 x1 x2 x3 x4 x5 x6 x7 x8 x9 x10 x11).trans (fin _ _ _)
    | 3 => exact (v_12_3 _ x0 x1 x2 x3 x4 x5 x6 x7 x8 x9 x10 x11).trans (fin _ _ _)
    | 4 => exact (v_12_4 _ x0 x1 x2 x3 x4 x5 x6 x7 x8 x9 x10 x11).trans (fin _ _ _)
    | 5 => exact (v_12_5 _ x0 x1 x2 x3 x4 x5 x6 x7 x8 x9 x10 x11).trans (fin _ _ _)
    | 6 => exact (v_12_6 _ x0 x1 x2 x3 x4 x5 x6 x7 x8 x9 x10 x11).trans (fin _ _ _)
    | 7 => exact (v_12_7 _ x0 x1 x2 x3 x4 x5 x6 x7 x8 x9 x10 x11).trans (fin _ _ _)
    | 8 => exact (v_12_8 _ x0 x1 x2 x3 x4 x5 x6 x7 x8 x9 x10 x11).trans (fin _ _ _)
    | 9 => exact (v_12_9 _ x0 x1 x2 x3 x4 x5 x6 x7 x8 x9 x10 x11).trans (fin _ _ _)
    | 10 => exact (v_12_10 _ x0 x1 x2 x3 x4 x5 x6 x7 x8 x9 x10 x11).trans (fin _ _ _)
    | j + 11 => exact (v_12_big _ x0 x1 x2 x3 x4 x5 x6 x7 x8 x9 x10 x11 j)
theorem a_13 (x0 x1 x2 x3 x4 x5 x6 x7 x8 x9 x10 x11 x12 : Int) (n : Int) : go (TQ (.bool false)) (.tsl [.int .i32 x0, .int .i32 x1, .int .i32 x2, .int .i32 x3, .int .i32 x4, .int .i32 x5, .int .i32 x6, .int .i32 x7, .int .i32 x8, .int .i32 x9, .int .i32 x10, .int .i32 x11, .int .i32 x12] 13) (.int .i64 n) = some (.bool true) := by
  cases n with
  | negSucc j => exact (v_13_neg _ x0 x1 x2 x3 x4 x5 x6 x7 x8 x9 x10 x11 x12 j)
  | ofNat j =>
    match j with
    | 0 => exact (v_13_0 _ x0 x1 x2 x3 x4 x5 x6 x7 x8 x9 x10 x11 x12).trans (fin _ _ _)
    | 1 => exact (v_13_1 _ x0 x1 x2 x3 x4 x5 x6 x7 x8 x9 x10 x11 x12).trans (fin _ _ _)
    | 2 => exact (v_13_2 _ x0 x1 x2 x3 x4 x5 x6 x7 x8 x9 x10 x11 x12).trans (fin _ _ _)
    | 3 => exact (v_13_3 _ x0 x1 x2 x3 x4 x5 x6 x7 x8 x9 x10 x11 x12).trans (fin _ _ _)
    | 4 => exact (v_13_4 _ x0 x1 x2 x3 x4 x5 x6 x7 x8 x9 x10 x11 x12).trans (fin _ _ _)
    | 5 => exact (v_13_5 _ x0 x1 x2 x3 x4 x5 x6 x7 x8 x9 x10 x11 x12).trans (fin _ _ _)
    | 6 => exact (v_13_6 _ x0 x1 x2 x3 x4 x5 x6 x7 x8 x9 x10 x11 x12).trans (fin _ _ _)
    | 7 => exact (v_13_7 _ x0 x1 x2 x3 x4 x5 x6 x7 x8 x9 x10 x11 x12).trans (fin _ _ _)
    | 8 => exact (v_13_8 _ x0 x1 x2 x3 x4 x5 x6 x7 x8 x9 x10 x11 x12).trans (fin _ _ _)
    | 9 => exact (v_13_9 _ x0 x1 x2 x3 x4 x5 x6 x7 x8 x9 x10 x11 x12).trans (fin _ _ _)
    | 10 => exact (v_13_10 _ x0 x1 x2 x3 x4 x5 x6 x7 x8 x9 x10 x11 x12).trans (fin _ _ _)
    | j + 11 => exact (v_13_big _ x0 x1 x2 x3 x4 x5 x6 x7 x8 x9 x10 x11 x12 j)
theorem a_14 (x0 x1 x2 x3 x4 x5 x6 x7 x8 x9 x10 x11 x12 x13 : Int) (n : Int) : go (TQ (.bool false)) (.tsl [.int .i32 x0, .int .i32 x1, .int .i32 x2, .int .i32 x3, .int .i32 x4, .int .i32 x5, .int .i32 x6, .int .i32 x7, .int .i32 x8, .int .i32 x9, .int .i32 x10, .int .i32 x11, .int .i32 x12, .int .i32 x13] 14) (.int .i64 n) = some (.bool true) := by
  cases n with
  | negSucc j => exact (v_14_neg _ x0 x1 x2 x3 x4 x5 x6 x7 x8 x9 x10 x11 x12 x13 j)
  | ofNat j =>
    match j with
    | 0 => exact (v_14_0 _ x0 x1 x2 x3 x4 x5 x6 x7 x8 x9 x10 x11 x12 x13).trans (fin _ _ _)
    | 1 => exact (v_14_1 _ x0 x1 x2 x3 x4 x5 x6 x7 x8 x9 x10 x11 x12 x13).trans (fin _ _ _)
    | 2 => exact (v_14_2 _ x0 x1 x2 x3 x4 x5 x6 x7 x8 x9 x10 x11 x12 x13).trans (fin _ _ _)
    | 3 => exact (v_14_3 _ x0 x1 x2 x3 x4 x5 x6 x7 x8 x9 x10 x11 x12 x13).trans (fin _ _ _)
    | 4 => exact (v_14_4 _ x0 x1 x2 x3 x4 x5 x6 x7 x8 x9 x10 x11 x12 x13).trans (fin _ _ _)
    | 5 => exact (v_14_5 _ x0 x1 x2 x3 x4 x5 x6 x7 x8 x9 x10 x11 x12 x13).trans (fin _ _ _)
    | 6 => exact (v_14_6 _ x0 x1 x2 x3 x4 x5 x6 x7 x8 x9 x10 x11 x12 x13).trans (fin _ _ _)
    | 7 => exact (v_14_7 _ x0 x1 x2 x3 x4 x5 x6 x7 x8 x9 x10 x11 x12 x13).trans (fin _ _ _)
    | 8 => exact (v_14_8 _ x0 x1 x2 x3 x4 x5 x6 x7 x8 x9 x10 x11 x12 x13).trans (fin _ _ _)
    | 9 => exact (v_14_9 _ x0 x1 x2 x3 x4 x5 x6 x7 x8 x9 x10 x11 x12 x13).trans (fin _ _ _)
    | 10 => exact (v_14_10 _ x0 x1 x2 x3 x4 x5 x6 x7 x8 x9 x10 x11 x12 x13).trans (fin _ _ _)
    | j + 11 => exact (v_14_big _ x0 x1 x2 x3 x4 x5 x6 x7 x8 x9 x10 x11 x12 x13 j)
theorem a_15 (x0 x1 x2 x3 x4 x5 x6 x7 x8 x9 x10 x11 x12 x13 x14 : Int) (n : Int) : go (TQ (.bool false)) (.tsl [.int .i32 x0, .int .i32 x1, .int .i32 x2, .int .i32 x3, .int .i32 x4, .int .i32 x5, .int .i32 x6, .int .i32 x7, .int .i32 x8, .int .i32 x9, .int .i32 x10, .int .i32 x11, .int .i32 x12, .int .i32 x13, .int .i32 x14] 15) (.int .i64 n) = some (.bool true) := by
  cases n with
  | negSucc j => exact (v_15_neg _ x0 x1 x2 x3 x4 x5 x6 x7 x8 x9 x10 x11 x12 x13 x14 j)
  | ofNat j =>
    match j with
    | 0 => exact (v_15_0 _ x0 x1 x2 x3 x4 x5 x6 x7 x8 x9 x10 x11 x12 x13 x14).trans (fin _ _ _)
    | 1 => exact (v_15_1 _ x0 x1 x2 x3 x4 x5 x6 x7 x8 x9 x10 x11 x12 x13 x14).trans (fin _ _ _)
    | 2 => exact (v_15_2 _ x0 x1 x2 x3 x4 x5 x6 x7 x8 x9 x10 x11 x12 x13 x14).trans (fin _ _ _)
    | 3 => exact (v_15_3 _ x0 x1 x2 x3 x4 x5 x6 x7 x8 x9 x10 x11 x12 x13 x14).trans (fin _ _ _)
    | 4 => exact (v_15_4 _ x0 x1 x2 x3 x4 x5 x6 x7 x8 x9 x10 x11 x12 x13 x14).trans (fin _ _ _)
    | 5 => exact (v_15_5 _ x0 x1 x2 x3 x4 x5 x6 x7 x8 x9 x10 x11 x12 x13 x14).trans (fin _ _ _)
    | 6 => exact (v_15_6 _ x0 x1 x2 x3 x4 x5 x6 x7 x8 x9 x10 x11 x12 x13 x14).trans (fin _ _ _)
    | 7 => exact (v_15_7 _ x0 x1 x2 x3 x4 x5 x6 x7 x8 x9 x10 x11 x12 x13 x14).trans (fin _ _ _)
    | 8 => exact (v_15_8 _ x0 x1 x2 x3 x4 x5 x6 x7 x8 x9 x10 x11 x12 x13 x14).trans (fin _ _ _)
    | 9 => exact (v_15_9 _ x0 x1 x2 x3 x4 x5 x6 x7 x8 x9 x10 x11 x12 x13 x14).trans (fin _ _ _)
    | 10 => exact (v_15_10 _ x0 x1 x2 x3 x4 x5 x6 x7 x8 x9 x10 x11 x12 x13 x14).trans (fin _ _ _)
    | j + 11 => exact (v_15_big _ x0 x1 x2 x3 x4 x5 x6 x7 x8 x9 x10 x11 x12 x13 x14 j)
theorem a_16 (x0 x1 x2 x3 x4 x5 x6 x7 x8 x9 x10 x11 x12 x13 x14 x15 : Int) (n : Int) : go (TQ (.bool false)) (.tsl [.int .i32 x0, .int .i32 x1, .int .i32 x2, .int .i32 x3, .int .i32 x4, .int .i32 x5, .int .i32 x6, .int .i32 x7, .int .i32 x8, .int .i32 x9, .int .i32 x10, .int .i32 x11, .int .i32 x12, .int .i32 x13, .int .i32 x14, .int .i32 x15] 16) (.int .i64 n) = some (.bool true) := by
  cases n with
  | negSucc j => exact (v_16_neg _ x0 x1 x2 x3 x4 x5 x6 x7 x8 x9 x10 x11 x12 x13 x14 x15 j)
  | ofNat j =>
    match j with
    | 0 => exact (v_16_0 _ x0 x1 x2 x3 x4 x5 x6 x7 x8 x9 x10 x11 x12 x13 x14 x15).trans (fin _ _ _)
    | 1 => exact (v_16_1 _ x0 x1 x2 x3 x4 x5 x6 x7 x8 x9 x10 x11 x12 x13 x14 x15).trans (fin _ _ _)
    | 2 => exact (v_16_2 _ x0 x1 x2 x3 x4 x5 x6 x7 x8 x9 x10 x11 x12 x13 x14 x15).trans (fin _ _ _)
    | 3 => exact (v_16_3 _ x0 x1 x2 x3 x4 x5 x6 x7 x8 x9 x10 x11 x12 x13 x14 x15).trans (fin _ _ _)
    | 4 => exact (v_16_4 _ x0 x1 x2 x3 x4 x5 x6 x7 x8 x9 x10 x11 x12 x13 x14 x15).trans (fin _ _ _)
    | 5 => exact (v_16_5 _ x0 x1 x2 x3 x4 x5 x6 x7 x8 x9 x10 x11 x12 x13 x14 x15).trans (fin _ _ _)
    | 6 => exact (v_16_6 _ x0 x1 x2 x3 x4 x5 x6 x7 x8 x9 x10 x11 x12 x13 x14 x15).trans (fin _ _ _)
    | 7 => exact (v_16_7 _ x0 x1 x2 x3 x4 x5 x6 x7 x8 x9 x10 x11 x12 x13 x14 x15).trans (fin _ _ _)
    | 8 => exact (v_16_8 _ x0 x1 x2 x3 x4 x5 x6 x7 x8 x9 x10 x11 x12 x13 x14 x15).trans (fin _ _ _)
    | 9 => exact (v_16_9 _ x0 x1 x2 x3 x4 x5 x6 x7 x8 x9 x10 x11 x12 x13 x14 x15).trans (fin _ _ _)
    | 10 => exact (v_16_10 _ x0 x1 x2 x3 x4 x5 x6 x7 x8 x9 x10 x11 x12 x13 x14 x15).trans (fin _ _ _)
    | j + 11 => exact (v_16_big _ x0 x1 x2 x3 x4 x5 x6 x7 x8 x9 x10 x11 x12 x13 x14 x15 j)
theorem a_17 (x0 x1 x2 x3 x4 x5 x6 x7 x8 x9 x10 x11 x12 x13 x14 x15 x16 : Int) (n : Int) : go (TQ (.bool false)) (.tsl [.int .i32 x0, .int .i32 x1, .int .i32 x2, .int .i32 x3, .int .i32 x4, .int .i32 x5, .int .i32 x6, .int .i32 x7, .int .i32 x8, .int .i32 x9, .int .i32 x10, .int .i32 x11, .int .i32 x12, .int .i32 x13, .int .i32 x14, .int .i32 x15, .int .i32 x16] 17) (.int .i64 n) = some (.bool true) := by
  cases n with
  | negSucc j => exact (v_17_neg _ x0 x1 x2 x3 x4 x5 x6 x7 x8 x9 x10 x11 x12 x13 x14 x15 x16 j)
  | ofNat j =>
    match j with
    | 0 => exact (v_17_0 _ x0 x1 x2 x3 x4 x5 x6 x7 x8 x9 x10 x11 x12 x13 x14 x15 x16).trans (fin _ _ _)
    | 1 => exact (v_17_1 _ x0 x1 x2 x3 x4 x5 x6 x7 x8 x9 x10 x11 x12 x13 x14 x15 x16).trans (fin _ _ _)
    | 2 => exact (v_17_2 _ x0 x1 x2 x3 x4 x5 x6 x7 x8 x9 x10 x11 x12 x13 x14 x15 x16).trans (fin _ _ _)
    | 3 => exact (v_17_3 _ x0 x1 x2 x3 x4 x5 x6 x7 x8 x9 x10 x11 x12 x13 x14 x15 x16).trans (fin _ _ _)
    | 4 => exact (v_17_4 _ x0 x1 x2 x3 x4 x5 x6 x7 x8 x9 x10 x11 x12 x13 x14 x15 x16).trans (fin _ _ _)
    | 5 => exact (v_17_5 _ x0 x1 x2 x3 x4 x5 x6 x7 x8 x9 x10 x11 x12 x13 x14 x15 x16).trans (fin _ _ _)
    | 6 => exact (v_17_6 _ x0 x1 x2 x3 x4 x5 x6 x7 x8 x9 x10 x11 x12 x13 x14 x15 x16).trans (fin _ _ _)
    | 7 => exact (v_17_7 _ x0 x1 x2 x3 x4 x5 x6 x7 x8 x9 x10 x11 x12 x13 x14 x15 x16).trans (fin _ _ _)
    | 8 => exact (v_17_8 _ x0 x1 x2 x3 x4 x5 x6 x7 x8 x9 x10 x11 x12 x13 x14 x15 x16).trans (fin _ _ _)
    | 9 => exact (v_17_9 _ x0 x1 x2 x3 x4 x5 x6 x7 x8 x9 x10 x11 x12 x13 x14 x15 x16).trans (fin _ _ _)
    | 10 => exact (v_17_10 _ x0 x1 x2 x3 x4 x5 x6 x7 x8 x9 x10 x11 x12 x13 x14 x15 x16).trans (fin _ _ _)
    | j + 11 => exact (v_17_big _ x0 x1 x2 x3 x4 x5 x6 x7 x8 x9 x10 x11 x12 x13 x14 x15 x16 j)
theorem a_18 (x0 x1 x2 x3 x4 x5 x6 x7 x8 x9 x10 x11 x12 x13 x14 x15 x16 x17 : Int) (n : Int) : go (TQ (.bool false)) (.tsl [.int .i32 x0, .int .i32 x1, .int .i32 x2, .int .i32 x3, .int .i32 x4, .int .i32 x5, .int .i32 x6, .int .i32 x7, .int .i32 x8, .int .i32 x9, .int .i32 x10, .int .i32 x11, .int .i32 x12, .int .i32 x13, .int .i32 x14, .int .i32 x15, .int .i32 x16, .int .i32 x17] 18) (.int .i64 n) = some (.bool true) := by
  cases n with
  | negSucc j => exact (v_18_neg _ x0 x1 x2 x3 x4 x5 x6 x7 x8 x9 x10 x11 x12 x13 x14 x15 x16 x17 j)
  | ofNat j =>
    match j with
    | 0 => exact (v_18_0 _ x0 x1 x2 x3 x4 x5 x6 x7 x8 x9 x10 x11 x12 x13 x14 x15 x16 x17).trans (fin _ _ _)
    | 1 => exact (v_18_1 _ x0 x1 x2 x3 x4 x5 x6 x7 x8 x9 x10 x11 x12 x13 x14 x15 x16 x17).trans (fin _ _ _)
    | 2 => exact (v_18_2 _ x0 x1 x2 x3 x4 x5 x6 x7 x8 x9 x10 x11 x12 x13 x14 x15 x16 x17).trans (fin _ _ _)
    | 3 => exact (v_18_3 _ x0 x1 x2 x3 x4 x5 x6 x7 x8 x9 x10 x11 x12 x13 x14 x15 x16 x17).trans (fin _ _ _)
    | 4 => exact (v_18_4 _ x0 x1 x2 x3 x4 x5 x6 x7 x8 x9 x10 x11 x12 x13 x14 x15 x16 x17).trans (fin _ _ _)
    | 5 => exact (v_18_5 _ x0 x1 x2 x3 x4 x5 x6 x7 x8 x9 x10 x11 x12 x13 x14 x15 x16 x17).trans (fin _ _ _)
    | 6 => exact (v_18_6 _ x0 x1 x2 x3 x4 x5 x6 x7 x8 x9 x10 x11 x12 x13 x14 x15 x16 x17).trans (fin _ _ _)
    | 7 => exact (v_18_7 _ x0 x1 x2 x3 x4 x5 x6 x7 x8 x9 x10 x11 x12 x13 x14 x15 x16 x17).trans (fin _ _ _)
    | 8 => exact (v_18_8 _ x0 x1 x2 x3 x4 x5 x6 x7 x8 x9 x10 x11 x12 x13 x14 x15 x16 x17).trans (fin _ _ _)
    | 9 => exact (v_18_9 _ x0 x1 x2 x3 x4 x5 x6 x7 x8 x9 x10 x11 x12 x13 x14 x15 x16 x17).trans (fin _ _ _)
    | 10 => exact (v_18_10 _ x0 x1 x2 x3 x4 x5 x6 x7 x8 x9 x10 x11 x12 x13 x14 x15 x16 x17).trans (fin _ _ _)
    | j + 11 => exact (v_18_big _ x0 x1 x2 x3 x4 x5 x6 x7 x8 x9 x10 x11 x12 x13 x14 x15 x16 x17 j)
theorem a_19 (x0 x1 x2 x3 x4 x5 x6 x7 x8 x9 x10 x11 x12 x13 x14 x15 x16 x17 x18 : Int) (n : Int) : go (TQ (.bool false)) (.tsl [.int .i32 x0, .int .i32 x1, .int .i32 x2, .int .i32 x3, .int .i32 x4, .int .i32 x5, .int .i32 x6, .int .i32 x7, .int .i32 x8, .int .i32 x9, .int .i32 x10, .int .i32 x11, .int .i32 x12, .int .i32 x13, .int .i32 x14, .int .i32 x15, .int .i32 x16, .int .i32 x17, .int .i32 x18] 19) (.int .i64 n) = some (.bool true) := by
  cases n with
  | negSucc j => exact (v_19_neg _ x0 x1 x2 x3 x4 x5 x6 x7 x8 x9 x10 x11 x12 x13 x14 x15 x16 x17 x18 j)
  | ofNat j =>
    match j with
    | 0 => exact (v_19_0 _ x0 x1 x2 x3 x4 x5 x6 x7 x8 x9 x10 x11 x12 x13 x14 x15 x16 x17 x18).trans (fin _ _ _)
    | 1 => exact (v_19_1 _ x0 x1 x2 x3 x4 x5 x6 x7 x8 x9 x10 x11 x12 x13 x14 x15 x16 x17 x18).trans (fin _ _ _)
    | 2 => exact (v_19_2 _ x0 x1 x2 x3 x4 x5 x6 x7 x8 x9 x10 x11 x12 x13 x14 x15 x16 x17 x18).trans (fin _ _ _)
    | 3 => exact (v_19_3 _ x0 x1 x2 x3 x4 x5 x6 x7 x8 x9 x10 x11 x12 x13 x14 x15 x16 x17 x18).trans (fin _ _ _)
    | 4 => exact (v_19_4 _ x0 x1 x2 x3 x4 x5 x6 x7 x8 x9 x10 x11 x12 x13 x14 x15 x16 x17 x18).trans (fin _ _ _)
    | 5 => exact (v_19_5 _ x0 x1 x2 x3 x4 x5 x6 x7 x8 x9 x10 x11 x12 x13 x14 x15 x16 x17 x18).trans (fin _ _ _)
    | 6 => exact (v_19_6 _ x0 x1 x2 x3 x4 x5 x6 x7 x8 x9 x10 x11 x12 x13 x14 x15 x16 x17 x18).trans (fin _ _ _)
    | 7 => exact (v_19_7 _ x0 x1 x2 x3 x4 x5 x6 x7 x8 x9 x10 x11 x12 x13 x14 x15 x16 x17 x18).trans (fin _ _ _)
    | 8 => exact (v_19_8 _ x0 x1 x2 x3 x4 x5 x6 x7 x8 x9 x10 x11 x12 x13 x14 x15 x16 x17 x18).trans (fin _ _ _)
    | 9 => exact (v_19_9 _ x0 x1 x2 x3 x4 x5 x6 x7 x8 x9 x10 x11 x12 x13 x14 x15 x16 x17 x18).trans (fin _ _ _)
    | 10 => exact (v_19_10 _ x0 x1 x2 x3 x4 x5 x6 x7 x8 x9 x10 x11 x12 x13 x14 x15 x16 x17 x18).trans (fin _ _ _)
    | j + 11 => exact (v_19_big _ x0 x1 x2 x3 x4 x5 x6 x7 x8 x9 x10 x11 x12 x13 x14 x15 x16 x17 x18 j)
theorem a_20 (x0 x1 x2 x3 x4 x5 x6 x7 x8 x9 x10 x11 x12 x13 x14 x15 x16 x17 x18 x19 : Int) (n : Int) : go (TQ (.bool false)) (.tsl [.int .i32 x0, .int .i32 x1, .int .i32 x2, .int .i32 x3, .int .i32 x4, .int .i32 x5, .int .i32 x6, .int .i32 x7, .int .i32 x8, .int .i32 x9, .int .i32 x10, .int .i32 x11, .int .i32 x12, .int .i32 x13, .int .i32 x14, .int .i32 x15, .int .i32 x16, .int .i32 x17, .int .i32 x18, .int .i32 x19] 20) (.int .i64 n) = some (.bool true) := by
  cases n with
  | negSucc j => exact (v_20_neg _ x0 x1 x2 x3 x4 x5 x6 x7 x8 x9 x10 x11 x12 x13 x14 x15 x16 x17 x18 x19 j)
  | ofNat j =>
    match j with
    | 0 => exact (v_20_0 _ x0 x1 x2 x3 x4 x5 x6 x7 x8 x9 x10 x11 x12 x13 x14 x15 x16 x17 x18 x19).trans (fin _ _ _)
    | 1 => exact (v_20_1 _ x0 x1 x2 x3 x4 x5 x6 x7 x8 x9 x10 x11 x12 x13 x14 x15 x16 x17 x18 x19).trans (fin _ _ _)
    | 2 => exact (v_20_2 _ x0 x1 x2 x3 x4 x5 x6 x7 x8 x9 x10 x11 x12 x13 x14 x15 x16 x17 x18 x19).trans (fin _ _ _)
    | 3 => exact (v_20_3 _ x0 x1 x2 x3 x4 x5 x6 x7 x8 x9 x10 x11 x12 x13 x14 x15 x16 x17 x18 x19).trans (fin _ _ _)
    | 4 => exact (v_20_4 _ x0 x1 x2 x3 x4 x5 x6 x7 x8 x9 x10 x11 x12 x13 x14 x15 x16 x17 x18 x19).trans (fin _ _ _)
    | 5 => exact (v_20_5 _ x0 x1 x2 x3 x4 x5 x6 x7 x8 x9 x10 x11 x12 x13 x14 x15 x16 x17 x18 x19).trans (fin _ _ _)
    | 6 => exact (v_20_6 _ x0 x1 x2 x3 x4 x5 x6 x7 x8 x9 x10 x11 x12 x13 x14 x15 x16 x17 x18 x19).trans (fin _ _ _)
    | 7 => exact (v_20_7 _ x0 x1 x2 x3 x4 x5 x6 x7 x8 x9 x10 x11 x12 x13 x14 x15 x16 x17 x18 x19).trans (fin _ _ _)
    | 8 => exact (v_20_8 _ x0 x1 x2 x3 x4 x5 x6 x7 x8 x9 x10 x11 x12 x13 x14 x15 x16 x17 x18 x19).trans (fin _ _ _)
    | 9 => exact (v_20_9 _ x0 x1 x2 x3 x4 x5 x6 x7 x8 x9 x10 x11 x12 x13 x14 x15 x16 x17 x18 x19).trans (fin _ _ _)
    | 10 => exact (v_20_10 _ x0 x1 x2 x3 x4 x5 x6 x7 x8 x9 x10 x11 x12 x13 x14 x15 x16 x17 x18 x19).trans (fin _ _ _)
    | j + 11 => exact (v_20_big _ x0 x1 x2 x3 x4 x5 x6 x7 x8 x9 x10 x11 x12 x13 x14 x15 x16 x17 x18 x19 j)
theorem a_21 (x0 x1 x2 x3 x4 x5 x6 x7 x8 x9 x10 x11 x12 x13 x14 x15 x16 x17 x18 x19 : Int) (y : AV) (l : List AV) (m : Nat) (n : Int) : go (TQ (.bool false)) (.tsl (.int .i32 x0 :: .int .i32 x1 :: .int .i32 x2 :: .int .i32 x3 :: .int .i32 x4 :: .int .i32 x5 :: .int .i32 x6 :: .int .i32 x7 :: .int .i32 x8 :: .int .i32 x9 :: .int .i32 x10 :: .int .i32 x11 :: .int .i32 x12 :: .int .i32 x13 :: .int .i32 x14 :: .int .i32 x15 :: .int .i32 x16 :: .int .i32 x17 :: .int .i32 x18 :: .int .i32 x19 :: y :: l) (m + 21)) (.int .i64 n) = some (.bool true) := by
  cases n with
  | negSucc j => exact ((w1 _ x0 x1 x2 x3 x4 x5 x6 x7 x8 x9 x10 x11 x12 x13 x14 x15 x16 x17 x18 x19 y l m _).trans (w2 _ _ _)).trans <| (v_21_neg _ x0 x1 x2 x3 x4 x5 x6 x7 x8 x9 x10 x11 x12 x13 x14 x15 x16 x17 x18 x19 y l m j)
  | ofNat j =>
    match j with
    | 0 => exact ((w1 _ x0 x1 x2 x3 x4 x5 x6 x7 x8 x9 x10 x11 x12 x13 x14 x15 x16 x17 x18 x19 y l m _).trans (w2 _ _ _)).trans <| (v_21_0 _ x0 x1 x2 x3 x4 x5 x6 x7 x8 x9 x10 x11 x12 x13 x14 x15 x16 x17 x18 x19 y l m).trans (fin _ _ _)
    | 1 => exact ((w1 _ x0 x1 x2 x3 x4 x5 x6 x7 x8 x9 x10 x11 x12 x13 x14 x15 x16 x17 x18 x19 y l m _).trans (w2 _ _ _)).trans <| (v_21_1 _ x0 x1 x2 x3 x4 x5 x6 x7 x8 x9 x10 x11 x12 x13 x14 x15 x16 x17 x18 x19 y l m).trans (fin _ _ _)
    | 2 => exact ((w1 _ x0 x1 x2 x3 x4 x5 x6 x7 x8 x9 x10 x11 x12 x13 x14 x15 x16 x17 x18 x19 y l m _).trans (w2 _ _ _)).trans <| (v_21_2 _ x0 x1 x2 x3 x4 x5 x6 x7 x8 x9 x10 x11 x12 x13 x14 x15 x16 x17 x18 x19 y l m).trans (fin _ _ _)
    | 3 => exact ((w1 _ x0 x1 x2 x3 x4 x5 x6 x7 x8 x9 x10 x11 x12 x13 x14 x15 x16 x17 x18 x19 y l m _).trans (w2 _ _ _)).trans <| (v_21_3 _ x0 x1 x2 x3 x4 x5 x6 x7 x8 x9 x10 x11 x12 x13 x14 x15 x16 x17 x18 x19 y l m).trans (fin _ _ _)
    | 4 => exact ((w1 _ x0 x1 x2 x3 x4 x5 x6 x7 x8 x9 x10 x11 x12 x13 x14 x15 x16 x17 x18 x19 y l m _).trans (w2 _ _ _)).trans <| (v_21_4 _ x0 x1 x2 x3 x4 x5 x6 x7 x8 x9 x10 x11 x12 x13 x14 x15 x16 x17 x18 x19 y l m).trans (fin _ _ _)
    | 5 => exact ((w1 _ x0 x1 x2 x3 x4 x5 x6 x7 x8 x9 x10 x11 x12 x13 x14 x15 x16 x17 x18 x19 y l m _).trans (w2 _ _ _)).trans <| (v_21_5 _ x0 x1 x2 x3 x4 x5 x6 x7 x8 x9 x10 x11 x12 x13 x14 x15 x16 x17 x18 x19 y l m).trans (fin _ _ _)
    | 6 => exact ((w1 _ x0 x1 x2 x3 x4 x5 x6 x7 x8 x9 x10 x11 x12 x13 x14 x15 x16 x17 x18 x19 y l m _).trans (w2 _ _ _)).trans <| (v_21_6 _ x0 x1 x2 x3 x4 x5 x6 x7 x8 x9 x10 x11 x12 x13 x14 x15 x16 x17 x18 x19 y l m).trans (fin _ _ _)
    | 7 => exact ((w1 _ x0 x1 x2 x3 x4 x5 x6 x7 x8 x9 x10 x11 x12 x13 x14 x15 x16 x17 x18 x19 y l m _).trans (w2 _ _ _)).trans <| (v_21_7 _ x0 x1 x2 x3 x4 x5 x6 x7 x8 x9 x10 x11 x12 x13 x14 x15 x16 x17 x18 x19 y l m).trans (fin _ _ _)
    | 8 => exact ((w1 _ x0 x1 x2 x3 x4 x5 x6 x7 x8 x9 x10 x11 x12 x13 x14 x15 x16 x17 x18 x19 y l m _).trans (w2 _ _ _)).trans <| (v_21_8 _ x0 x1 x2 x3 x4 x5 x6 x7 x8 x9 x10 x11 x12 x13 x14 x15 x16 x17 x18 x19 y l m).trans (fin _ _ _)
    | 9 => exact ((w1 _ x0 x1 x2 x3 x4 x5 x6 x7 x8 x9 x10 x11 x12 x13 x14 x15 x16 x17 x18 x19 y l m _).trans (w2 _ _ _)).trans <| (v_21_9 _ x0 x1 x2 x3 x4 x5 x6 x7 x8 x9 x10 x11 x12 x13 x14 x15 x16 x17 x18 x19 y l m).trans (fin _ _ _)
    | 10 => exact ((w1 _ x0 x1 x2 x3 x4 x5 x6 x7 x8 x9 x10 x11 x12 x13 x14 x15 x16 x17 x18 x19 y l m _).trans (w2 _ _ _)).trans <| (v_21_10 _ x0 x1 x2 x3 x4 x5 x6 x7 x8 x9 x10 x11 x12 x13 x14 x15 x16 x17 x18 x19 y l m).trans (fin _ _ _)
    | j + 11 => exact ((w1 _ x0 x1 x2 x3 x4 x5 x6 x7 x8 x9 x10 x11 x12 x13 x14 x15 x16 x17 x18 x19 y l m _).trans (w2 _ _ _)).trans <| (v_21_big _ x0 x1 x2 x3 x4 x5 x6 x7 x8 x9 x10 x11 x12 x13 x14 x15 x16 x17 x18 x19 y l m j)
theorem a_nil (n : Int) : go (TQ (.bool false)) (.nil .sl) (.int .i64 n) = some (.bool true) := by
  cases n with
  | negSucc j => exact (v_nil_neg _  j)
  | ofNat j =>
    match j with
    | 0 => exact (v_nil_0 _ ).trans (fin _ _ _)
    | 1 => exact (v_nil_1 _ ).trans (fin _ _ _)
    | 2 => exact (v_nil_2 _ ).trans (fin _ _ _)
    | 3 => exact (v_nil_3 _ ).trans (fin _ _ _)
    | 4 => exact (v_nil_4 _ ).trans (fin _ _ _)
    | 5 => exact (v_nil_5 _ ).trans (fin _ _ _)
    | 6 => exact (v_nil_6 _ ).trans (fin _ _ _)
    | 7 => exact (v_nil_7 _ ).trans (fin _ _ _)
    | 8 => exact (v_nil_8 _ ).trans (fin _ _ _)
    | 9 => exact (v_nil_9 _ ).trans (fin _ _ _)
    | 10 => exact (v_nil_10 _ ).trans (fin _ _ _)
    | j + 11 => exact (v_nil_big _  j)
theorem law_run (ps : List AV) (h : TyVs Tryz.prog 4 Tryz.f3.params.toList ps) : ∃ n h' n' lg, callN Tryz.prog ann n 3 ps (fun _ => none) 0 = some (.bool true, h', n', lg) := by
  obtain ⟨a, _, rfl, ha, b, _, rfl, hb, rfl⟩ := h
  have ha := ty_ints (P := Tryz.prog) (t := 22) (e := 21) (i := .i32) (by kernel_rfl) (by kernel_rfl) ha
  obtain ⟨d, rfl, _⟩ := ty_int (P := Tryz.prog) (t := 3) (i := .i64) (by kernel_rfl) hb
  refine runAsk_ok (o := (askN 12 (orP (TQ (.bool false)) (.bool false)) askD)) (askN_ok (tq_ok _) askD_ok) tk17 (k := 5000) ?_
  rcases ha with rfl | ⟨ns, rfl, _⟩
  · exact a_nil d
  · match ns with
    | [] => exact a_0  d
    | [x0] => exact a_1 x0 d
    | [x0, x1] => exact a_2 x0 x1 d
    | [x0, x1, x2] => exact a_3 x0 x1 x2 d
    | [x0, x1, x2, x3] => exact a_4 x0 x1 x2 x3 d
    | [x0, x1, x2, x3, x4] => exact a_5 x0 x1 x2 x3 x4 d
    | [x0, x1, x2, x3, x4, x5] => exact a_6 x0 x1 x2 x3 x4 x5 d
    | [x0, x1, x2, x3, x4, x5, x6] => exact a_7 x0 x1 x2 x3 x4 x5 x6 d
    | [x0, x1, x2, x3, x4, x5, x6, x7] => exact a_8 x0 x1 x2 x3 x4 x5 x6 x7 d
    | [x0, x1, x2, x3, x4, x5, x6, x7, x8] => exact a_9 x0 x1 x2 x3 x4 x5 x6 x7 x8 d
    | [x0, x1, x2, x3, x4, x5, x6, x7, x8, x9] => exact a_10 x0 x1 x2 x3 x4 x5 x6 x7 x8 x9 d
    | [x0, x1, x2, x3, x4, x5, x6, x7, x8, x9, x10] => exact a_11 x0 x1 x2 x3 x4 x5 x6 x7 x8 x9 x10 d
    | [x0, x1, x2, x3, x4, x5, x6, x7, x8, x9, x10, x11] => exact a_12 x0 x1 x2 x3 x4 x5 x6 x7 x8 x9 x10 x11 d
    | [x0, x1, x2, x3, x4, x5, x6, x7, x8, x9, x10, x11, x12] => exact a_13 x0 x1 x2 x3 x4 x5 x6 x7 x8 x9 x10 x11 x12 d
    | [x0, x1, x2, x3, x4, x5, x6, x7, x8, x9, x10, x11, x12, x13] => exact a_14 x0 x1 x2 x3 x4 x5 x6 x7 x8 x9 x10 x11 x12 x13 d
    | [x0, x1, x2, x3, x4, x5, x6, x7, x8, x9, x10, x11, x12, x13, x14] => exact a_15 x0 x1 x2 x3 x4 x5 x6 x7 x8 x9 x10 x11 x12 x13 x14 d
    | [x0, x1, x2, x3, x4, x5, x6, x7, x8, x9, x10, x11, x12, x13, x14, x15] => exact a_16 x0 x1 x2 x3 x4 x5 x6 x7 x8 x9 x10 x11 x12 x13 x14 x15 d
    | [x0, x1, x2, x3, x4, x5, x6, x7, x8, x9, x10, x11, x12, x13, x14, x15, x16] => exact a_17 x0 x1 x2 x3 x4 x5 x6 x7 x8 x9 x10 x11 x12 x13 x14 x15 x16 d
    | [x0, x1, x2, x3, x4, x5, x6, x7, x8, x9, x10, x11, x12, x13, x14, x15, x16, x17] => exact a_18 x0 x1 x2 x3 x4 x5 x6 x7 x8 x9 x10 x11 x12 x13 x14 x15 x16 x17 d
    | [x0, x1, x2, x3, x4, x5, x6, x7, x8, x9, x10, x11, x12, x13, x14, x15, x16, x17, x18] => exact a_19 x0 x1 x2 x3 x4 x5 x6 x7 x8 x9 x10 x11 x12 x13 x14 x15 x16 x17 x18 d
    | [x0, x1, x2, x3, x4, x5, x6, x7, x8, x9, x10, x11, x12, x13, x14, x15, x16, x17, x18, x19] => exact a_20 x0 x1 x2 x3 x4 x5 x6 x7 x8 x9 x10 x11 x12 x13 x14 x15 x16 x17 x18 x19 d
    | x0 :: x1 :: x2 :: x3 :: x4 :: x5 :: x6 :: x7 :: x8 :: x9 :: x10 :: x11 :: x12 :: x13 :: x14 :: x15 :: x16 :: x17 :: x18 :: x19 :: y :: ns => exact a_21 x0 x1 x2 x3 x4 x5 x6 x7 x8 x9 x10 x11 x12 x13 x14 x15 x16 x17 x18 x19 (.int .i32 y) (ns.map (.int .i32)) ns.length d
end Go.Proofs.SlimCode
