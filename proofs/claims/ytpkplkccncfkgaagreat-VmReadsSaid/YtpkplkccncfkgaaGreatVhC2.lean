/- Code for the evaluator, part 2. -/
import Derived.Test.YtpkplkccncfkgaaGreatVhC1
open Go Go.Abs
namespace Go.Proofs.SlimCode
set_option maxRecDepth 100000
noncomputable section
/- daguerre/kind.Class -/
def H247 : F2C := fun c _ v s K =>
pop v fun x0 v =>
endE v (
c (.mk .d0 .d3 .d7 .d5) [x0] s fun x1 s =>
gK x1 true x0 fun x2 =>
gV x1 true (vLens x2) fun x3 =>
gV x1 true (bGt x3 (ci 1)) fun x4 =>
vPick x1 x4 cf fun x5 =>
gK x5 true x0 fun x6 =>
gV x5 true (vIxs x6 (ci 0)) fun x7 =>
gH x5 true (c (.mk .d0 .d3 .d7 .d6) [x7]) s fun x8 s =>
vPick x5 x8 cf fun x9 =>
K x9 s)
def F247 : F2 := .fn H247 true
theorem fe247 : feE Tryz.prog ann 247 1 [] = some F247 := by kernel_rfl
/- daguerre/kind.Name -/
def H248 : F2C := fun c _ v s K =>
pop v fun x0 v =>
endE v (
bEqF x0 (.str [36, 105, 110, 105, 116]) fun x1 =>
gK x1 false x0 fun x2 =>
gH x1 false (c (.mk .d0 .d3 .d7 .d5) [x2]) s fun x3 s =>
gK x1 false x3 fun x4 =>
gK x4 true x0 fun x5 =>
gV x4 true (vIxs x5 (ci 0)) fun x6 =>
gH x4 true (c (.mk .d0 .d3 .d7 .d7) [x6]) s fun x7 s =>
gV x1 false (vPick x4 x7 cf) fun x8 =>
vPick x1 ct x8 fun x9 =>
K x9 s)
def F248 : F2 := .fn H248 true
theorem fe248 : feE Tryz.prog ann 248 1 [] = some F248 := by kernel_rfl
/- daguerre/kind.May -/
def H250 : F2C := fun c _ v s K =>
pop v fun x0 v =>
endE v (
c (.mk .d0 .d4 .d0 .d0) [x0, (.str [91])] s fun x1 s =>
c (.mk .d0 .d4 .d0 .d0) [x1, (.str [91])] s fun x2 s =>
bEqF x2 (.str [73]) fun x3 =>
gK x3 false x2 fun x4 =>
gH x3 false (c (.mk .d0 .d3 .d6 .d7) [x4]) s fun x5 s =>
vPick x3 ct x5 fun x6 =>
K x6 s)
def F250 : F2 := .fn H250 true
theorem fe250 : feE Tryz.prog ann 250 1 [] = some F250 := by kernel_rfl
/- daguerre/kind.Ret -/
def H251 : F2C := fun c _ v s K =>
pop v fun x0 v =>
endE v (
bEqF x0 (.str [86]) fun x1 =>
gK x1 false x0 fun x2 =>
gH x1 false (c (.mk .d0 .d3 .d7 .d2) [x2]) s fun x3 s =>
vPick x1 ct x3 fun x4 =>
K x4 s)
def F251 : F2 := .fn H251 true
theorem fe251 : feE Tryz.prog ann 251 1 [] = some F251 := by kernel_rfl
/- daguerre/kind.Ref -/
def H246 : F2C := fun c _ v s K =>
pop v fun x0 v =>
endE v (
bEqT x0 (.str [73]) fun x1 =>
gK x1 true x0 fun x2 =>
gH x1 true (c (.mk .d0 .d3 .d7 .d2) [x2]) s fun x3 s =>
vPick x1 x3 cf fun x4 =>
K x4 s)
def F246 : F2 := .fn H246 true
theorem fe246 : feE Tryz.prog ann 246 1 [] = some F246 := by kernel_rfl
/- daguerre/kind.Array -/
def H252 : F2C := fun c _ v s K =>
pop v fun x0 v =>
endE v (
c (.mk .d0 .d3 .d7 .d2) [x0] s fun x1 s =>
vGen (.un .not (.c x1)) fun x2 =>
gK x2 false x0 fun x3 =>
gV x2 false (bAdd (.str [91]) x3) fun x4 =>
gH x2 false (c (.mk .d0 .d3 .d7 .d2) [x4]) s fun x5 s =>
gV x2 false (vGen (.un .not (.c x5))) fun x6 =>
vPick x2 ct x6 fun x7 =>
cnd x7 (K (.str []) s)
(bAdd (.str [91]) x0 fun x8 =>
K x8 s))
def F252 : F2 := .fn H252 true
theorem fe252 : feE Tryz.prog ann 252 1 [.j []] = some F252 := by kernel_rfl
/- daguerre/kind.word -/
def H253 : F2C := fun c k v s K =>
pop v fun x0 v =>
endE v (
vLens x0 fun x1 =>
jn (fun _ s =>
bEqT x0 (.str []) fun x3 =>
gK x3 true x0 fun x4 =>
gV x3 true (vLens x4) fun x5 =>
gV x3 true (bLe x5 (ci 8)) fun x6 =>
vPick x3 x6 cf fun x7 =>
K x7 s) fun K2 =>
loopE k (fun K8 v s =>
pop v fun x9 _ =>
bLt x9 x1 fun x10 =>
cnd x10 (jn (fun _ s =>
bAdd x9 (ci 1) fun x12 =>
K8 [x12] s) fun K11 =>
vIxs x0 x9 fun x13 =>
c (.mk .d0 .d3 .d7 .d7) [x13] s fun x14 s =>
vGen (.un .not (.c x14)) fun x15 =>
gK x15 true x0 fun x16 =>
gK x15 true x9 fun x17 =>
gV x15 true (vIxs x16 x17) fun x18 =>
gH x15 true (c (.mk .d0 .d3 .d7 .d6) [x18]) s fun x19 s =>
gV x15 true (vGen (.un .not (.c x19))) fun x20 =>
vPick x15 x20 cf fun x21 =>
gK x21 true x0 fun x22 =>
gK x21 true x9 fun x23 =>
gV x21 true (vIxs x22 x23) fun x24 =>
gH x21 true (c (.mk .d0 .d4 .d0 .d1) [x24]) s fun x25 s =>
gV x21 true (vGen (.un .not (.c x25))) fun x26 =>
vPick x21 x26 cf fun x27 =>
cnd x27 (K cf s)
(K11 [] s))
(K2 [] s)) [(ci 0)] s)
def F253 : F2 := .fn H253 true
theorem fe253 : feE Tryz.prog ann 253 1 [.j [], .j [6], .j [], .j [], .j []] = some F253 := by kernel_rfl
/- daguerre/kind.great -/
def H254 : F2C := fun _ _ v s K =>
pop v fun x0 v =>
endE v (
bGe x0 (cu 65) fun x1 =>
gK x1 true x0 fun x2 =>
gV x1 true (bLe x2 (cu 90)) fun x3 =>
vPick x1 x3 cf fun x4 =>
K x4 s)
def F254 : F2 := .fn H254 true
theorem fe254 : feE Tryz.prog ann 254 1 [] = some F254 := by kernel_rfl
/- daguerre/kind.small -/
def H255 : F2C := fun _ _ v s K =>
pop v fun x0 v =>
endE v (
bGe x0 (cu 97) fun x1 =>
gK x1 true x0 fun x2 =>
gV x1 true (bLe x2 (cu 122)) fun x3 =>
vPick x1 x3 cf fun x4 =>
K x4 s)
def F255 : F2 := .fn H255 true
theorem fe255 : feE Tryz.prog ann 255 1 [] = some F255 := by kernel_rfl
/- strings.TrimPrefix -/
def H256 : F2C := fun c _ v s K =>
pop v fun x0 v =>
pop v fun x1 v =>
endE v (
c (.mk .d0 .d4 .d0 .d2) [x0, x1] s fun x2 s =>
K x2 s)
def F256 : F2 := .fn H256 true
theorem fe256 : feE Tryz.prog ann 256 2 [] = some F256 := by kernel_rfl
/- daguerre/kind.digit -/
def H257 : F2C := fun _ _ v s K =>
pop v fun x0 v =>
endE v (
bGe x0 (cu 48) fun x1 =>
gK x1 true x0 fun x2 =>
gV x1 true (bLe x2 (cu 57)) fun x3 =>
vPick x1 x3 cf fun x4 =>
K x4 s)
def F257 : F2 := .fn H257 true
theorem fe257 : feE Tryz.prog ann 257 1 [] = some F257 := by kernel_rfl
/- internal/stringslite.TrimPrefix -/
def H258 : F2C := fun c _ v s K =>
pop v fun x0 v =>
pop v fun x1 v =>
endE v (
c (.mk .d0 .d4 .d0 .d3) [x0, x1] s fun x2 s =>
cnd x2 (vLens x1 fun x3 =>
vGen (.sls (.c x0) (some (.c x3)) none) fun x4 =>
K x4 s)
(K x0 s))
def F258 : F2 := .fn H258 true
theorem fe258 : feE Tryz.prog ann 258 2 [.j []] = some F258 := by kernel_rfl
/- internal/stringslite.HasPrefix -/
def H259 : F2C := fun _ _ v s K =>
pop v fun x0 v =>
pop v fun x1 v =>
endE v (
vLens x0 fun x2 =>
vLens x1 fun x3 =>
bGe x2 x3 fun x4 =>
gK x4 true x0 fun x5 =>
gK x4 true x1 fun x6 =>
gV x4 true (vLens x6) fun x7 =>
gV x4 true (vGen (.sls (.c x5) none (some (.c x7)))) fun x8 =>
gK x4 true x1 fun x9 =>
gV x4 true (bEqF x8 x9) fun x10 =>
vPick x4 x10 cf fun x11 =>
K x11 s)
def F259 : F2 := .fn H259 true
theorem fe259 : feE Tryz.prog ann 259 2 [] = some F259 := by kernel_rfl
structure Hy (k : Nat) : Prop where
  h215 : 1 ≤ k → PureC Tryz.prog ann 215 [] (.bool true)
  h212 : 2 ≤ k → PureC Tryz.prog ann 212 [] (.bool true)
  h244 : 3 ≤ k → PureC Tryz.prog ann 244 [] (.bool true)
  h226 : 4 ≤ k → PureC Tryz.prog ann 226 [] (.bool true)
  h216 : 5 ≤ k → PureC Tryz.prog ann 216 [] (.bool true)
  h213 : 6 ≤ k → PureC Tryz.prog ann 213 [] (.bool true)
  h207 : 7 ≤ k → PureC Tryz.prog ann 207 [] (.bool true)
  h188 : 8 ≤ k → PureC Tryz.prog ann 188 [] (.bool true)
  h126 : 9 ≤ k → PureC Tryz.prog ann 126 [] (.bool true)
  h55 : 10 ≤ k → PureC Tryz.prog ann 55 [] (.bool true)
  h21 : 11 ≤ k → PureC Tryz.prog ann 21 [] (.bool true)
  h12 : 12 ≤ k → PureC Tryz.prog ann 12 [] (.bool true)
  h22 : 13 ≤ k → PureC Tryz.prog ann 22 [] (.bool true)
  h13 : 14 ≤ k → PureC Tryz.prog ann 13 [] (.bool true)
  h23 : 15 ≤ k → PureC Tryz.prog ann 23 [] (.bool true)
  h14 : 16 ≤ k → PureC Tryz.prog ann 14 [] (.bool true)
  h5 : 17 ≤ k → PureC Tryz.prog ann 5 [] (.bool true)
theorem fm215 (k : Nat) (h : 1 ≤ k → PureC Tryz.prog ann 215 [] (.bool true)) : F2ok Tryz.prog ann 215 (M215 k) := by
  have h0 : F2ok Tryz.prog ann 215 (.pur H215 true mNo) := fe2_of fe215
  unfold M215
  cases hb : Nat.ble 1 k with
  | true => exact fe2_memo h0 (h (Nat.le_of_ble_eq_true hb))
  | false => exact h0
theorem fm212 (k : Nat) (h : 2 ≤ k → PureC Tryz.prog ann 212 [] (.bool true)) : F2ok Tryz.prog ann 212 (M212 k) := by
  have h0 : F2ok Tryz.prog ann 212 (.pur H212 true mNo) := fe2_of fe212
  unfold M212
  cases hb : Nat.ble 2 k with
  | true => exact fe2_memo h0 (h (Nat.le_of_ble_eq_true hb))
  | false => exact h0
theorem fm244 (k : Nat) (h : 3 ≤ k → PureC Tryz.prog ann 244 [] (.bool true)) : F2ok Tryz.prog ann 244 (M244 k) := by
  have h0 : F2ok Tryz.prog ann 244 (.pur H244 true mNo) := fe2_of fe244
  unfold M244
  cases hb : Nat.ble 3 k with
  | true => exact fe2_memo h0 (h (Nat.le_of_ble_eq_true hb))
  | false => exact h0
theorem fm226 (k : Nat) (h : 4 ≤ k → PureC Tryz.prog ann 226 [] (.bool true)) : F2ok Tryz.prog ann 226 (M226 k) := by
  have h0 : F2ok Tryz.prog ann 226 (.pur H226 true mNo) := fe2_of fe226
  unfold M226
  cases hb : Nat.ble 4 k with
  | true => exact fe2_memo h0 (h (Nat.le_of_ble_eq_true hb))
  | false => exact h0
theorem fm216 (k : Nat) (h : 5 ≤ k → PureC Tryz.prog ann 216 [] (.bool true)) : F2ok Tryz.prog ann 216 (M216 k) := by
  have h0 : F2ok Tryz.prog ann 216 (.pur H216 true mNo) := fe2_of fe216
  unfold M216
  cases hb : Nat.ble 5 k with
  | true => exact fe2_memo h0 (h (Nat.le_of_ble_eq_true hb))
  | false => exact h0
theorem fm213 (k : Nat) (h : 6 ≤ k → PureC Tryz.prog ann 213 [] (.bool true)) : F2ok Tryz.prog ann 213 (M213 k) := by
  have h0 : F2ok Tryz.prog ann 213 (.pur H213 true mNo) := fe2_of fe213
  unfold M213
  cases hb : Nat.ble 6 k with
  | true => exact fe2_memo h0 (h (Nat.le_of_ble_eq_true hb))
  | false => exact h0
theorem fm207 (k : Nat) (h : 7 ≤ k → PureC Tryz.prog ann 207 [] (.bool true)) : F2ok Tryz.prog ann 207 (M207 k) := by
  have h0 : F2ok Tryz.prog ann 207 (.pur H207 true mNo) := fe2_of fe207
  unfold M207
  cases hb : Nat.ble 7 k with
  | true => exact fe2_memo h0 (h (Nat.le_of_ble_eq_true hb))
  | false => exact h0
theorem fm188 (k : Nat) (h : 8 ≤ k → PureC Tryz.prog ann 188 [] (.bool true)) : F2ok Tryz.prog ann 188 (M188 k) := by
  have h0 : F2ok Tryz.prog ann 188 (.pur H188 true mNo) := fe2_of fe188
  unfold M188
  cases hb : Nat.ble 8 k with
  | true => exact fe2_memo h0 (h (Nat.le_of_ble_eq_true hb))
  | false => exact h0
theorem fm126 (k : Nat) (h : 9 ≤ k → PureC Tryz.prog ann 126 [] (.bool true)) : F2ok Tryz.prog ann 126 (M126 k) := by
  have h0 : F2ok Tryz.prog ann 126 (.pur H126 true mNo) := fe2_of fe126
  unfold M126
  cases hb : Nat.ble 9 k with
  | true => exact fe2_memo h0 (h (Nat.le_of_ble_eq_true hb))
  | false => exact h0
theorem fm55 (k : Nat) (h : 10 ≤ k → PureC Tryz.prog ann 55 [] (.bool true)) : F2ok Tryz.prog ann 55 (M55 k) := by
  have h0 : F2ok Tryz.prog ann 55 (.pur H55 true mNo) := fe2_of fe55
  unfold M55
  cases hb : Nat.ble 10 k with
  | true => exact fe2_memo h0 (h (Nat.le_of_ble_eq_true hb))
  | false => exact h0
theorem fm21 (k : Nat) (h : 11 ≤ k → PureC Tryz.prog ann 21 [] (.bool true)) : F2ok Tryz.prog ann 21 (M21 k) := by
  have h0 : F2ok Tryz.prog ann 21 (.pur H21 true mNo) := fe2_of fe21
  unfold M21
  cases hb : Nat.ble 11 k with
  | true => exact fe2_memo h0 (h (Nat.le_of_ble_eq_true hb))
  | false => exact h0
theorem fm12 (k : Nat) (h : 12 ≤ k → PureC Tryz.prog ann 12 [] (.bool true)) : F2ok Tryz.prog ann 12 (M12 k) := by
  have h0 : F2ok Tryz.prog ann 12 (.pur H12 true mNo) := fe2_of fe12
  unfold M12
  cases hb : Nat.ble 12 k with
  | true => exact fe2_memo h0 (h (Nat.le_of_ble_eq_true hb))
  | false => exact h0
theorem fm22 (k : Nat) (h : 13 ≤ k → PureC Tryz.prog ann 22 [] (.bool true)) : F2ok Tryz.prog ann 22 (M22 k) := by
  have h0 : F2ok Tryz.prog ann 22 (.pur H22 true mNo) := fe2_of fe22
  unfold M22
  cases hb : Nat.ble 13 k with
  | true => exact fe2_memo h0 (h (Nat.le_of_ble_eq_true hb))
  | false => exact h0
theorem fm13 (k : Nat) (h : 14 ≤ k → PureC Tryz.prog ann 13 [] (.bool true)) : F2ok Tryz.prog ann 13 (M13 k) := by
  have h0 : F2ok Tryz.prog ann 13 (.pur H13 true mNo) := fe2_of fe13
  unfold M13
  cases hb : Nat.ble 14 k with
  | true => exact fe2_memo h0 (h (Nat.le_of_ble_eq_true hb))
  | false => exact h0
theorem fm23 (k : Nat) (h : 15 ≤ k → PureC Tryz.prog ann 23 [] (.bool true)) : F2ok Tryz.prog ann 23 (M23 k) := by
  have h0 : F2ok Tryz.prog ann 23 (.pur H23 true mNo) := fe2_of fe23
  unfold M23
  cases hb : Nat.ble 15 k with
  | true => exact fe2_memo h0 (h (Nat.le_of_ble_eq_true hb))
  | false => exact h0
theorem fm14 (k : Nat) (h : 16 ≤ k → PureC Tryz.prog ann 14 [] (.bool true)) : F2ok Tryz.prog ann 14 (M14 k) := by
  have h0 : F2ok Tryz.prog ann 14 (.pur H14 true mNo) := fe2_of fe14
  unfold M14
  cases hb : Nat.ble 16 k with
  | true => exact fe2_memo h0 (h (Nat.le_of_ble_eq_true hb))
  | false => exact h0
theorem fm5 (k : Nat) (h : 17 ≤ k → PureC Tryz.prog ann 5 [] (.bool true)) : F2ok Tryz.prog ann 5 (M5 k) := by
  have h0 : F2ok Tryz.prog ann 5 (.pur H5 true mNo) := fe2_of fe5
  unfold M5
  cases hb : Nat.ble 17 k with
  | true => exact fe2_memo h0 (h (Nat.le_of_ble_eq_true hb))
  | false => exact h0
def tbN : N8 (Option F2) := ⟨none, none, none, none, none, none, none, none⟩
def tbNN : N8 (N8 (Option F2)) := ⟨tbN, tbN, tbN, tbN, tbN, tbN, tbN, tbN⟩
def tbNNN : N8 (N8 (N8 (Option F2))) := ⟨tbNN, tbNN, tbNN, tbNN, tbNN, tbNN, tbNN, tbNN⟩
theorem zN (b : Nat) : Lf Tryz.prog ann b tbN := ⟨trivial, trivial, trivial, trivial, trivial, trivial, trivial, trivial⟩
theorem zNN (b : Nat) : Lg Tryz.prog ann b tbNN := ⟨zN _, zN _, zN _, zN _, zN _, zN _, zN _, zN _⟩
theorem zNNN (b : Nat) : Lh Tryz.prog ann b tbNNN := ⟨zNN _, zNN _, zNN _, zNN _, zNN _, zNN _, zNN _, zNN _⟩
def tb0_0_0 (_k : Nat) : N8 (Option F2) := ⟨none, none, none, some F3, some F4, some (M5 _k), some F6, some F7⟩
theorem l0_0_0 (_k : Nat) (_h : Hy _k) : Lf Tryz.prog ann 0 (tb0_0_0 _k) := ⟨trivial, trivial, trivial, (fe2_of fe3), (fe2_of fe4), (fm5 _k _h.h5), (fe2_of fe6), (fe2_of fe7)⟩
def tb0_0_1 (_k : Nat) : N8 (Option F2) := ⟨some F8, some F9, some F10, some F11, some (M12 _k), some (M13 _k), some (M14 _k), some F15⟩
theorem l0_0_1 (_k : Nat) (_h : Hy _k) : Lf Tryz.prog ann 8 (tb0_0_1 _k) := ⟨(fe2_of fe8), (fe2_of fe9), (fe2_of fe10), (fe2_of fe11), (fm12 _k _h.h12), (fm13 _k _h.h13), (fm14 _k _h.h14), (fe2_of fe15)⟩
def tb0_0_2 (_k : Nat) : N8 (Option F2) := ⟨some F16, some F17, some F18, some F19, some F20, some (M21 _k), some (M22 _k), some (M23 _k)⟩
theorem l0_0_2 (_k : Nat) (_h : Hy _k) : Lf Tryz.prog ann 16 (tb0_0_2 _k) := ⟨(fe2_of fe16), (fe2_of fe17), (fe2_of fe18), (fe2_of fe19), (fe2_of fe20), (fm21 _k _h.h21), (fm22 _k _h.h22), (fm23 _k _h.h23)⟩
def tb0_0_3 (_k : Nat) : N8 (Option F2) := ⟨some F24, some F25, some F26, some F27, some F28, some F29, some F30, some F31⟩
theorem l0_0_3 (_k : Nat) (_h : Hy _k) : Lf Tryz.prog ann 24 (tb0_0_3 _k) := ⟨(fe2_of fe24), (fe2_of fe25), (fe2_of fe26), (fe2_of fe27), (fe2_of fe28), (fe2_of fe29), (fe2_of fe30), (fe2_of fe31)⟩
def tb0_0_4 (_k : Nat) : N8 (Option F2) := ⟨some F32, some F33, some F34, some F35, some F36, some F37, some F38, some F39⟩
theorem l0_0_4 (_k : Nat) (_h : Hy _k) : Lf Tryz.prog ann 32 (tb0_0_4 _k) := ⟨(fe2_of fe32), (fe2_of fe33), (fe2_of fe34), (fe2_of fe35), (fe2_of fe36), (fe2_of fe37), (fe2_of fe38), (fe2_of fe39)⟩
def tb0_0_5 (_k : Nat) : N8 (Option F2) := ⟨some F40, some F41, some F42, some F43, some F44, some F45, some F46, some F47⟩
theorem l0_0_5 (_k : Nat) (_h : Hy _k) : Lf Tryz.prog ann 40 (tb0_0_5 _k) := ⟨(fe2_of fe40), (fe2_of fe41), (fe2_of fe42), (fe2_of fe43), (fe2_of fe44), (fe2_of fe45), (fe2_of fe46), (fe2_of fe47)⟩
def tb0_0_6 (_k : Nat) : N8 (Option F2) := ⟨some F48, some F49, some F50, some F51, none, some F53, none, some (M55 _k)⟩
theorem l0_0_6 (_k : Nat) (_h : Hy _k) : Lf Tryz.prog ann 48 (tb0_0_6 _k) := ⟨(fe2_of fe48), (fe2_of fe49), (fe2_of fe50), (fe2_of fe51), trivial, (fe2_of fe53), trivial, (fm55 _k _h.h55)⟩
def tb0_0_7 (_k : Nat) : N8 (Option F2) := ⟨some F56, some F57, some F58, some F59, some F60, some F61, some F62, some F63⟩
theorem l0_0_7 (_k : Nat) (_h : Hy _k) : Lf Tryz.prog ann 56 (tb0_0_7 _k) := ⟨(fe2_of fe56), (fe2_of fe57), (fe2_of fe58), (fe2_of fe59), (fe2_of fe60), (fe2_of fe61), (fe2_of fe62), (fe2_of fe63)⟩
def tb0_0 (_k : Nat) : N8 (N8 (Option F2)) := ⟨tb0_0_0 _k, tb0_0_1 _k, tb0_0_2 _k, tb0_0_3 _k, tb0_0_4 _k, tb0_0_5 _k, tb0_0_6 _k, tb0_0_7 _k⟩
theorem l0_0 (_k : Nat) (_h : Hy _k) : Lg Tryz.prog ann 0 (tb0_0 _k) := ⟨l0_0_0 _k _h, l0_0_1 _k _h, l0_0_2 _k _h, l0_0_3 _k _h, l0_0_4 _k _h, l0_0_5 _k _h, l0_0_6 _k _h, l0_0_7 _k _h⟩
def tb0_1_0 (_k : Nat) : N8 (Option F2) := ⟨some F64, some F65, some F66, some F67, some F68, some F69, some F70, some F71⟩
theorem l0_1_0 (_k : Nat) (_h : Hy _k) : Lf Tryz.prog ann 64 (tb0_1_0 _k) := ⟨(fe2_of fe64), (fe2_of fe65), (fe2_of fe66), (fe2_of fe67), (fe2_of fe68), (fe2_of fe69), (fe2_of fe70), (fe2_of fe71)⟩
def tb0_1_1 (_k : Nat) : N8 (Option F2) := ⟨some F72, some F73, some F74, some F75, some F76, some F77, some F78, some F79⟩
theorem l0_1_1 (_k : Nat) (_h : Hy _k) : Lf Tryz.prog ann 72 (tb0_1_1 _k) := ⟨(fe2_of fe72), (fe2_of fe73), (fe2_of fe74), (fe2_of fe75), (fe2_of fe76), (fe2_of fe77), (fe2_of fe78), (fe2_of fe79)⟩
def tb0_1_2 (_k : Nat) : N8 (Option F2) := ⟨some F80, some F81, some F82, some F83, some F84, some F85, some F86, some F87⟩
theorem l0_1_2 (_k : Nat) (_h : Hy _k) : Lf Tryz.prog ann 80 (tb0_1_2 _k) := ⟨(fe2_of fe80), (fe2_of fe81), (fe2_of fe82), (fe2_of fe83), (fe2_of fe84), (fe2_of fe85), (fe2_of fe86), (fe2_of fe87)⟩
def tb0_1_3 (_k : Nat) : N8 (Option F2) := ⟨some F88, some F89, some F90, some F91, some F92, some F93, some F94, none⟩
theorem l0_1_3 (_k : Nat) (_h : Hy _k) : Lf Tryz.prog ann 88 (tb0_1_3 _k) := ⟨(fe2_of fe88), (fe2_of fe89), (fe2_of fe90), (fe2_of fe91), (fe2_of fe92), (fe2_of fe93), (fe2_of fe94), trivial⟩
def tb0_1_4 (_k : Nat) : N8 (Option F2) := ⟨some F96, some F97, some F98, none, some F100, some F101, none, none⟩
theorem l0_1_4 (_k : Nat) (_h : Hy _k) : Lf Tryz.prog ann 96 (tb0_1_4 _k) := ⟨(fe2_of fe96), (fe2_of fe97), (fe2_of fe98), trivial, (fe2_of fe100), (fe2_of fe101), trivial, trivial⟩
def tb0_1_5 (_k : Nat) : N8 (Option F2) := ⟨some F104, none, none, none, none, none, none, none⟩
theorem l0_1_5 (_k : Nat) (_h : Hy _k) : Lf Tryz.prog ann 104 (tb0_1_5 _k) := ⟨(fe2_of fe104), trivial, trivial, trivial, trivial, trivial, trivial, trivial⟩
def tb0_1_6 (_k : Nat) : N8 (Option F2) := ⟨none, some F113, none, none, none, none, none, some F119⟩
theorem l0_1_6 (_k : Nat) (_h : Hy _k) : Lf Tryz.prog ann 112 (tb0_1_6 _k) := ⟨trivial, (fe2_of fe113), trivial, trivial, trivial, trivial, trivial, (fe2_of fe119)⟩
def tb0_1_7 (_k : Nat) : N8 (Option F2) := ⟨some F120, some F121, some F122, some F123, some F124, none, some (M126 _k), some F127⟩
theorem l0_1_7 (_k : Nat) (_h : Hy _k) : Lf Tryz.prog ann 120 (tb0_1_7 _k) := ⟨(fe2_of fe120), (fe2_of fe121), (fe2_of fe122), (fe2_of fe123), (fe2_of fe124), trivial, (fm126 _k _h.h126), (fe2_of fe127)⟩
def tb0_1 (_k : Nat) : N8 (N8 (Option F2)) := ⟨tb0_1_0 _k, tb0_1_1 _k, tb0_1_2 _k, tb0_1_3 _k, tb0_1_4 _k, tb0_1_5 _k, tb0_1_6 _k, tb0_1_7 _k⟩
theorem l0_1 (_k : Nat) (_h : Hy _k) : Lg Tryz.prog ann 64 (tb0_1 _k) := ⟨l0_1_0 _k _h, l0_1_1 _k _h, l0_1_2 _k _h, l0_1_3 _k _h, l0_1_4 _k _h, l0_1_5 _k _h, l0_1_6 _k _h, l0_1_7 _k _h⟩
def tb0_2_0 (_k : Nat) : N8 (Option F2) := ⟨some F128, some F129, some F130, some F131, some F132, some F133, some F134, some F135⟩
theorem l0_2_0 (_k : Nat) (_h : Hy _k) : Lf Tryz.prog ann 128 (tb0_2_0 _k) := ⟨(fe2_of fe128), (fe2_of fe129), (fe2_of fe130), (fe2_of fe131), (fe2_of fe132), (fe2_of fe133), (fe2_of fe134), (fe2_of fe135)⟩
def tb0_2_1 (_k : Nat) : N8 (Option F2) := ⟨some F136, some F137, some F138, some F139, some F140, some F141, some F142, some F143⟩
theorem l0_2_1 (_k : Nat) (_h : Hy _k) : Lf Tryz.prog ann 136 (tb0_2_1 _k) := ⟨(fe2_of fe136), (fe2_of fe137), (fe2_of fe138), (fe2_of fe139), (fe2_of fe140), (fe2_of fe141), (fe2_of fe142), (fe2_of fe143)⟩
def tb0_2_2 (_k : Nat) : N8 (Option F2) := ⟨none, some F145, some F146, some F147, none, some F149, some F150, some F151⟩
theorem l0_2_2 (_k : Nat) (_h : Hy _k) : Lf Tryz.prog ann 144 (tb0_2_2 _k) := ⟨trivial, (fe2_of fe145), (fe2_of fe146), (fe2_of fe147), trivial, (fe2_of fe149), (fe2_of fe150), (fe2_of fe151)⟩
def tb0_2_3 (_k : Nat) : N8 (Option F2) := ⟨some F152, some F153, some F154, none, some F156, none, some F158, some F159⟩
theorem l0_2_3 (_k : Nat) (_h : Hy _k) : Lf Tryz.prog ann 152 (tb0_2_3 _k) := ⟨(fe2_of fe152), (fe2_of fe153), (fe2_of fe154), trivial, (fe2_of fe156), trivial, (fe2_of fe158), (fe2_of fe159)⟩
def tb0_2_4 (_k : Nat) : N8 (Option F2) := ⟨some F160, some F161, some F162, none, some F164, some F165, some F166, some F167⟩
theorem l0_2_4 (_k : Nat) (_h : Hy _k) : Lf Tryz.prog ann 160 (tb0_2_4 _k) := ⟨(fe2_of fe160), (fe2_of fe161), (fe2_of fe162), trivial, (fe2_of fe164), (fe2_of fe165), (fe2_of fe166), (fe2_of fe167)⟩
def tb0_2_5 (_k : Nat) : N8 (Option F2) := ⟨some F168, some F169, some F170, some F171, some F172, some F173, some F174, some F175⟩
theorem l0_2_5 (_k : Nat) (_h : Hy _k) : Lf Tryz.prog ann 168 (tb0_2_5 _k) := ⟨(fe2_of fe168), (fe2_of fe169), (fe2_of fe170), (fe2_of fe171), (fe2_of fe172), (fe2_of fe173), (fe2_of fe174), (fe2_of fe175)⟩
def tb0_2_6 (_k : Nat) : N8 (Option F2) := ⟨none, none, none, none, none, none, none, some F183⟩
theorem l0_2_6 (_k : Nat) (_h : Hy _k) : Lf Tryz.prog ann 176 (tb0_2_6 _k) := ⟨trivial, trivial, trivial, trivial, trivial, trivial, trivial, (fe2_of fe183)⟩
def tb0_2_7 (_k : Nat) : N8 (Option F2) := ⟨none, none, none, none, some (M188 _k), some F189, some F190, some F191⟩
theorem l0_2_7 (_k : Nat) (_h : Hy _k) : Lf Tryz.prog ann 184 (tb0_2_7 _k) := ⟨trivial, trivial, trivial, trivial, (fm188 _k _h.h188), (fe2_of fe189), (fe2_of fe190), (fe2_of fe191)⟩
def tb0_2 (_k : Nat) : N8 (N8 (Option F2)) := ⟨tb0_2_0 _k, tb0_2_1 _k, tb0_2_2 _k, tb0_2_3 _k, tb0_2_4 _k, tb0_2_5 _k, tb0_2_6 _k, tb0_2_7 _k⟩
theorem l0_2 (_k : Nat) (_h : Hy _k) : Lg Tryz.prog ann 128 (tb0_2 _k) := ⟨l0_2_0 _k _h, l0_2_1 _k _h, l0_2_2 _k _h, l0_2_3 _k _h, l0_2_4 _k _h, l0_2_5 _k _h, l0_2_6 _k _h, l0_2_7 _k _h⟩
def tb0_3_0 (_k : Nat) : N8 (Option F2) := ⟨some F192, some F193, some F194, none, some F196, some F197, none, some F199⟩
theorem l0_3_0 (_k : Nat) (_h : Hy _k) : Lf Tryz.prog ann 192 (tb0_3_0 _k) := ⟨(fe2_of fe192), (fe2_of fe193), (fe2_of fe194), trivial, (fe2_of fe196), (fe2_of fe197), trivial, (fe2_of fe199)⟩
def tb0_3_1 (_k : Nat) : N8 (Option F2) := ⟨some F200, some F201, none, none, some F204, none, none, some (M207 _k)⟩
theorem l0_3_1 (_k : Nat) (_h : Hy _k) : Lf Tryz.prog ann 200 (tb0_3_1 _k) := ⟨(fe2_of fe200), (fe2_of fe201), trivial, trivial, (fe2_of fe204), trivial, trivial, (fm207 _k _h.h207)⟩
def tb0_3_2 (_k : Nat) : N8 (Option F2) := ⟨some F208, some F209, some F210, some F211, some (M212 _k), some (M213 _k), some F214, some (M215 _k)⟩
theorem l0_3_2 (_k : Nat) (_h : Hy _k) : Lf Tryz.prog ann 208 (tb0_3_2 _k) := ⟨(fe2_of fe208), (fe2_of fe209), (fe2_of fe210), (fe2_of fe211), (fm212 _k _h.h212), (fm213 _k _h.h213), (fe2_of fe214), (fm215 _k _h.h215)⟩
def tb0_3_3 (_k : Nat) : N8 (Option F2) := ⟨some (M216 _k), some F217, some F218, some F219, some F220, some F221, some F222, some F223⟩
theorem l0_3_3 (_k : Nat) (_h : Hy _k) : Lf Tryz.prog ann 216 (tb0_3_3 _k) := ⟨(fm216 _k _h.h216), (fe2_of fe217), (fe2_of fe218), (fe2_of fe219), (fe2_of fe220), (fe2_of fe221), (fe2_of fe222), (fe2_of fe223)⟩
def tb0_3_4 (_k : Nat) : N8 (Option F2) := ⟨some F224, some F225, some (M226 _k), some F227, some F228, some F229, some F230, some F231⟩
theorem l0_3_4 (_k : Nat) (_h : Hy _k) : Lf Tryz.prog ann 224 (tb0_3_4 _k) := ⟨(fe2_of fe224), (fe2_of fe225), (fm226 _k _h.h226), (fe2_of fe227), (fe2_of fe228), (fe2_of fe229), (fe2_of fe230), (fe2_of fe231)⟩
def tb0_3_5 (_k : Nat) : N8 (Option F2) := ⟨some F232, some F233, some F234, some F235, some F236, none, some F238, some F239⟩
theorem l0_3_5 (_k : Nat) (_h : Hy _k) : Lf Tryz.prog ann 232 (tb0_3_5 _k) := ⟨(fe2_of fe232), (fe2_of fe233), (fe2_of fe234), (fe2_of fe235), (fe2_of fe236), trivial, (fe2_of fe238), (fe2_of fe239)⟩
def tb0_3_6 (_k : Nat) : N8 (Option F2) := ⟨some F240, some F241, some F242, some F243, some (M244 _k), some F245, some F246, some F247⟩
theorem l0_3_6 (_k : Nat) (_h : Hy _k) : Lf Tryz.prog ann 240 (tb0_3_6 _k) := ⟨(fe2_of fe240), (fe2_of fe241), (fe2_of fe242), (fe2_of fe243), (fm244 _k _h.h244), (fe2_of fe245), (fe2_of fe246), (fe2_of fe247)⟩
def tb0_3_7 (_k : Nat) : N8 (Option F2) := ⟨some F248, some F249, some F250, some F251, some F252, some F253, some F254, some F255⟩
theorem l0_3_7 (_k : Nat) (_h : Hy _k) : Lf Tryz.prog ann 248 (tb0_3_7 _k) := ⟨(fe2_of fe248), (fe2_of fe249), (fe2_of fe250), (fe2_of fe251), (fe2_of fe252), (fe2_of fe253), (fe2_of fe254), (fe2_of fe255)⟩
def tb0_3 (_k : Nat) : N8 (N8 (Option F2)) := ⟨tb0_3_0 _k, tb0_3_1 _k, tb0_3_2 _k, tb0_3_3 _k, tb0_3_4 _k, tb0_3_5 _k, tb0_3_6 _k, tb0_3_7 _k⟩
theorem l0_3 (_k : Nat) (_h : Hy _k) : Lg Tryz.prog ann 192 (tb0_3 _k) := ⟨l0_3_0 _k _h, l0_3_1 _k _h, l0_3_2 _k _h, l0_3_3 _k _h, l0_3_4 _k _h, l0_3_5 _k _h, l0_3_6 _k _h, l0_3_7 _k _h⟩
def tb0_4_0 (_k : Nat) : N8 (Option F2) := ⟨some F256, some F257, some F258, some F259, none, none, none, none⟩
theorem l0_4_0 (_k : Nat) (_h : Hy _k) : Lf Tryz.prog ann 256 (tb0_4_0 _k) := ⟨(fe2_of fe256), (fe2_of fe257), (fe2_of fe258), (fe2_of fe259), trivial, trivial, trivial, trivial⟩
def tb0_4 (_k : Nat) : N8 (N8 (Option F2)) := ⟨tb0_4_0 _k, tbN, tbN, tbN, tbN, tbN, tbN, tbN⟩
theorem l0_4 (_k : Nat) (_h : Hy _k) : Lg Tryz.prog ann 256 (tb0_4 _k) := ⟨l0_4_0 _k _h, zN _, zN _, zN _, zN _, zN _, zN _, zN _⟩
def tb0 (_k : Nat) : N8 (N8 (N8 (Option F2))) := ⟨tb0_0 _k, tb0_1 _k, tb0_2 _k, tb0_3 _k, tb0_4 _k, tbNN, tbNN, tbNN⟩
theorem l0 (_k : Nat) (_h : Hy _k) : Lh Tryz.prog ann 0 (tb0 _k) := ⟨l0_0 _k _h, l0_1 _k _h, l0_2 _k _h, l0_3 _k _h, l0_4 _k _h, zNN _, zNN _, zNN _⟩
def tb (_k : Nat) : TB2 := ⟨tb0 _k, tbNNN, tbNNN, tbNNN, tbNNN, tbNNN, tbNNN, tbNNN⟩
theorem tbok (_k : Nat) (_h : Hy _k) : TBok2 Tryz.prog ann (tb _k) := tb2_ok ⟨l0 _k _h, zNNN _, zNNN _, zNNN _, zNNN _, zNNN _, zNNN _, zNNN _⟩
end
end Go.Proofs.SlimCode
