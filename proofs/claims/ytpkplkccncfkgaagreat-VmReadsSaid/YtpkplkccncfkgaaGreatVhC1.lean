/- Code for the evaluator, part 1. -/
import Derived.Test.YtpkplkccncfkgaaGreatChecked
import Derived.Test.YtpkplkccncfkgaaGreatAbsXc
import Derived.KernelRfl
open Go Go.Abs
namespace Go.Proofs.SlimCode
set_option maxRecDepth 100000
noncomputable section
def roL : List (List Nat) := [[], [], [], [35, 46, 49, 54], [29, 43], [25], [5], [], [2, 3], [], [38, 44], [], [], [], [], [], [], [1], [52, 75, 84], [], [], [], [], [13, 25, 29, 37], [], [], [], [], [1], [], [], [], [1], [], [3], [], [3], [], [], [], [], [], [], [], [], [], [2], [], [], [83], [], [], [22], [], [], [], [2, 3], [], [], [], [], [], [], [20], [], [], [], [], [35], [], [22], [23], [], [23], [], [], [23], [23], [], [23], [], [], [], [1], [1], [2], [2], [5, 51], [], [], [84], [], [], [], [], [2], [], [3], [], [3], [19, 26], [], [5, 12, 40], [5, 22, 43, 68, 91], [5, 12, 42, 49, 66, 95, 107], [5, 11, 26], [5, 25], [5, 19, 97], [5, 26, 40], [5], [5], [5], [5], [5, 31], [5, 13, 50], [5, 12, 55], [5, 35, 118], [5, 14, 53, 62], [5, 12], [5, 31], [5, 11, 26], [5, 11], [], [], [], [], [], [], [], [], [2, 3], [2, 3], [], [], [35], [], [], [59], [], [], [], [], [], [23], [], [23], [], [23], [], [], [], [], [2], [], [], [], [], [2], [2], [], [2], [], [], [3], [], [3], [3, 4, 5], [], [], [], [], [], [], [], [], [], [5], [], [], [], [3], [], [], [], [8], [1], [], [60], [], [46, 57], [], [], [], [], [], [2], [], [], [2], [], [2], [], [3], [], [], [4], [], [], [], [], [], [], [], [], [2, 3], [], [18, 19, 30], [], [2, 3], [], [2, 3], [], [], [], [3], [], [], [1], [2, 3], [], [], [], [], [], [], [], [], [], [], [], [], [], [], [], [], [], [], [], [], [], [], [], [], [], [], [], [], [], [], [], [], [], [], [], [], [], [], [], [], [], [], [], [], [], [], []]
def escL : List (List Nat) := [[], [], [], [], [], [], [], [], [], [], [], [], [], [], [], [], [], [11], [25], [], [], [], [], [], [], [], [], [], [], [], [], [], [], [], [], [], [], [], [], [], [], [], [], [], [], [], [], [], [], [82], [], [], [], [], [], [], [], [], [], [], [35], [], [], [], [], [], [], [], [], [], [], [], [], [], [], [], [], [], [], [], [], [], [], [], [], [], [], [3], [], [2, 3, 5], [1, 3, 5], [], [], [], [], [], [], [], [], [], [], [], [], [], [], [], [], [], [], [], [], [], [], [], [], [], [], [], [], [], [], [], [7], [], [], [], [], [], [], [], [], [], [], [], [], [], [], [], [], [], [], [], [], [], [], [], [], [], [], [], [], [], [], [], [], [], [], [], [], [], [], [], [], [], [], [], [], [], [], [], [], [], [], [], [], [], [], [], [], [], [], [], [], [], [], [], [], [], [], [], [], [], [], [], [], [], [], [], [], [], [], [], [], [], [], [], [], [], [], [], [], [], [], [], [], [], [], [], [], [], [], [], [], [], [], [], [], [], [], [], [], [], [], [], [], [], [], [], [], [], [], [], [], [], [], [], [], [], [], [], [], [], [], [], [], [], [], [], [], [], [], [], [], [], [], [], [], [], [], [], [], [], [], [], [], []]
def inL (l : List (List Nat)) (f d : Nat) : Bool := (l.getD f []).contains d
def purL : List Nat := [5, 12, 13, 14, 21, 22, 23, 55, 126, 188, 207, 212, 213, 215, 216, 226, 244]
def extL : List (Nat × EK) := []
def gl (_ : Nat) : List AV := []
def ann : Ann := { esc := inL escL, fz := fun _ => false, ro := inL roL, still := fun _ => true, pure := fun f => purL.contains f, glob := fun _ => none, ext := extL }
/- daguerre/daguerrelaw27.VmReads -/
def H3 : F2C := fun c k v s K =>
pop v fun x0 v =>
pop v fun x1 v =>
endE v (
c (.mk .d0 .d0 .d0 .d5) [] s fun x2 s =>
vGen (.un .not (.c x2)) fun x3 =>
cnd x3 (none)
(vLenS x0 fun x4 =>
vGen (.mnx false [(.c x4), (.c (ci 20))]) fun x5 =>
vSlt x0 eN (eX x5) 1 fun x6 =>
bLt x1 (ci 0) fun x7 =>
gK x7 false x1 fun x8 =>
gV x7 false (bGt x8 (ci 10)) fun x9 =>
vPick x7 ct x9 fun x10 =>
cnd x10 (K ct s)
(jn (fun v s =>
pop v fun x12 v =>
pop v fun x13 _ =>
vBld [.int .i64 0, .int .i64 0, .int .i64 0, .int .i64 0] (eCons 0 1 (ci 59) eNil) fun x14 =>
vBld [.int .i64 0, .int .i64 0, .int .i64 0, .int .i64 0] (eCons 0 1 (ci 61) eNil) fun x15 =>
zBsl [.int .i64 0, .int .i64 0, .int .i64 0, .int .i64 0, .int .i64 0, .int .i64 0, .int .i64 0, .int .i64 0] 4 2 (eCons 0 4 x14 (eCons 4 4 x15 eNil)) s fun x16 s =>
appB 4 32 x13 x16 s fun x17 s =>
vLenS x6 fun x18 =>
bLt x1 x18 fun x19 =>
jn (fun v s =>
pop v fun x21 _ =>
c (.mk .d0 .d0 .d0 .d7) [x17] s fun x22 s =>
c (.mk .d0 .d0 .d0 .d6) [x22, (ci 3), x6, (ci 50), (ci 1000)] s fun x23 s =>
vExt x23 0 fun x24 =>
vExt x23 1 fun x25 =>
vExt x23 2 fun x26 =>
boxD false [.nil .sl, .int .i64 0, .int .i32 0, .str []] s fun x27 s =>
zSt x27 x24 4 s fun _ s =>
gH x26 true (ldA x27 (takeN 4)) s fun x29 s =>
gK x26 true x12 fun x30 =>
gK x26 true x21 fun x31 =>
gV x26 true (vBld [.nil .sl, .int .i64 0, .int .i32 0, .str []] (eCons 0 1 x30 (eCons 1 1 (ci 1) (eCons 2 1 x31 eNil)))) fun x32 =>
gH x26 true (c (.mk .d0 .d0 .d1 .d0) [x29, x32]) s fun x33 s =>
vPick x26 x33 cf fun x34 =>
gK x34 true x25 fun x35 =>
gH x34 true (c (.mk .d0 .d0 .d1 .d1) [x35]) s fun x36 s =>
gK x34 true x1 fun x37 =>
gV x34 true (bMul (ci 2) x37) fun x38 =>
gV x34 true (bAdd x38 (ci 2)) fun x39 =>
gV x34 true (bEqF x36 x39) fun x40 =>
vPick x34 x40 cf fun x41 =>
K x41 s) fun K20 =>
cnd x19 (vIaS x6 x1 1 fun x42 =>
ldA x42 take1 s fun x43 s =>
K20 [x43] s)
(K20 [(.int .i32 (-1))] s)) fun K11 =>
loopE k (fun K44 v s =>
pop v fun x45 v =>
pop v fun x46 v =>
pop v fun x47 _ =>
bLt x45 x1 fun x48 =>
cnd x48 (jn (fun v s =>
pop v fun x50 v =>
pop v fun x51 _ =>
bAdd x45 (ci 1) fun x52 =>
K44 [x52, x50, x51] s) fun K49 =>
vBld [.int .i64 0, .int .i64 0, .int .i64 0, .int .i64 0] (eCons 0 1 (ci 59) eNil) fun x53 =>
vBld [.int .i64 0, .int .i64 0, .int .i64 0, .int .i64 0] (eCons 0 1 (ci 60) eNil) fun x54 =>
zBsl [.int .i64 0, .int .i64 0, .int .i64 0, .int .i64 0, .int .i64 0, .int .i64 0, .int .i64 0, .int .i64 0] 4 2 (eCons 0 4 x53 (eCons 4 4 x54 eNil)) s fun x55 s =>
appB 4 32 x47 x55 s fun x56 s =>
vLenS x6 fun x57 =>
bLt x45 x57 fun x58 =>
jn (fun v s =>
pop v fun x60 _ =>
K49 [x60, x56] s) fun K59 =>
cnd x58 (vIaS x6 x45 1 fun x61 =>
ldA x61 take1 s fun x62 s =>
zBsl [.int .i32 0] 1 1 (eCons 0 1 x62 eNil) s fun x63 s =>
appB 1 4 x46 x63 s fun x64 s =>
K59 [x64] s)
(zBsl [.int .i32 0] 1 1 (eCons 0 1 (.int .i32 (-1)) eNil) s fun x65 s =>
appB 1 4 x46 x65 s fun x66 s =>
K59 [x66] s))
(K11 [x46, x47] s)) [(ci 0), (.nil .sl), (.nil .sl)] s)))
def F3 : F2 := .fn H3 true
theorem fe3 : feE Tryz.prog ann 3 2 [.cl, .j [], .j [7, 6], .j [8, 7, 6], .j [], .j [7, 6], .j [7], .j [9]] = some F3 := by kernel_rfl
/- daguerre/daguerrelaw27.VmHeap -/
def H4 : F2C := fun c k v s K =>
pop v fun x0 v =>
pop v fun x1 v =>
endE v (
c (.mk .d0 .d0 .d0 .d5) [] s fun x2 s =>
vGen (.un .not (.c x2)) fun x3 =>
cnd x3 (none)
(bLt x0 (ci 0) fun x4 =>
gK x4 false x0 fun x5 =>
gV x4 false (bGt x5 (ci 30)) fun x6 =>
vPick x4 ct x6 fun x7 =>
gK x7 false x1 fun x8 =>
gV x7 false (bLt x8 (ci 0)) fun x9 =>
vPick x7 ct x9 fun x10 =>
gK x10 false x1 fun x11 =>
gV x10 false (bGt x11 (ci 300)) fun x12 =>
vPick x10 ct x12 fun x13 =>
cnd x13 (K ct s)
(vBld [.int .i64 0, .int .i64 0, .int .i64 0, .int .i64 0] (eCons 0 1 (ci 46) eNil) fun x14 =>
zBsl [.int .i64 0, .int .i64 0, .int .i64 0, .int .i64 0] 4 1 (eCons 0 4 x14 eNil) s fun x15 s =>
c (.mk .d0 .d0 .d0 .d7) [x15] s fun x16 s =>
boxD false [.nil .sl, .nil .sl, .int .i64 0, .int .i64 0, .nil .sl, .nil .sl, .nil .sl, .nil .sl, .nil .sl] s fun x17 s =>
zSt x17 x16 9 s fun _ s =>
fa1 x17 7 fun x19 =>
ldA x19 take1 s fun x20 s =>
fa1 x17 6 fun x21 =>
zSt x21 (.nil .sl) 1 s fun _ s =>
vIaS x20 (ci 1) 1 fun x23 =>
zSt x23 (cj 0) 1 s fun _ s =>
fa1 x17 5 fun x25 =>
zSt x25 (.nil .sl) 1 s fun _ s =>
jn (fun _ s =>
ldA x17 (takeN 9) s fun x28 s =>
c (.mk .d0 .d0 .d0 .d6) [x28, (ci 0), (.nil .sl), x1, (ci 10)] s fun x29 s =>
vExt x29 0 fun x30 =>
vExt x29 1 fun _ =>
vExt x29 2 fun x32 =>
boxD false [.nil .sl, .int .i64 0, .int .i32 0, .str []] s fun x33 s =>
zSt x33 x30 4 s fun _ s =>
gV x32 true (fa1 x33 1) fun x35 =>
gH x32 true (ldA x35 take1) s fun x36 s =>
gV x32 true (bEqF x36 (ci 1)) fun x37 =>
gK x32 true x1 fun x38 =>
gK x32 true x0 fun x39 =>
gV x32 true (bMul (ci 2) x39) fun x40 =>
gV x32 true (bGe x38 x40) fun x41 =>
gV x32 true (vBeq false x37 x41) fun x42 =>
vPick x32 x42 cf fun x43 =>
gV x43 true (fa1 x33 1) fun x44 =>
gH x43 true (ldA x44 take1) s fun x45 s =>
gV x43 true (bEqF x45 (ci 4)) fun x46 =>
gK x43 true x1 fun x47 =>
gK x43 true x0 fun x48 =>
gV x43 true (bMul (ci 2) x48) fun x49 =>
gV x43 true (bLt x47 x49) fun x50 =>
gV x43 true (vBeq false x46 x50) fun x51 =>
vPick x43 x51 cf fun x52 =>
K x52 s) fun K27 =>
loopE k (fun K53 v s =>
pop v fun x54 _ =>
bLt x54 x0 fun x55 =>
cnd x55 (jn (fun _ s =>
bAdd x54 (ci 1) fun x57 =>
K53 [x57] s) fun K56 =>
fa1 x17 5 fun x58 =>
ldA x58 take1 s fun x59 s =>
zBsl [.int .i32 0, .int .i32 0] 1 2 (eCons 0 1 (cj 0) (eCons 1 1 (cj 0) eNil)) s fun x60 s =>
appB 1 4 x59 x60 s fun x61 s =>
fa1 x17 5 fun x62 =>
zSt x62 x61 1 s fun _ s =>
K56 [] s)
(K27 [] s)) [(ci 0)] s)))
def F4 : F2 := .fn H4 true
theorem fe4 : feE Tryz.prog ann 4 2 [.cl, .j [], .j [], .j [7], .j [], .j []] = some F4 := by kernel_rfl
/- daguerre/daguerrelaw27.begun -/
def H5 : F2C := fun c _ v s K =>
endE v (
c (.mk .d0 .d0 .d1 .d2) [] s fun x0 s =>
boxD false [.nil .sl, .nil .sl, .int .i64 0, .int .i64 0, .nil .sl, .nil .sl, .nil .sl, .nil .sl, .nil .sl] s fun x1 s =>
zSt x1 x0 9 s fun _ s =>
fa1 x1 1 fun x3 =>
ldA x3 take1 s fun x4 s =>
vIaS x4 (ci 0) 6 fun x5 =>
fa1 x5 2 fun x6 =>
zSt x6 (ci 1) 1 s fun _ s =>
fa1 x1 1 fun x8 =>
ldA x8 take1 s fun x9 s =>
vBld [.int .i64 0, .int .i64 0, .int .i64 0, .int .i64 0] (eCons 0 1 (ci 59) eNil) fun x10 =>
vBld [.int .i64 0, .int .i64 0, .int .i64 0, .int .i64 0] (eCons 0 1 (ci 60) eNil) fun x11 =>
vBld [.int .i64 0, .int .i64 0, .int .i64 0, .int .i64 0] (eCons 0 1 (ci 1) (eCons 1 1 (ci 3) eNil)) fun x12 =>
vBld [.int .i64 0, .int .i64 0, .int .i64 0, .int .i64 0] (eCons 0 1 (ci 61) eNil) fun x13 =>
zHbs [.int .i64 0, .int .i64 0, .int .i64 0, .int .i64 0, .int .i64 0, .int .i64 0, .int .i64 0, .int .i64 0, .int .i64 0, .int .i64 0, .int .i64 0, .int .i64 0, .int .i64 0, .int .i64 0, .int .i64 0, .int .i64 0] 4 4 (eCons 0 4 x10 (eCons 4 4 x11 (eCons 8 4 x12 (eCons 12 4 x13 eNil)))) s fun x14 s =>
vIaS x9 (ci 0) 6 fun x15 =>
fa1 x15 4 fun x16 =>
zSt x16 x14 1 s fun _ s =>
ldA x1 (takeN 9) s fun x18 s =>
zBsl [.int .i32 0] 1 1 (eCons 0 1 (cj 5) eNil) s fun x19 s =>
c (.mk .d0 .d0 .d0 .d6) [x18, (ci 7), x19, (ci 10), (ci 100)] s fun x20 s =>
vExt x20 0 fun x21 =>
vExt x20 1 fun x22 =>
vExt x20 2 fun x23 =>
boxD false [.nil .sl, .int .i64 0, .int .i32 0, .str []] s fun x24 s =>
zSt x24 x21 4 s fun _ s =>
ldA x1 (takeN 9) s fun x26 s =>
c (.mk .d0 .d0 .d0 .d6) [x26, (ci 0), (.nil .sl), (ci 4), (ci 100)] s fun x27 s =>
vExt x27 0 fun x28 =>
vExt x27 1 fun x29 =>
vExt x27 2 fun x30 =>
boxD false [.nil .sl, .int .i64 0, .int .i32 0, .str []] s fun x31 s =>
zSt x31 x28 4 s fun _ s =>
vGen (.un .not (.c x23)) fun x33 =>
gK x33 false x30 fun x34 =>
gV x33 false (vGen (.un .not (.c x34))) fun x35 =>
vPick x33 ct x35 fun x36 =>
gK x36 false x22 fun x37 =>
gV x36 false (vNil false .ptr x37) fun x38 =>
vPick x36 ct x38 fun x39 =>
gK x39 false x29 fun x40 =>
gV x39 false (vNil false .ptr x40) fun x41 =>
vPick x39 ct x41 fun x42 =>
cnd x42 (none)
(c (.mk .d0 .d0 .d1 .d3) [x29, (ci 1)] s fun x43 s =>
boxD false [.nil .sl, .int .i64 0, .int .i32 0, .str []] s fun x44 s =>
zSt x44 x43 4 s fun _ s =>
c (.mk .d0 .d0 .d1 .d4) [] s fun x46 s =>
gH x46 true (c (.mk .d0 .d0 .d1 .d5) []) s fun x47 s =>
vPick x46 x47 cf fun x48 =>
gH x48 true (c (.mk .d0 .d0 .d1 .d6) []) s fun x49 s =>
vPick x48 x49 cf fun x50 =>
gH x50 true (ldA x24 (takeN 4)) s fun x51 s =>
gH x50 true (zHbs [.int .i32 0] 1 1 (eCons 0 1 (cj 5) eNil)) s fun x52 s =>
gV x50 true (vBld [.nil .sl, .int .i64 0, .int .i32 0, .str []] (eCons 0 1 x52 (eCons 1 1 (ci 1) (eCons 2 1 (cj 3) eNil)))) fun x53 =>
gH x50 true (c (.mk .d0 .d0 .d1 .d0) [x51, x53]) s fun x54 s =>
vPick x50 x54 cf fun x55 =>
gK x55 true x22 fun x56 =>
gH x55 true (c (.mk .d0 .d0 .d1 .d1) [x56]) s fun x57 s =>
gV x55 true (bEqF x57 (ci 4)) fun x58 =>
vPick x55 x58 cf fun x59 =>
gK x59 true x22 fun x60 =>
gH x59 true (c (.mk .d0 .d0 .d1 .d7) [x60]) s fun x61 s =>
gV x59 true (bEqF x61 (ci 5)) fun x62 =>
vPick x59 x62 cf fun x63 =>
gV x63 true (fa1 x44 1) fun x64 =>
gH x63 true (ldA x64 take1) s fun x65 s =>
gV x63 true (bEqF x65 (ci 4)) fun x66 =>
vPick x63 x66 cf fun x67 =>
K x67 s))
def F5 : F2 := .pur H5 true mNo
theorem fe5 : feE Tryz.prog ann 5 0 [.cl] = some F5 := by kernel_rfl
def M5 (k : Nat) : F2 := .pur H5 true (Bool.rec mNo (mVal (.bool true)) (Nat.ble 17 k))
/- daguerre/daguerrelaw27.code -/
def H7 : F2C := fun c _ v s K =>
pop v fun x0 v =>
endE v (
boxD false [.nil .sl, .nil .sl, .int .i64 0, .int .i64 0, .nil .sl, .nil .sl, .nil .sl, .nil .sl, .nil .sl] s fun x1 s =>
c (.mk .d0 .d0 .d1 .d2) [] s fun x2 s =>
boxD false [.nil .sl, .nil .sl, .int .i64 0, .int .i64 0, .nil .sl, .nil .sl, .nil .sl, .nil .sl, .nil .sl] s fun x3 s =>
zSt x3 x2 9 s fun _ s =>
lgE qNoE (zV (fa1 x3 1)) s fun x5 e6 s =>
lgE (qLdE x5 1) (ldA x5 take1) s fun x7 e8 s =>
lgE qNoE (zV (fa1 x3 1)) s fun x9 e10 s =>
lgE (qLdE x9 1) (ldA x9 take1) s fun x11 e12 s =>
lgE qNoE (zV (vIaS x7 (ci 0) 6)) s fun x13 e14 s =>
lgE qNoE (zV (fa1 x13 1)) s fun x15 e16 s =>
lgE qNoE (zSt x15 (ci 4) 1) s fun _ e18 s =>
lgE qNoE (zV (vIaS x11 (ci 0) 6)) s fun x19 e20 s =>
lgE qNoE (zV (fa1 x19 2)) s fun x21 e22 s =>
lgE qNoE (zSt x21 (ci 4) 1) s fun _ e24 s =>
calmE [(1, 3), (3, 6)] [e6, e8, e10, e12, e14, e16, e18, e20, e22, e24] (fun s =>
fa1 x3 1 fun x25 =>
ldA x25 take1 s fun x26 s =>
vIaS x26 (ci 0) 6 fun x27 =>
fa1 x27 4 fun x28 =>
zSt x28 x0 1 s fun _ s =>
ldA x3 (takeN 9) s fun x30 s =>
zSt x1 x30 9 s fun _ s =>
ldA x1 (takeN 9) s K) s)
def F7 : F2 := .fn H7 true
theorem fe7 : feE Tryz.prog ann 7 1 [] = some F7 := by kernel_rfl
/- daguerre/daguerrelaw27.run -/
def H6 : F2C := fun c _ v s K =>
pop v fun x0 v =>
pop v fun x1 v =>
pop v fun x2 v =>
pop v fun x3 v =>
pop v fun x4 v =>
endE v (
zTbox x0 s fun x5 s =>
boxD false [.nil .sl, .int .i64 0, .int .i32 0, .str []] s fun x6 s =>
ldA x5 (takeN 9) s fun x7 s =>
c (.mk .d0 .d0 .d2 .d1) [x7] s fun x8 s =>
c (.mk .d0 .d0 .d2 .d0) [x8, x1] s fun x9 s =>
vExt x9 0 fun x10 =>
vExt x9 1 fun x11 =>
boxD false [.nil .sl, .nil .sl, .int .i64 0, .int .i64 0, .nil .sl, .nil .sl, .nil .sl, .nil .sl, .nil .sl, .int .i64 0] s fun x12 s =>
zSt x12 x10 10 s fun _ s =>
bEqT x11 (ci 0) fun x14 =>
cnd x14 (none)
(ldA x12 (takeN 10) s fun x15 s =>
c (.mk .d0 .d0 .d2 .d2) [x15, x2, x3] s fun x16 s =>
vNil false .ptr x16 fun x17 =>
cnd x17 (none)
(c (.mk .d0 .d0 .d1 .d3) [x16, x4] s fun x18 s =>
zSt x6 x18 4 s fun _ s =>
ldA x6 (takeN 4) s fun x20 s => K (.tup [x20, x16, ct]) s)))
def F6 : F2 := .fn H6 true
theorem fe6 : feE Tryz.prog ann 6 5 [.cl, .cl] = some F6 := by kernel_rfl
/- daguerre/daguerrelaw17.EqTrace -/
def H8 : F2C := fun c k v s K =>
pop v fun x0 v =>
pop v fun x1 v =>
endE v (
zTbox x0 s fun x2 s =>
zTbox x1 s fun x3 s =>
fa1 x2 1 fun x4 =>
ldA x4 take1 s fun x5 s =>
fa1 x3 1 fun x6 =>
ldA x6 take1 s fun x7 s =>
c .rem [x5, x7, (ci 7), (ci 12)] s fun x8 s =>
gV x8 false (fa1 x2 2) fun x9 =>
gH x8 false (ldA x9 take1) s fun x10 s =>
gV x8 false (fa1 x3 2) fun x11 =>
gH x8 false (ldA x11 take1) s fun x12 s =>
gH x8 false (c .rem [x10, x12, (ci 13), (ci 12)]) s fun x13 s =>
vPick x8 ct x13 fun x14 =>
gV x14 false (fa1 x2 3) fun x15 =>
gH x14 false (ldA x15 take1) s fun x16 s =>
gV x14 false (fa1 x3 3) fun x17 =>
gH x14 false (ldA x17 take1) s fun x18 s =>
gH x14 false (c .rem [x16, x18, (ci 20), (ci 12)]) s fun x19 s =>
vPick x14 ct x19 fun x20 =>
gV x20 false (fa1 x2 0) fun x21 =>
gH x20 false (ldA x21 take1) s fun x22 s =>
gV x20 false (vLenS x22) fun x23 =>
gV x20 false (fa1 x3 0) fun x24 =>
gH x20 false (ldA x24 take1) s fun x25 s =>
gV x20 false (vLenS x25) fun x26 =>
gH x20 false (c .rem [x23, x26, (ci 28), (ci 12)]) s fun x27 s =>
vPick x20 ct x27 fun x28 =>
cnd x28 (none)
(jn (fun _ s =>
K ct s) fun K29 =>
loopE k (fun K30 v s =>
pop v fun x31 _ =>
fa1 x2 0 fun x32 =>
ldA x32 take1 s fun x33 s =>
vLenS x33 fun x34 =>
bLt x31 x34 fun x35 =>
cnd x35 (jn (fun _ s =>
bAdd x31 (ci 1) fun x37 =>
K30 [x37] s) fun K36 =>
lgE qNoE (zV (fa1 x2 0)) s fun x38 e39 s =>
lgE (qLdE x38 1) (ldA x38 take1) s fun x40 e41 s =>
lgE qNoE (zK x31) s fun x42 e43 s =>
lgE qNoE (zV (vIaS x40 x42 1)) s fun x44 e45 s =>
lgE (qLdE x44 1) (ldA x44 take1) s fun x46 e47 s =>
lgE qNoE (zV (fa1 x3 0)) s fun x48 e49 s =>
lgE (qLdE x48 1) (ldA x48 take1) s fun x50 e51 s =>
lgE qNoE (zK x31) s fun x52 e53 s =>
lgE qNoE (zV (vIaS x50 x52 1)) s fun x54 e55 s =>
lgE (qLdE x54 1) (ldA x54 take1) s fun x56 e57 s =>
lgE qNoE (c .rem [x46, x56, (ci 45), (ci 12)]) s fun x58 e59 s =>
calmE [(1, 6), (4, 6), (1, 9), (4, 9)] [e39, e41, e43, e45, e47, e49, e51, e53, e55, e57, e59] (fun s =>
cnd x58 (none)
(K36 [] s)) s)
(K29 [] s)) [(ci 0)] s))
def F8 : F2 := .fn H8 true
theorem fe8 : feQ Tryz.prog ann 8 2 [.cl, .j [], .j [5], .j [], .j [], .cl] [12] = some F8 := by kernel_rfl
/- (*daguerre/vm.Machine).Steps -/
def H9 : F2C := fun _ _ v s K =>
pop v fun x0 v =>
endE v (
vNil false .ptr x0 fun x1 =>
cnd x1 (none)
(vChk x0 fun x2 =>
fa1 x2 15 fun x3 =>
ldA x3 take1 s fun x4 s =>
K x4 s))
def F9 : F2 := .fn H9 true
theorem fe9 : feE Tryz.prog ann 9 1 [.cl] = some F9 := by kernel_rfl
/- daguerre/daguerrelaw24.Small -/
def H10 : F2C := fun _ k v s K =>
endE v (
boxD false [.nil .sl, .nil .sl, .int .i64 0, .int .i64 0, .nil .sl, .nil .sl, .nil .sl, .nil .sl, .nil .sl] s fun x0 s =>
vBld [.int .i64 0, .int .i64 0, .int .i64 0, .int .i64 0] (eCons 0 1 (ci 46) eNil) fun x1 =>
zHbs [.int .i64 0, .int .i64 0, .int .i64 0, .int .i64 0] 4 1 (eCons 0 4 x1 eNil) s fun x2 s =>
vBld [.int .i64 0, .int .i64 0, .int .i64 0, .bool false, .nil .sl, .nil .sl] (eCons 4 1 x2 eNil) fun x3 =>
zHbs [.int .i64 0, .int .i64 0, .int .i64 0, .bool false, .nil .sl, .nil .sl] 6 1 (eCons 0 6 x3 eNil) s fun x4 s =>
zHbs [.int .i32 0, .int .i32 0, .int .i32 0, .int .i32 0, .int .i32 0] 1 5 (eCons 0 1 (cj 0) (eCons 1 1 (cj 0) (eCons 2 1 (cj 10) (eCons 3 1 (cj 1) (eCons 4 1 (cj 1) eNil))))) s fun x5 s =>
zHbs [.int .i64 0] 1 1 (eCons 0 1 (ci 4) eNil) s fun x6 s =>
zHbs [.int .i32 0, .int .i32 0] 1 2 (eCons 0 1 (cj 5) (eCons 1 1 (cj 3) eNil)) s fun x7 s =>
zHbs [.bool false, .bool false] 1 2 (eCons 0 1 cf (eCons 1 1 ct eNil)) s fun x8 s =>
vBld [.nil .sl, .nil .sl, .int .i64 0, .int .i64 0, .nil .sl, .nil .sl, .nil .sl, .nil .sl, .nil .sl] (eCons 3 1 (.int .i64 (-1)) (eCons 1 1 x4 (eCons 5 1 x5 (eCons 6 1 x6 (eCons 7 1 x7 (eCons 8 1 x8 eNil)))))) fun x9 =>
boxD false [.nil .sl, .nil .sl, .int .i64 0, .int .i64 0, .nil .sl, .nil .sl, .nil .sl, .nil .sl, .nil .sl] s fun x10 s =>
zSt x10 x9 9 s fun _ s =>
jn (fun _ s =>
ldA x10 (takeN 9) s fun x13 s =>
zSt x0 x13 9 s fun _ s =>
ldA x0 (takeN 9) s K) fun K12 =>
loopE k (fun K15 v s =>
pop v fun x16 _ =>
bLt x16 (ci 11) fun x17 =>
cnd x17 (jn (fun _ s =>
bAdd x16 (ci 1) fun x19 =>
K15 [x19] s) fun K18 =>
bAdd (ci 97) x16 fun x20 =>
vCv .u8 x20 fun x21 =>
zHbs [.int .u8 0, .int .u8 0] 1 2 (eCons 0 1 (cu 67) (eCons 1 1 x21 eNil)) s fun x22 s =>
b2sA x22 s fun x23 s =>
zHbs [.int .i64 0] 1 1 (eCons 0 1 x16 eNil) s fun x24 s =>
bGt x16 (ci 0) fun x25 =>
gK x25 true x16 fun x26 =>
gV x25 true (bLt x26 (ci 10)) fun x27 =>
vPick x25 x27 cf fun x28 =>
vBld [.str [], .int .i64 0, .int .i64 0, .nil .sl, .nil .sl, .nil .sl, .nil .sl, .int .i64 0, .int .i64 0, .bool false] (eCons 0 1 x23 (eCons 1 1 (.int .i64 (-1)) (eCons 2 1 (.int .i64 (-1)) (eCons 4 1 x24 (eCons 8 1 (.int .i64 (-1)) (eCons 9 1 x28 eNil)))))) fun x29 =>
boxD false [.str [], .int .i64 0, .int .i64 0, .nil .sl, .nil .sl, .nil .sl, .nil .sl, .int .i64 0, .int .i64 0, .bool false] s fun x30 s =>
zSt x30 x29 10 s fun _ s =>
bEqF x16 (ci 10) fun x32 =>
jn (fun _ s =>
fa1 x10 0 fun x34 =>
ldA x34 take1 s fun x35 s =>
ldA x30 (takeN 10) s fun x36 s =>
zBsl [.str [], .int .i64 0, .int .i64 0, .nil .sl, .nil .sl, .nil .sl, .nil .sl, .int .i64 0, .int .i64 0, .bool false] 10 1 (eCons 0 10 x36 eNil) s fun x37 s =>
appB 10 152 x35 x37 s fun x38 s =>
fa1 x10 0 fun x39 =>
zSt x39 x38 1 s fun _ s =>
K18 [] s) fun K33 =>
cnd x32 (fa1 x30 7 fun x41 =>
zSt x41 (ci 2) 1 s fun _ s =>
fa1 x30 8 fun x43 =>
zSt x43 (ci 0) 1 s fun _ s =>
K33 [] s)
(fa1 x10 4 fun x45 =>
ldA x45 take1 s fun x46 s =>
zBsl [.int .i64 0] 1 1 (eCons 0 1 x16 eNil) s fun x47 s =>
appB 1 8 x46 x47 s fun x48 s =>
fa1 x10 4 fun x49 =>
zSt x49 x48 1 s fun _ s =>
K33 [] s))
(K12 [] s)) [(ci 0)] s)
def F10 : F2 := .fn H10 true
theorem fe10 : feE Tryz.prog ann 10 0 [.j [], .j [2], .j [], .j [], .j []] = some F10 := by kernel_rfl
/- (*daguerre/vm.Machine).Run -/
def H11 : F2C := fun c k v s K =>
pop v fun x0 v =>
pop v fun x1 v =>
endE v (
boxD false [.nil .sl, .int .i64 0, .int .i32 0, .str []] s fun x2 s =>
vNil false .ptr x0 fun x3 =>
cnd x3 (none)
(jn (fun _ s =>
vChk x0 fun x5 =>
fa1 x5 16 fun x6 =>
fa1 x6 0 fun x7 =>
ldA x7 take1 s fun x8 s =>
c (.mk .d0 .d0 .d2 .d4) [x8] s fun x9 s =>
vBld [.nil .sl, .int .i64 0, .int .i32 0, .str []] (eCons 0 1 x9 (eCons 1 1 (ci 3) eNil)) fun x10 =>
zSt x2 x10 4 s fun _ s =>
ldA x2 (takeN 4) s K) fun _ =>
loopE k (fun K12 v s =>
pop v fun x13 _ =>
bLt x13 x1 fun x14 =>
cnd x14 (jn (fun _ s =>
bAdd x13 (ci 1) fun x16 =>
K12 [x16] s) fun K15 =>
c (.mk .d0 .d0 .d2 .d3) [x0] s fun x17 s =>
bEqT x17 (ci 0) fun x18 =>
cnd x18 (vChk x0 fun x19 =>
fa1 x19 16 fun x20 =>
ldA x20 (takeN 4) s fun x21 s =>
boxD false [.nil .sl, .int .i64 0, .int .i32 0, .str []] s fun x22 s =>
zSt x22 x21 4 s fun _ s =>
fa1 x22 0 fun x24 =>
ldA x24 take1 s fun x25 s =>
c (.mk .d0 .d0 .d2 .d4) [x25] s fun x26 s =>
fa1 x22 0 fun x27 =>
zSt x27 x26 1 s fun _ s =>
ldA x22 (takeN 4) s fun x29 s =>
zSt x2 x29 4 s fun _ s =>
ldA x2 (takeN 4) s K)
(K15 [] s))
(none)) [(ci 0)] s))
def F11 : F2 := .fn H11 true
theorem fe11 : feE Tryz.prog ann 11 2 [.cl, .j [], .j [10], .cr, .j [], .j []] = some F11 := by kernel_rfl
/- daguerre/daguerrelaw26.Begun -/
def H12 : F2C := fun c _ v s K =>
endE v (
c (.mk .d0 .d0 .d2 .d5) [] s fun x0 s =>
K x0 s)
def F12 : F2 := .pur H12 true mNo
theorem fe12 : feE Tryz.prog ann 12 0 [] = some F12 := by kernel_rfl
def M12 (k : Nat) : F2 := .pur H12 true (Bool.rec mNo (mVal (.bool true)) (Nat.ble 12 k))
/- daguerre/daguerrelaw12.Begun -/
def H13 : F2C := fun c _ v s K =>
endE v (
c (.mk .d0 .d0 .d2 .d6) [] s fun x0 s =>
K x0 s)
def F13 : F2 := .pur H13 true mNo
theorem fe13 : feE Tryz.prog ann 13 0 [] = some F13 := by kernel_rfl
def M13 (k : Nat) : F2 := .pur H13 true (Bool.rec mNo (mVal (.bool true)) (Nat.ble 14 k))
/- daguerre/daguerrelaw15.Begun -/
def H14 : F2C := fun c _ v s K =>
endE v (
c (.mk .d0 .d0 .d2 .d7) [] s fun x0 s =>
K x0 s)
def F14 : F2 := .pur H14 true mNo
theorem fe14 : feE Tryz.prog ann 14 0 [] = some F14 := by kernel_rfl
def M14 (k : Nat) : F2 := .pur H14 true (Bool.rec mNo (mVal (.bool true)) (Nat.ble 16 k))
/- (*daguerre/vm.Machine).Live -/
def H15 : F2C := fun c _ v s K =>
pop v fun x0 v =>
endE v (
vNil false .ptr x0 fun x1 =>
cnd x1 (none)
(lgE qNoE (zK x0) s fun x2 e3 s =>
lgE qNoE (zV (vChk x2)) s fun x4 e5 s =>
lgE qNoE (zV (fa1 x4 9)) s fun x6 e7 s =>
lgE (qLdE x6 1) (ldA x6 take1) s fun x8 e9 s =>
lgE qNoE (zK x0) s fun x10 e11 s =>
lgE qNoE (zV (vGen (.mkf 25 [(.c x10)] []))) s fun x12 e13 s =>
lgE qNoE (zK x0) s fun x14 e15 s =>
lgE qNoE (c (.mk .d0 .d0 .d3 .d2) [x14]) s fun x16 e17 s =>
lgE qNoE (c (.mk .d0 .d0 .d3 .d0) [x8, x12, x16]) s fun x18 e19 s =>
lgE qNoE (zK x18) s fun x20 e21 s =>
calmE [(3, 5), (3, 7), (5, 7)] [e3, e5, e7, e9, e11, e13, e15, e17, e19, e21] (fun s =>
K x20 s) s))
def F15 : F2 := .fn H15 true
theorem fe15 : feE Tryz.prog ann 15 1 [.cl] = some F15 := by kernel_rfl
/- daguerre/image.Encode -/
def H17 : F2C := fun c _ v s K =>
pop v fun x0 v =>
endE v (
zTbox x0 s fun x1 s =>
fa1 x1 0 fun x2 =>
ldA x2 take1 s fun x3 s =>
c (.mk .d0 .d0 .d3 .d7) [x3, (.fn 32 [] [])] s fun x4 s =>
cnd x4 (none)
(vBld [.nil .sl] eNil fun x5 =>
zBox true x5 s fun x6 s =>
fa1 x1 0 fun x7 =>
ldA x7 take1 s fun x8 s =>
vGen (.mkf 34 [(.c x6)] []) fun x9 =>
c (.mk .d0 .d0 .d4 .d1) [x6, x8, x9] s fun _ s =>
fa1 x1 1 fun x11 =>
ldA x11 take1 s fun x12 s =>
vGen (.mkf 36 [(.c x6)] []) fun x13 =>
c (.mk .d0 .d0 .d4 .d3) [x6, x12, x13] s fun _ s =>
fa1 x1 2 fun x15 =>
ldA x15 take1 s fun x16 s =>
c (.mk .d0 .d0 .d4 .d5) [x6, x16] s fun _ s =>
fa1 x1 3 fun x18 =>
ldA x18 take1 s fun x19 s =>
c (.mk .d0 .d0 .d4 .d5) [x6, x19] s fun _ s =>
fa1 x1 4 fun x21 =>
ldA x21 take1 s fun x22 s =>
vGen (.mkf 37 [(.c x6)] []) fun x23 =>
c (.mk .d0 .d0 .d4 .d6) [x6, x22, x23] s fun _ s =>
fa1 x1 5 fun x25 =>
ldA x25 take1 s fun x26 s =>
vGen (.mkf 40 [(.c x6)] []) fun x27 =>
c (.mk .d0 .d0 .d4 .d7) [x6, x26, x27] s fun _ s =>
fa1 x1 6 fun x29 =>
ldA x29 take1 s fun x30 s =>
vGen (.mkf 37 [(.c x6)] []) fun x31 =>
c (.mk .d0 .d0 .d4 .d6) [x6, x30, x31] s fun _ s =>
fa1 x1 7 fun x33 =>
ldA x33 take1 s fun x34 s =>
vGen (.mkf 40 [(.c x6)] []) fun x35 =>
c (.mk .d0 .d0 .d4 .d7) [x6, x34, x35] s fun _ s =>
fa1 x1 8 fun x37 =>
ldA x37 take1 s fun x38 s =>
vGen (.mkf 42 [(.c x6)] []) fun x39 =>
c (.mk .d0 .d0 .d5 .d1) [x6, x38, x39] s fun _ s =>
vChk x6 fun x41 =>
fa1 x41 0 fun x42 =>
ldA x42 take1 s fun x43 s =>
vLenS x43 fun x44 =>
bAdd (ci 8) x44 fun x45 =>
bAdd x45 (ci 4) fun x46 =>
bGt x46 (ci 1048576) fun x47 =>
cnd x47 (none)
(lgE qNoE (zHbs [.int .u8 0, .int .u8 0, .int .u8 0, .int .u8 0] 1 4 (eCons 0 1 (cu 68) (eCons 1 1 (cu 65) (eCons 2 1 (cu 71) (eCons 3 1 (cu 85) eNil))))) s fun x48 e49 s =>
lgE qNoE (zCvs x48) s fun x50 e51 s =>
lgE qNoE (zK x46) s fun x52 e53 s =>
lgE qNoE (zV (vCv .u32 x52)) s fun x54 e55 s =>
lgE qNoE (c (.mk .d0 .d0 .d5 .d3) [x54]) s fun x56 e57 s =>
lgE qNoE (appB 1 1 x50 x56) s fun x58 e59 s =>
lgE qNoE (zK x6) s fun x60 e61 s =>
lgE qNoE (zV (vChk x60)) s fun x62 e63 s =>
lgE qNoE (zV (fa1 x62 0)) s fun x64 e65 s =>
lgE (qLdE x64 1) (ldA x64 take1) s fun x66 e67 s =>
lgE qNoE (appB 1 1 x58 x66) s fun x68 e69 s =>
lgE qNoE (zK x68) s fun x70 e71 s =>
calmE [(0, 3), (1, 3), (0, 4), (1, 4), (0, 9), (1, 9), (3, 9), (4, 9), (5, 9)] [e49, e51, e53, e55, e57, e59, e61, e63, e65, e67, e69, e71] (fun s =>
c (.mk .d0 .d0 .d5 .d4) [x70] s fun x72 s =>
c (.mk .d0 .d0 .d5 .d3) [x72] s fun x73 s =>
c (.mk .d0 .d0 .d5 .d5) [x73] s fun _ s =>
appB 1 1 x70 x73 s fun x75 s =>
K x75 s) s)))
def F17 : F2 := .fn H17 true
theorem fe17 : feE Tryz.prog ann 17 1 [.cl, .cl] = some F17 := by kernel_rfl
/- daguerre/load.Load -/
def H16 : F2C := fun c _ v s K =>
pop v fun x0 v =>
pop v fun x1 v =>
endE v (
boxD false [.nil .sl, .nil .sl, .int .i64 0, .int .i64 0, .nil .sl, .nil .sl, .nil .sl, .nil .sl, .nil .sl, .int .i64 0] s fun x2 s =>
c (.mk .d0 .d0 .d3 .d3) [x0] s fun x3 s =>
vExt x3 0 fun x4 =>
vExt x3 1 fun x5 =>
boxD false [.nil .sl, .nil .sl, .int .i64 0, .int .i64 0, .nil .sl, .nil .sl, .nil .sl, .nil .sl, .nil .sl] s fun x6 s =>
zSt x6 x4 9 s fun _ s =>
jn (fun _ s =>
ldA x6 (takeN 9) s fun x9 s =>
c (.mk .d0 .d0 .d3 .d6) [x9, (ci 0), x1] s fun x10 s =>
vExt x10 0 fun x11 =>
vExt x10 1 fun _ =>
zSt x6 x11 9 s fun _ s =>
ldA x6 (takeN 9) s fun x14 s =>
vBld [.nil .sl, .nil .sl, .int .i64 0, .int .i64 0, .nil .sl, .nil .sl, .nil .sl, .nil .sl, .nil .sl, .int .i64 0] (eCons 0 9 x14 (eCons 9 1 x1 eNil)) fun x15 =>
zSt x2 x15 10 s fun _ s =>
ldA x2 (takeN 10) s fun x17 s => K (.tup [x17, (ci 0)]) s) fun K8 =>
bEqT x5 (ci 0) fun x18 =>
cnd x18 (vBld [.nil .sl, .nil .sl, .int .i64 0, .int .i64 0, .nil .sl, .nil .sl, .nil .sl, .nil .sl, .nil .sl, .int .i64 0] eNil fun x19 =>
zSt x2 x19 10 s fun _ s =>
ldA x2 (takeN 10) s fun x21 s => K (.tup [x21, x5]) s)
(ldA x6 (takeN 9) s fun x22 s =>
c (.mk .d0 .d0 .d3 .d4) [x22] s fun x23 s =>
vGen (.un .not (.c x23)) fun x24 =>
cnd x24 (vBld [.nil .sl, .nil .sl, .int .i64 0, .int .i64 0, .nil .sl, .nil .sl, .nil .sl, .nil .sl, .nil .sl, .int .i64 0] eNil fun x25 =>
zSt x2 x25 10 s fun _ s =>
ldA x2 (takeN 10) s fun x27 s => K (.tup [x27, (ci 1)]) s)
(c (.mk .d0 .d0 .d3 .d5) [x1] s fun x28 s =>
vGen (.un .not (.c x28)) fun x29 =>
cnd x29 (vBld [.nil .sl, .nil .sl, .int .i64 0, .int .i64 0, .nil .sl, .nil .sl, .nil .sl, .nil .sl, .nil .sl, .int .i64 0] eNil fun x30 =>
zSt x2 x30 10 s fun _ s =>
ldA x2 (takeN 10) s fun x32 s => K (.tup [x32, (ci 9)]) s)
(K8 [] s))))
def F16 : F2 := .fn H16 true
theorem fe16 : feE Tryz.prog ann 16 2 [.j [], .j [], .j [], .j []] = some F16 := by kernel_rfl
/- daguerre/vm.New -/
def H18 : F2C := fun c k v s K =>
pop v fun x0 v =>
pop v fun x1 v =>
pop v fun x2 v =>
endE v (
zBox false x0 s fun x3 s =>
ldA x3 (takeN 10) s fun x4 s =>
c (.mk .d0 .d0 .d5 .d6) [x4, (ci 0)] s fun x5 s =>
vExt x5 0 fun x6 =>
vExt x5 1 fun _ =>
zSt x3 x6 10 s fun _ s =>
lgE qNoE (zV (fa1 x3 0)) s fun x9 e10 s =>
lgE (qLdE x9 9) (ldA x9 (takeN 9)) s fun x11 e12 s =>
lgE qNoE (zK x1) s fun x13 e14 s =>
lgE qNoE (c (.mk .d0 .d0 .d2 .d4) [x13]) s fun x15 e16 s =>
lgE qNoE (c (.mk .d0 .d0 .d5 .d7) []) s fun x17 e18 s =>
lgE qNoE (zV (vBld [.nil .sl, .nil .sl, .int .i64 0, .int .i64 0, .nil .sl, .nil .sl, .nil .sl, .nil .sl, .nil .sl, .nil .ptr, .nil .sl, .nil .sl, .nil .sl, .nil .sl, .nil .sl, .int .i64 0, .nil .sl, .int .i64 0, .int .i32 0, .str []] (eCons 0 9 x11 (eCons 12 1 x15 (eCons 14 1 x17 eNil))))) s fun x19 e20 s =>
lgE qNoE (zBox true x19) s fun x21 e22 s =>
lgE qNoE (zK x21) s fun x23 e24 s =>
calmE [(1, 3), (1, 4)] [e10, e12, e14, e16, e18, e20, e22, e24] (fun s =>
vChk x23 fun x25 =>
fa1 x25 0 fun x26 =>
fa1 x26 7 fun x27 =>
ldA x27 take1 s fun x28 s =>
vLenS x28 fun x29 =>
jn (fun _ s =>
vChk x23 fun x31 =>
fa1 x31 0 fun x32 =>
fa1 x32 0 fun x33 =>
ldA x33 take1 s fun x34 s =>
vLenS x34 fun x35 =>
jn (fun _ s =>
vChk x23 fun x37 =>
fa1 x37 0 fun x38 =>
fa1 x38 5 fun x39 =>
ldA x39 take1 s fun x40 s =>
c (.mk .d0 .d0 .d6 .d0) [x40, x2] s fun x41 s =>
vExt x41 0 fun x42 =>
vExt x41 1 fun x43 =>
vChk x23 fun x44 =>
fa1 x44 9 fun x45 =>
zSt x45 x42 1 s fun _ s =>
vGen (.un .not (.c x43)) fun x47 =>
cnd x47 (vChk x23 fun x48 =>
fa1 x48 16 fun x49 =>
fa1 x49 1 fun x50 =>
zSt x50 (ci 4) 1 s fun _ s =>
K x23 s)
(vChk x23 fun x52 =>
fa1 x52 0 fun x53 =>
fa1 x53 2 fun x54 =>
ldA x54 take1 s fun x55 s =>
c (.mk .d0 .d0 .d6 .d1) [x23, x55, (.int .i64 (-1)), (.nil .sl)] s fun x56 s =>
cnd x56 (lgE qNoE (zK x23) s fun x57 e58 s =>
lgE qNoE (c (.mk .d0 .d0 .d6 .d2) [x57]) s fun x59 e60 s =>
lgE qNoE (zK x23) s fun x61 e62 s =>
lgE qNoE (zV (vChk x61)) s fun x63 e64 s =>
lgE qNoE (zV (fa1 x63 0)) s fun x65 e66 s =>
lgE qNoE (zV (fa1 x65 3)) s fun x67 e68 s =>
lgE (qLdE x67 1) (ldA x67 take1) s fun x69 e70 s =>
lgE qNoE (zV (vChk x59)) s fun x71 e72 s =>
lgE qNoE (zV (fa1 x71 8)) s fun x73 e74 s =>
lgE qNoE (zSt x73 x69 1) s fun _ e76 s =>
calmE [(1, 6)] [e58, e60, e62, e64, e66, e68, e70, e72, e74, e76] (fun s =>
K x23 s) s)
(none))) fun K36 =>
loopE k (fun K77 v s =>
pop v fun x78 _ =>
bLt x78 x35 fun x79 =>
cnd x79 (jn (fun _ s =>
bAdd x78 (ci 1) fun x81 =>
K77 [x81] s) fun K80 =>
vIaS x34 x78 10 fun x82 =>
ldA x82 (takeN 10) s fun x83 s =>
boxD false [.str [], .int .i64 0, .int .i64 0, .nil .sl, .nil .sl, .nil .sl, .nil .sl, .int .i64 0, .int .i64 0, .bool false] s fun x84 s =>
zSt x84 x83 10 s fun _ s =>
fa1 x84 2 fun x86 =>
ldA x86 take1 s fun x87 s =>
bLt x87 (ci 0) fun x88 =>
cnd x88 (vChk x23 fun x89 =>
fa1 x89 11 fun x90 =>
ldA x90 take1 s fun x91 s =>
zBsl [.int .i64 0] 1 1 (eCons 0 1 (ci 1) eNil) s fun x92 s =>
appB 1 8 x91 x92 s fun x93 s =>
vChk x23 fun x94 =>
fa1 x94 11 fun x95 =>
zSt x95 x93 1 s fun _ s =>
K80 [] s)
(none))
(K36 [] s)) [(ci 0)] s) fun K30 =>
loopE k (fun K97 v s =>
pop v fun x98 _ =>
bLt x98 x29 fun x99 =>
cnd x99 (jn (fun _ s =>
bAdd x98 (ci 1) fun x101 =>
K97 [x101] s) fun K100 =>
vIaS x28 x98 1 fun x102 =>
ldA x102 take1 s fun x103 s =>
lgE qNoE (zK x23) s fun x104 e105 s =>
lgE qNoE (zK x23) s fun x106 e107 s =>
lgE qNoE (zV (vChk x106)) s fun x108 e109 s =>
lgE qNoE (zV (fa1 x108 10)) s fun x110 e111 s =>
lgE (qLdE x110 1) (ldA x110 take1) s fun x112 e113 s =>
lgE qNoE (zK x23) s fun x114 e115 s =>
lgE qNoE (zV (vChk x114)) s fun x116 e117 s =>
lgE qNoE (zV (fa1 x116 0)) s fun x118 e119 s =>
lgE qNoE (zV (fa1 x118 8)) s fun x120 e121 s =>
lgE (qLdE x120 1) (ldA x120 take1) s fun x122 e123 s =>
lgE qNoE (zK x98) s fun x124 e125 s =>
lgE qNoE (zV (vIaS x122 x124 1)) s fun x126 e127 s =>
lgE (qLdE x126 1) (ldA x126 take1) s fun x128 e129 s =>
lgE qNoE (zK x103) s fun x130 e131 s =>
lgE qNoE (zV (vBld [.bool false, .int .i32 0] (eCons 0 1 x128 (eCons 1 1 x130 eNil)))) s fun x132 e133 s =>
lgE qNoE (zBsl [.bool false, .int .i32 0] 2 1 (eCons 0 2 x132 eNil)) s fun x134 e135 s =>
lgE qNoE (appB 2 8 x112 x134) s fun x136 e137 s =>
lgE qNoE (zV (vChk x104)) s fun x138 e139 s =>
lgE qNoE (zV (fa1 x138 10)) s fun x140 e141 s =>
lgE qNoE (zSt x140 x136 1) s fun _ e143 s =>
calmE [(4, 9), (4, 12), (4, 14), (4, 15)] [e105, e107, e109, e111, e113, e115, e117, e119, e121, e123, e125, e127, e129, e131, e133, e135, e137, e139, e141, e143] (fun s =>
K100 [] s) s)
(K30 [] s)) [(ci 0)] s) s)
def F18 : F2 := .fn H18 true
theorem fe18 : feE Tryz.prog ann 18 3 [.j [], .j [32], .j [], .j [], .j [], .j [63], .j [], .j [], .cr, .j [], .cr] = some F18 := by kernel_rfl
/- (*daguerre/vm.Machine).Step -/
def H19 : F2C := fun c _ v s K =>
pop v fun x0 v =>
endE v (
vNil false .ptr x0 fun x1 =>
gK x1 false x0 fun x2 =>
gV x1 false (vChk x2) fun x3 =>
gV x1 false (fa1 x3 16) fun x4 =>
gV x1 false (fa1 x4 1) fun x5 =>
gH x1 false (ldA x5 take1) s fun x6 s =>
gV x1 false (bEqT x6 (ci 0)) fun x7 =>
vPick x1 ct x7 fun x8 =>
cnd x8 (c (.mk .d0 .d0 .d6 .d3) [x0] s fun x9 s =>
K x9 s)
(vChk x0 fun x10 =>
fa1 x10 15 fun x11 =>
ldA x11 take1 s fun x12 s =>
bAdd x12 (ci 1) fun x13 =>
vChk x0 fun x14 =>
fa1 x14 15 fun x15 =>
zSt x15 x13 1 s fun _ s =>
c (.mk .d0 .d0 .d6 .d2) [x0] s fun x17 s =>
vChk x17 fun x18 =>
fa1 x18 8 fun x19 =>
ldA x19 take1 s fun x20 s =>
bGe x20 (ci 0) fun x21 =>
gK x21 true x0 fun x22 =>
gK x21 true x17 fun x23 =>
gV x21 true (vChk x23) fun x24 =>
gV x21 true (fa1 x24 8) fun x25 =>
gH x21 true (ldA x25 take1) s fun x26 s =>
gH x21 true (c (.mk .d0 .d0 .d6 .d4) [x22, x26]) s fun x27 s =>
gV x21 true (vGen (.un .not (.c x27))) fun x28 =>
vPick x21 x28 cf fun x29 =>
cnd x29 (none)
(vChk x17 fun x30 =>
fa1 x30 8 fun x31 =>
zSt x31 (.int .i64 (-1)) 1 s fun _ s =>
lgE qNoE (zK x17) s fun x33 e34 s =>
lgE qNoE (zV (vChk x33)) s fun x35 e36 s =>
lgE qNoE (zV (fa1 x35 0)) s fun x37 e38 s =>
lgE (qLdE x37 1) (ldA x37 take1) s fun x39 e40 s =>
lgE qNoE (c (.mk .d0 .d0 .d6 .d5) [x39]) s fun x41 e42 s =>
lgE qNoE (zV (bLt x41 (ci 0))) s fun x43 e44 s =>
lgE qNoE (zK x43) s fun x45 e46 s =>
lgE (qGE x45 false qNoE) (zG x45 false (zK x17)) s fun x47 e48 s =>
lgE (qGE x45 false qNoE) (zG x45 false (zV (vChk x47))) s fun x49 e50 s =>
lgE (qGE x45 false qNoE) (zG x45 false (zV (fa1 x49 0))) s fun x51 e52 s =>
lgE (qGE x45 false (qLdE x51 1)) (zG x45 false (ldA x51 take1)) s fun x53 e54 s =>
lgE (qGE x45 false qNoE) (zG x45 false (c (.mk .d0 .d0 .d6 .d5) [x53])) s fun x55 e56 s =>
lgE (qGE x45 false qNoE) (zG x45 false (zK x17)) s fun x57 e58 s =>
lgE (qGE x45 false qNoE) (zG x45 false (zV (vChk x57))) s fun x59 e60 s =>
lgE (qGE x45 false qNoE) (zG x45 false (zV (fa1 x59 1))) s fun x61 e62 s =>
lgE (qGE x45 false qNoE) (zG x45 false (zV (fa1 x61 4))) s fun x63 e64 s =>
lgE (qGE x45 false (qLdE x63 1)) (zG x45 false (ldA x63 take1)) s fun x65 e66 s =>
lgE (qGE x45 false qNoE) (zG x45 false (zV (vLenS x65))) s fun x67 e68 s =>
lgE (qGE x45 false qNoE) (zG x45 false (zV (bGe x55 x67))) s fun x69 e70 s =>
lgE qNoE (zV (vPick x45 ct x69)) s fun x71 e72 s =>
calmE [(10, 16), (11, 16), (10, 17), (11, 17)] [e34, e36, e38, e40, e42, e44, e46, e48, e50, e52, e54, e56, e58, e60, e62, e64, e66, e68, e70, e72] (fun s =>
cnd x71 (none)
(lgE qNoE (zK x17) s fun x73 e74 s =>
lgE qNoE (zV (vChk x73)) s fun x75 e76 s =>
lgE qNoE (zV (fa1 x75 1)) s fun x77 e78 s =>
lgE qNoE (zV (fa1 x77 4)) s fun x79 e80 s =>
lgE (qLdE x79 1) (ldA x79 take1) s fun x81 e82 s =>
lgE qNoE (zK x17) s fun x83 e84 s =>
lgE qNoE (zV (vChk x83)) s fun x85 e86 s =>
lgE qNoE (zV (fa1 x85 0)) s fun x87 e88 s =>
lgE (qLdE x87 1) (ldA x87 take1) s fun x89 e90 s =>
lgE qNoE (c (.mk .d0 .d0 .d6 .d5) [x89]) s fun x91 e92 s =>
lgE qNoE (zV (vIaS x81 x91 4)) s fun x93 e94 s =>
lgE (qLdE x93 4) (ldA x93 (takeN 4)) s fun x95 e96 s =>
lgE qNoE (boxD false [.int .i64 0, .int .i64 0, .int .i64 0, .int .i64 0]) s fun x97 e98 s =>
lgE qNoE (zSt x97 x95 4) s fun _ e100 s =>
calmE [(4, 8), (4, 9), (4, 12), (8, 12), (9, 12), (11, 12)] [e74, e76, e78, e80, e82, e84, e86, e88, e90, e92, e94, e96, e98, e100] (fun s =>
lgE qNoE (zK x0) s fun x101 e102 s =>
lgE qNoE (zV (vChk x101)) s fun x103 e104 s =>
lgE qNoE (zV (fa1 x103 14)) s fun x105 e106 s =>
lgE (qLdE x105 1) (ldA x105 take1) s fun x107 e108 s =>
lgE qNoE (zV (fa1 x97 0)) s fun x109 e110 s =>
lgE (qLdE x109 1) (ldA x109 take1) s fun x111 e112 s =>
lgE qNoE (zV (vIaS x107 x111 1)) s fun x113 e114 s =>
lgE (qLdE x113 1) (ldA x113 take1) s fun x115 e116 s =>
lgE qNoE (zK x0) s fun x117 e118 s =>
lgE qNoE (zK x17) s fun x119 e120 s =>
lgE (qLdE x97 4) (ldA x97 (takeN 4)) s fun x121 e122 s =>
lgE qNoE (zCallV c x115 [x117, x119, x121]) s fun _ e124 s =>
calmE [(3, 5), (3, 10), (5, 10), (7, 10)] [e102, e104, e106, e108, e110, e112, e114, e116, e118, e120, e122, e124] (fun s =>
vChk x0 fun x125 =>
fa1 x125 16 fun x126 =>
fa1 x126 1 fun x127 =>
ldA x127 take1 s fun x128 s =>
K x128 s) s) s)) s)))
def F19 : F2 := .fn H19 true
theorem fe19 : feE Tryz.prog ann 19 1 [.j [], .cl, .cl] = some F19 := by kernel_rfl
/- slices.Clone[[]int32,int32] -/
def H20 : F2C := fun _ _ v s K =>
pop v fun x0 v =>
endE v (
vNil false .sl x0 fun x1 =>
cnd x1 (K (.nil .sl) s)
(zHbs [] 1 0 eNil s fun x2 s =>
appB 1 4 x2 x0 s fun x3 s =>
K x3 s))
def F20 : F2 := .fn H20 true
theorem fe20 : feE Tryz.prog ann 20 1 [.j []] = some F20 := by kernel_rfl
/- daguerre/daguerrelaw26.begun -/
def H21 : F2C := fun c _ v s K =>
endE v (
c (.mk .d0 .d0 .d1 .d2) [] s fun x0 s =>
boxD false [.nil .sl, .nil .sl, .int .i64 0, .int .i64 0, .nil .sl, .nil .sl, .nil .sl, .nil .sl, .nil .sl] s fun x1 s =>
zSt x1 x0 9 s fun _ s =>
ldA x1 (takeN 9) s fun x3 s =>
c (.mk .d0 .d0 .d2 .d1) [x3] s fun x4 s =>
c (.mk .d0 .d0 .d2 .d0) [x4, (ci 100)] s fun x5 s =>
vExt x5 0 fun x6 =>
vExt x5 1 fun x7 =>
boxD false [.nil .sl, .nil .sl, .int .i64 0, .int .i64 0, .nil .sl, .nil .sl, .nil .sl, .nil .sl, .nil .sl, .int .i64 0] s fun x8 s =>
zSt x8 x6 10 s fun _ s =>
c (.mk .d0 .d0 .d2 .d0) [(.nil .sl), (ci 0)] s fun x10 s =>
vExt x10 0 fun x11 =>
vExt x10 1 fun x12 =>
boxD false [.nil .sl, .nil .sl, .int .i64 0, .int .i64 0, .nil .sl, .nil .sl, .nil .sl, .nil .sl, .nil .sl, .int .i64 0] s fun x13 s =>
zSt x13 x11 10 s fun _ s =>
ldA x1 (takeN 9) s fun x15 s =>
c (.mk .d0 .d0 .d2 .d1) [x15] s fun x16 s =>
c (.mk .d0 .d0 .d2 .d0) [x16, (.int .i64 (-1))] s fun x17 s =>
vExt x17 0 fun x18 =>
vExt x17 1 fun x19 =>
boxD false [.nil .sl, .nil .sl, .int .i64 0, .int .i64 0, .nil .sl, .nil .sl, .nil .sl, .nil .sl, .nil .sl, .int .i64 0] s fun x20 s =>
zSt x20 x18 10 s fun _ s =>
vBld [.nil .sl, .nil .sl, .int .i64 0, .int .i64 0, .nil .sl, .nil .sl, .nil .sl, .nil .sl, .nil .sl] eNil fun x22 =>
c (.mk .d0 .d0 .d2 .d1) [x22] s fun x23 s =>
c (.mk .d0 .d0 .d2 .d0) [x23, (ci 0)] s fun x24 s =>
vExt x24 0 fun x25 =>
vExt x24 1 fun x26 =>
boxD false [.nil .sl, .nil .sl, .int .i64 0, .int .i64 0, .nil .sl, .nil .sl, .nil .sl, .nil .sl, .nil .sl, .int .i64 0] s fun x27 s =>
zSt x27 x25 10 s fun _ s =>
ldA x8 (takeN 10) s fun x29 s =>
c (.mk .d0 .d0 .d5 .d6) [x29, (ci 0)] s fun x30 s =>
vExt x30 0 fun x31 =>
vExt x30 1 fun x32 =>
boxD false [.nil .sl, .nil .sl, .int .i64 0, .int .i64 0, .nil .sl, .nil .sl, .nil .sl, .nil .sl, .nil .sl, .int .i64 0] s fun x33 s =>
zSt x33 x31 10 s fun _ s =>
fa1 x8 0 fun x35 =>
fa1 x35 5 fun x36 =>
ldA x36 take1 s fun x37 s =>
vLenS x37 fun x38 =>
bEqT x38 (ci 5) fun x39 =>
gV x39 false (fa1 x8 0) fun x40 =>
gV x39 false (fa1 x40 7) fun x41 =>
gH x39 false (ldA x41 take1) s fun x42 s =>
gV x39 false (vLenS x42) fun x43 =>
gV x39 false (bEqT x43 (ci 2)) fun x44 =>
vPick x39 ct x44 fun x45 =>
cnd x45 (none)
(c (.mk .d0 .d0 .d6 .d7) [] s fun x46 s =>
gK x46 true x7 fun x47 =>
gV x46 true (bEqF x47 (ci 0)) fun x48 =>
vPick x46 x48 cf fun x49 =>
gV x49 true (fa1 x8 9) fun x50 =>
gH x49 true (ldA x50 take1) s fun x51 s =>
gV x49 true (bEqF x51 (ci 100)) fun x52 =>
vPick x49 x52 cf fun x53 =>
gV x53 true (fa1 x8 0) fun x54 =>
gV x53 true (fa1 x54 5) fun x55 =>
gH x53 true (ldA x55 take1) s fun x56 s =>
gV x53 true (vIaS x56 (ci 4) 1) fun x57 =>
gH x53 true (ldA x57 take1) s fun x58 s =>
gV x53 true (bEqF x58 (cj 101)) fun x59 =>
vPick x53 x59 cf fun x60 =>
gV x60 true (fa1 x8 0) fun x61 =>
gV x60 true (fa1 x61 7) fun x62 =>
gH x60 true (ldA x62 take1) s fun x63 s =>
gV x60 true (vIaS x63 (ci 1) 1) fun x64 =>
gH x60 true (ldA x64 take1) s fun x65 s =>
gV x60 true (bEqF x65 (cj 103)) fun x66 =>
vPick x60 x66 cf fun x67 =>
gV x67 true (fa1 x8 0) fun x68 =>
gV x67 true (fa1 x68 7) fun x69 =>
gH x67 true (ldA x69 take1) s fun x70 s =>
gV x67 true (vIaS x70 (ci 0) 1) fun x71 =>
gH x67 true (ldA x71 take1) s fun x72 s =>
gV x67 true (bEqF x72 (cj 5)) fun x73 =>
vPick x67 x73 cf fun x74 =>
gK x74 true x12 fun x75 =>
gV x74 true (bEqF x75 (ci 6)) fun x76 =>
vPick x74 x76 cf fun x77 =>
gK x77 true x19 fun x78 =>
gV x77 true (bEqF x78 (ci 9)) fun x79 =>
vPick x77 x79 cf fun x80 =>
gK x80 true x26 fun x81 =>
gV x80 true (bEqF x81 (ci 1)) fun x82 =>
vPick x80 x82 cf fun x83 =>
gK x83 true x32 fun x84 =>
vPick x83 x84 cf fun x85 =>
gV x85 true (fa1 x33 9) fun x86 =>
gH x85 true (ldA x86 take1) s fun x87 s =>
gV x85 true (bEqF x87 (ci 0)) fun x88 =>
vPick x85 x88 cf fun x89 =>
gV x89 true (fa1 x33 0) fun x90 =>
gH x89 true (ldA x90 (takeN 9)) s fun x91 s =>
gH x89 true (ldA x1 (takeN 9)) s fun x92 s =>
gH x89 true (c (.mk .d0 .d0 .d7 .d0) [x91, x92]) s fun x93 s =>
vPick x89 x93 cf fun x94 =>
K x94 s))
def F21 : F2 := .pur H21 true mNo
theorem fe21 : feE Tryz.prog ann 21 0 [.cl] = some F21 := by kernel_rfl
def M21 (k : Nat) : F2 := .pur H21 true (Bool.rec mNo (mVal (.bool true)) (Nat.ble 11 k))
/- daguerre/daguerrelaw12.begun -/
def H22 : F2C := fun c _ v s K =>
endE v (
c (.mk .d0 .d0 .d7 .d1) [(ci 8), (cj 2147483647), (cj 1)] s fun x0 s =>
vExt x0 0 fun x1 =>
vExt x0 1 fun x2 =>
c (.mk .d0 .d0 .d7 .d1) [(ci 11), (cj 1), (cj 0)] s fun x3 s =>
vExt x3 0 fun _ =>
vExt x3 1 fun x5 =>
c (.mk .d0 .d0 .d7 .d1) [(ci 11), (.int .i32 (-2147483648)), (.int .i32 (-1))] s fun x6 s =>
vExt x6 0 fun x7 =>
vExt x6 1 fun x8 =>
bEqF x1 (.int .i32 (-2147483648)) fun x9 =>
gK x9 true x2 fun x10 =>
vPick x9 x10 cf fun x11 =>
gK x11 true x5 fun x12 =>
gV x11 true (vGen (.un .not (.c x12))) fun x13 =>
vPick x11 x13 cf fun x14 =>
gK x14 true x7 fun x15 =>
gV x14 true (bEqF x15 (.int .i32 (-2147483648))) fun x16 =>
vPick x14 x16 cf fun x17 =>
gK x17 true x8 fun x18 =>
vPick x17 x18 cf fun x19 =>
gH x19 true (c (.mk .d0 .d0 .d7 .d2) [(ci 13), (cj 5)]) s fun x20 s =>
gV x19 true (bEqF x20 (.int .i32 (-5))) fun x21 =>
vPick x19 x21 cf fun x22 =>
gH x22 true (c (.mk .d0 .d0 .d7 .d3) [(ci 23), (.int .i32 (-1)), (cj 9)]) s fun x23 s =>
vPick x22 x23 cf fun x24 =>
gH x24 true (c (.mk .d0 .d0 .d7 .d3) [(ci 29), (cj 9), (cj 9)]) s fun x25 s =>
gV x24 true (vGen (.un .not (.c x25))) fun x26 =>
vPick x24 x26 cf fun x27 =>
K x27 s)
def F22 : F2 := .pur H22 true mNo
theorem fe22 : feE Tryz.prog ann 22 0 [] = some F22 := by kernel_rfl
def M22 (k : Nat) : F2 := .pur H22 true (Bool.rec mNo (mVal (.bool true)) (Nat.ble 13 k))
/- daguerre/daguerrelaw15.begun -/
def H23 : F2C := fun c _ v s K =>
endE v (
vBld [.bool false, .int .i32 0] (eCons 1 1 (cj 5) eNil) fun x0 =>
vBld [.bool false, .int .i32 0] (eCons 0 1 ct (eCons 1 1 (cj 4) eNil)) fun x1 =>
zBsl [.bool false, .int .i32 0, .bool false, .int .i32 0] 2 2 (eCons 0 2 x0 (eCons 2 2 x1 eNil)) s fun x2 s =>
c (.mk .d0 .d0 .d7 .d4) [(ci 7), (ci 3), (ci 2), x2] s fun x3 s =>
vNil false .ptr x3 fun x4 =>
cnd x4 (none)
(c (.mk .d0 .d0 .d7 .d5) [x3, (ci 2)] s fun x5 s =>
vExt x5 0 fun x6 =>
vExt x5 1 fun x7 =>
boxD false [.bool false, .int .i32 0] s fun x8 s =>
zSt x8 x6 2 s fun _ s =>
vBld [.bool false, .int .i32 0] (eCons 1 1 (cj 1) eNil) fun x10 =>
vBld [.bool false, .int .i32 0] (eCons 0 1 ct eNil) fun x11 =>
zBsl [.bool false, .int .i32 0, .bool false, .int .i32 0] 2 2 (eCons 0 2 x10 (eCons 2 2 x11 eNil)) s fun x12 s =>
c (.mk .d0 .d0 .d7 .d6) [x3, x12] s fun x13 s =>
vBld [.bool false, .int .i32 0] eNil fun x14 =>
zBsl [.bool false, .int .i32 0] 2 1 (eCons 0 2 x14 eNil) s fun x15 s =>
c (.mk .d0 .d0 .d7 .d6) [x3, x15] s fun x16 s =>
c (.mk .d0 .d0 .d7 .d7) [x3] s fun x17 s =>
vLenS x17 fun x18 =>
bEqT x18 (ci 2) fun x19 =>
cnd x19 (none)
(zBsl [.int .i64 0, .int .i64 0] 1 2 (eCons 0 1 (ci 9) (eCons 1 1 (.int .i64 (-1)) eNil)) s fun x20 s =>
c (.mk .d0 .d1 .d0 .d0) [x3, x20] s fun _ s =>
c (.mk .d0 .d0 .d7 .d5) [x3, (ci 1)] s fun x22 s =>
vExt x22 0 fun x23 =>
vExt x22 1 fun _ =>
boxD false [.bool false, .int .i32 0] s fun x25 s =>
zSt x25 x23 2 s fun _ s =>
c (.mk .d0 .d1 .d0 .d1) [x3, (ci 2)] s fun x27 s =>
vExt x27 0 fun x28 =>
vExt x27 1 fun x29 =>
gV x7 true (fa1 x8 0) fun x30 =>
gH x7 true (ldA x30 take1) s fun x31 s =>
gV x7 true (vGen (.un .not (.c x31))) fun x32 =>
vPick x7 x32 cf fun x33 =>
gV x33 true (fa1 x8 1) fun x34 =>
gH x33 true (ldA x34 take1) s fun x35 s =>
gV x33 true (bEqF x35 (cj 0)) fun x36 =>
vPick x33 x36 cf fun x37 =>
gK x37 true x13 fun x38 =>
vPick x37 x38 cf fun x39 =>
gK x39 true x16 fun x40 =>
gV x39 true (vGen (.un .not (.c x40))) fun x41 =>
vPick x39 x41 cf fun x42 =>
gK x42 true x3 fun x43 =>
gH x42 true (c (.mk .d0 .d1 .d0 .d2) [x43]) s fun x44 s =>
gV x42 true (bEqF x44 (ci 7)) fun x45 =>
vPick x42 x45 cf fun x46 =>
gK x46 true x3 fun x47 =>
gH x46 true (c (.mk .d0 .d0 .d6 .d5) [x47]) s fun x48 s =>
gV x46 true (bEqF x48 (ci 0)) fun x49 =>
vPick x46 x49 cf fun x50 =>
gK x50 true x17 fun x51 =>
gV x50 true (vIaS x51 (ci 0) 1) fun x52 =>
gH x50 true (ldA x52 take1) s fun x53 s =>
gV x50 true (bEqF x53 (ci 3)) fun x54 =>
vPick x50 x54 cf fun x55 =>
gK x55 true x17 fun x56 =>
gV x55 true (vIaS x56 (ci 1) 1) fun x57 =>
gH x55 true (ldA x57 take1) s fun x58 s =>
gV x55 true (bEqF x58 (.int .i64 (-1))) fun x59 =>
vPick x55 x59 cf fun x60 =>
gV x60 true (fa1 x25 1) fun x61 =>
gH x60 true (ldA x61 take1) s fun x62 s =>
gV x60 true (bEqF x62 (cj 10)) fun x63 =>
vPick x60 x63 cf fun x64 =>
gK x64 true x29 fun x65 =>
vPick x64 x65 cf fun x66 =>
gK x66 true x28 fun x67 =>
gV x66 true (vLenS x67) fun x68 =>
gV x66 true (bEqF x68 (ci 2)) fun x69 =>
vPick x66 x69 cf fun x70 =>
gK x70 true x28 fun x71 =>
gV x70 true (vIaS x71 (ci 0) 2) fun x72 =>
gV x70 true (fa1 x72 1) fun x73 =>
gH x70 true (ldA x73 take1) s fun x74 s =>
gV x70 true (bEqF x74 (cj 1)) fun x75 =>
vPick x70 x75 cf fun x76 =>
gK x76 true x28 fun x77 =>
gV x76 true (vIaS x77 (ci 1) 2) fun x78 =>
gV x76 true (fa1 x78 0) fun x79 =>
gH x76 true (ldA x79 take1) s fun x80 s =>
vPick x76 x80 cf fun x81 =>
gK x81 true x3 fun x82 =>
gH x81 true (c (.mk .d0 .d1 .d0 .d3) [x82]) s fun x83 s =>
gV x81 true (bEqF x83 (ci 0)) fun x84 =>
vPick x81 x84 cf fun x85 =>
K x85 s)))
def F23 : F2 := .pur H23 true mNo
theorem fe23 : feE Tryz.prog ann 23 0 [.cl, .cl] = some F23 := by kernel_rfl
def M23 (k : Nat) : F2 := .pur H23 true (Bool.rec mNo (mVal (.bool true)) (Nat.ble 15 k))
/- (*daguerre/vm.Machine).ref -/
def H25 : F2C := fun _ _ v s K =>
pop v fun x0 v =>
pop v fun x1 v =>
pop v fun x2 v =>
endE v (
bLt x1 (ci 0) fun x3 =>
gK x3 false x1 fun x4 =>
gK x3 false x0 fun x5 =>
gV x3 false (vChk x5) fun x6 =>
gV x3 false (fa1 x6 0) fun x7 =>
gV x3 false (fa1 x7 0) fun x8 =>
gH x3 false (ldA x8 take1) s fun x9 s =>
gV x3 false (vLenS x9) fun x10 =>
gV x3 false (bGe x4 x10) fun x11 =>
vPick x3 ct x11 fun x12 =>
cnd x12 (none)
(vChk x0 fun x13 =>
fa1 x13 0 fun x14 =>
fa1 x14 0 fun x15 =>
ldA x15 take1 s fun x16 s =>
vIaS x16 x1 10 fun x17 =>
ldA x17 (takeN 10) s fun x18 s =>
boxD false [.str [], .int .i64 0, .int .i64 0, .nil .sl, .nil .sl, .nil .sl, .nil .sl, .int .i64 0, .int .i64 0, .bool false] s fun x19 s =>
zSt x19 x18 10 s fun _ s =>
fa1 x19 7 fun x21 =>
ldA x21 take1 s fun x22 s =>
bEqF x22 (ci 2) fun x23 =>
gV x23 false (fa1 x19 7) fun x24 =>
gH x23 false (ldA x24 take1) s fun x25 s =>
gV x23 false (bEqF x25 (ci 0)) fun x26 =>
gK x23 false x26 fun x27 =>
gK x27 true x2 fun x28 =>
gV x27 true (fa1 x19 3) fun x29 =>
gH x27 true (ldA x29 take1) s fun x30 s =>
gV x27 true (vLenS x30) fun x31 =>
gV x27 true (bLt x28 x31) fun x32 =>
gV x23 false (vPick x27 x32 cf) fun x33 =>
gK x23 false x33 fun x34 =>
gV x34 true (fa1 x19 3) fun x35 =>
gH x34 true (ldA x35 take1) s fun x36 s =>
gK x34 true x2 fun x37 =>
gV x34 true (vIaS x36 x37 1) fun x38 =>
gH x34 true (ldA x38 take1) s fun x39 s =>
gV x23 false (vPick x34 x39 cf) fun x40 =>
vPick x23 ct x40 fun x41 =>
K x41 s))
def F25 : F2 := .fn H25 true
theorem fe25 : feE Tryz.prog ann 25 3 [.cl] = some F25 := by kernel_rfl
/- (*daguerre/vm.Machine).roots -/
def H26 : F2C := fun c k v s K =>
pop v fun x0 v =>
endE v (
c (.mk .d0 .d1 .d0 .d6) [x0] s fun x1 s =>
vChk x0 fun x2 =>
fa1 x2 13 fun x3 =>
ldA x3 take1 s fun x4 s =>
vLenS x4 fun x5 =>
jn (fun v s =>
pop v fun x7 _ =>
K x7 s) fun K6 =>
loopE k (fun K8 v s =>
pop v fun x9 v =>
pop v fun x10 _ =>
bLt x9 x5 fun x11 =>
cnd x11 (jn (fun v s =>
pop v fun x13 _ =>
bAdd x9 (ci 1) fun x14 =>
K8 [x14, x13] s) fun K12 =>
vIaS x4 x9 1 fun x15 =>
ldA x15 take1 s fun x16 s =>
vChk x16 fun x17 =>
fa1 x17 0 fun x18 =>
ldA x18 take1 s fun x19 s =>
c (.mk .d0 .d0 .d7 .d7) [x19] s fun x20 s =>
appB 1 8 x10 x20 s fun x21 s =>
K12 [x21] s)
(K6 [x10] s)) [(ci 0), x1] s)
def F26 : F2 := .fn H26 true
theorem fe26 : feE Tryz.prog ann 26 1 [.j [3], .j [13, 3], .j [], .j [3]] = some F26 := by kernel_rfl
/- daguerre/collect.Live -/
def H24 : F2C := fun c _ v s K =>
pop v fun x0 v =>
pop v fun x1 v =>
pop v fun x2 v =>
endE v (
c (.mk .d0 .d1 .d0 .d4) [x0, x1, x2] s fun x3 s =>
vExt x3 0 fun x4 =>
vExt x3 1 fun _ =>
c (.mk .d0 .d1 .d0 .d5) [x4] s fun x6 s =>
K x6 s)
def F24 : F2 := .fn H24 true
theorem fe24 : feE Tryz.prog ann 24 3 [] = some F24 := by kernel_rfl
/- slices.ContainsFunc[[]daguerre/api.RClass,daguerre/api.RClass] -/
def H31 : F2C := fun c _ v s K =>
pop v fun x0 v =>
pop v fun x1 v =>
endE v (
c (.mk .d0 .d1 .d3 .d4) [x0, x1] s fun x2 s =>
bGe x2 (ci 0) fun x3 =>
K x3 s)
def F31 : F2 := .fn H31 true
theorem fe31 : feE Tryz.prog ann 31 2 [] = some F31 := by kernel_rfl
/- daguerre/image.Encode$1 -/
def H32 : F2C := fun _ _ v s K =>
pop v fun x0 v =>
endE v (
zTbox x0 s fun x1 s =>
fa1 x1 0 fun x2 =>
ldA x2 take1 s fun x3 s =>
vLens x3 fun x4 =>
bGt x4 (ci 1048576) fun x5 =>
K x5 s)
def F32 : F2 := .fn H32 true
theorem fe32 : feE Tryz.prog ann 32 1 [] = some F32 := by kernel_rfl
/- (*daguerre/image.writer).class -/
def H34 : F2C := fun c k v s K =>
pop v fun x0 v =>
pop v fun x1 v =>
endE v (
zBox false x0 s fun x2 s =>
zTbox x1 s fun x3 s =>
lgE (qLdE x2 1) (ldA x2 take1) s fun x4 e5 s =>
lgE (qLdE x2 1) (ldA x2 take1) s fun x6 e7 s =>
lgE qNoE (zV (vChk x6)) s fun x8 e9 s =>
lgE qNoE (zV (fa1 x8 0)) s fun x10 e11 s =>
lgE (qLdE x10 1) (ldA x10 take1) s fun x12 e13 s =>
lgE qNoE (zV (fa1 x3 0)) s fun x14 e15 s =>
lgE (qLdE x14 1) (ldA x14 take1) s fun x16 e17 s =>
lgE qNoE (c (.mk .d0 .d1 .d3 .d5) [x12, x16]) s fun x18 e19 s =>
lgE qNoE (zV (vChk x4)) s fun x20 e21 s =>
lgE qNoE (zV (fa1 x20 0)) s fun x22 e23 s =>
lgE qNoE (zSt x22 x18 1) s fun _ e25 s =>
calmE [(0, 1), (0, 4), (0, 6), (1, 6), (4, 6), (0, 7)] [e5, e7, e9, e11, e13, e15, e17, e19, e21, e23, e25] (fun s =>
fa1 x3 1 fun x26 =>
ldA x26 take1 s fun x27 s =>
fa1 x3 2 fun x28 =>
ldA x28 take1 s fun x29 s =>
fa1 x3 7 fun x30 =>
ldA x30 take1 s fun x31 s =>
fa1 x3 8 fun x32 =>
ldA x32 take1 s fun x33 s =>
vBld [.int .i64 0, .int .i64 0, .int .i64 0, .int .i64 0] (eCons 0 1 x27 (eCons 1 1 x29 (eCons 2 1 x31 (eCons 3 1 x33 eNil)))) fun x34 =>
jn (fun _ s =>
ldA x2 take1 s fun x36 s =>
fa1 x3 9 fun x37 =>
ldA x37 take1 s fun x38 s =>
c (.mk .d0 .d0 .d5 .d2) [x36, x38] s fun _ s =>
ldA x2 take1 s fun x40 s =>
fa1 x3 3 fun x41 =>
ldA x41 take1 s fun x42 s =>
ldA x2 take1 s fun x43 s =>
vGen (.mkf 42 [(.c x43)] []) fun x44 =>
c (.mk .d0 .d0 .d5 .d1) [x40, x42, x44] s fun _ s =>
ldA x2 take1 s fun x46 s =>
fa1 x3 4 fun x47 =>
ldA x47 take1 s fun x48 s =>
ldA x2 take1 s fun x49 s =>
vGen (.mkf 37 [(.c x49)] []) fun x50 =>
c (.mk .d0 .d0 .d4 .d6) [x46, x48, x50] s fun _ s =>
ldA x2 take1 s fun x52 s =>
fa1 x3 5 fun x53 =>
ldA x53 take1 s fun x54 s =>
ldA x2 take1 s fun x55 s =>
vGen (.mkf 37 [(.c x55)] []) fun x56 =>
c (.mk .d0 .d0 .d4 .d6) [x52, x54, x56] s fun _ s =>
ldA x2 take1 s fun x58 s =>
fa1 x3 6 fun x59 =>
ldA x59 take1 s fun x60 s =>
vGen (.mkf 95 [] [(.c x2)]) fun x61 =>
c (.mk .d0 .d1 .d3 .d6) [x58, x60, x61] s fun _ s =>
K (.tup []) s) fun K35 =>
loopE k (fun K63 v s =>
pop v fun x64 _ =>
bLt x64 (ci 4) fun x65 =>
cnd x65 (jn (fun _ s =>
bAdd x64 (ci 1) fun x67 =>
K63 [x67] s) fun K66 =>
vGen (.ixa (.c x34) (.c x64) 4 1 none) fun x68 =>
ldA x2 take1 s fun x69 s =>
c (.mk .d0 .d0 .d4 .d5) [x69, x68] s fun _ s =>
K66 [] s)
(K35 [] s)) [(ci 0)] s) s)
def F34 : F2 := .fn H34 true
theorem fe34 : feE Tryz.prog ann 34 2 [.j [], .j [25], .j [], .j []] = some F34 := by kernel_rfl
/- daguerre/image.list[daguerre/api.RClass] -/
def H33 : F2C := fun c k v s K =>
pop v fun x0 v =>
pop v fun x1 v =>
pop v fun x2 v =>
endE v (
vLenS x1 fun x3 =>
c (.mk .d0 .d0 .d4 .d5) [x0, x3] s fun _ s =>
vLenS x1 fun x5 =>
jn (fun _ s =>
K (.tup []) s) fun K6 =>
loopE k (fun K7 v s =>
pop v fun x8 _ =>
bLt x8 x5 fun x9 =>
cnd x9 (jn (fun _ s =>
bAdd x8 (ci 1) fun x11 =>
K7 [x11] s) fun K10 =>
vIaS x1 x8 10 fun x12 =>
ldA x12 (takeN 10) s fun x13 s =>
boxD false [.str [], .int .i64 0, .int .i64 0, .nil .sl, .nil .sl, .nil .sl, .nil .sl, .int .i64 0, .int .i64 0, .bool false] s fun x14 s =>
zSt x14 x13 10 s fun _ s =>
ldA x14 (takeN 10) s fun x16 s =>
zCallV c x2 [x16] s fun _ s =>
K10 [] s)
(K6 [] s)) [(ci 0)] s)
def F33 : F2 := .fn H33 true
theorem fe33 : feE Tryz.prog ann 33 3 [.j [], .j [14], .j [], .j []] = some F33 := by kernel_rfl
/- (*daguerre/image.writer).method -/
def H36 : F2C := fun c k v s K =>
pop v fun x0 v =>
pop v fun x1 v =>
endE v (
zTbox x1 s fun x2 s =>
fa1 x2 0 fun x3 =>
ldA x3 take1 s fun x4 s =>
fa1 x2 1 fun x5 =>
ldA x5 take1 s fun x6 s =>
fa1 x2 2 fun x7 =>
ldA x7 take1 s fun x8 s =>
vBld [.int .i64 0, .int .i64 0, .int .i64 0] (eCons 0 1 x4 (eCons 1 1 x6 (eCons 2 1 x8 eNil))) fun x9 =>
jn (fun _ s =>
fa1 x2 3 fun x11 =>
ldA x11 take1 s fun x12 s =>
c (.mk .d0 .d0 .d5 .d2) [x0, x12] s fun _ s =>
fa1 x2 4 fun x14 =>
ldA x14 take1 s fun x15 s =>
vGen (.mkf 97 [(.c x0)] []) fun x16 =>
c (.mk .d0 .d1 .d4 .d0) [x0, x15, x16] s fun _ s =>
fa1 x2 5 fun x18 =>
ldA x18 take1 s fun x19 s =>
vGen (.mkf 99 [(.c x0)] []) fun x20 =>
c (.mk .d0 .d1 .d4 .d2) [x0, x19, x20] s fun _ s =>
K (.tup []) s) fun K10 =>
loopE k (fun K22 v s =>
pop v fun x23 _ =>
bLt x23 (ci 3) fun x24 =>
cnd x24 (jn (fun _ s =>
bAdd x23 (ci 1) fun x26 =>
K22 [x26] s) fun K25 =>
vGen (.ixa (.c x9) (.c x23) 3 1 none) fun x27 =>
c (.mk .d0 .d0 .d4 .d5) [x0, x27] s fun _ s =>
K25 [] s)
(K10 [] s)) [(ci 0)] s)
def F36 : F2 := .fn H36 true
theorem fe36 : feE Tryz.prog ann 36 2 [.j [], .j [13], .j [], .j []] = some F36 := by kernel_rfl
/- daguerre/image.list[daguerre/api.RMethod] -/
def H35 : F2C := fun c k v s K =>
pop v fun x0 v =>
pop v fun x1 v =>
pop v fun x2 v =>
endE v (
vLenS x1 fun x3 =>
c (.mk .d0 .d0 .d4 .d5) [x0, x3] s fun _ s =>
vLenS x1 fun x5 =>
jn (fun _ s =>
K (.tup []) s) fun K6 =>
loopE k (fun K7 v s =>
pop v fun x8 _ =>
bLt x8 x5 fun x9 =>
cnd x9 (jn (fun _ s =>
bAdd x8 (ci 1) fun x11 =>
K7 [x11] s) fun K10 =>
vIaS x1 x8 6 fun x12 =>
ldA x12 (takeN 6) s fun x13 s =>
boxD false [.int .i64 0, .int .i64 0, .int .i64 0, .bool false, .nil .sl, .nil .sl] s fun x14 s =>
zSt x14 x13 6 s fun _ s =>
ldA x14 (takeN 6) s fun x16 s =>
zCallV c x2 [x16] s fun _ s =>
K10 [] s)
(K6 [] s)) [(ci 0)] s)
def F35 : F2 := .fn H35 true
theorem fe35 : feE Tryz.prog ann 35 3 [.j [], .j [14], .j [], .j []] = some F35 := by kernel_rfl
/- (*daguerre/image.writer).num -/
def H37 : F2C := fun c _ v s K =>
pop v fun x0 v =>
pop v fun x1 v =>
endE v (
vChk x0 fun x2 =>
fa1 x2 0 fun x3 =>
ldA x3 take1 s fun x4 s =>
c (.mk .d0 .d1 .d4 .d4) [x4, x1] s fun x5 s =>
vChk x0 fun x6 =>
fa1 x6 0 fun x7 =>
zSt x7 x5 1 s fun _ s =>
K (.tup []) s)
def F37 : F2 := .fn H37 true
theorem fe37 : feE Tryz.prog ann 37 2 [] = some F37 := by kernel_rfl
/- daguerre/image.list[int] -/
def H38 : F2C := fun c k v s K =>
pop v fun x0 v =>
pop v fun x1 v =>
pop v fun x2 v =>
endE v (
vLenS x1 fun x3 =>
c (.mk .d0 .d0 .d4 .d5) [x0, x3] s fun _ s =>
vLenS x1 fun x5 =>
jn (fun _ s =>
K (.tup []) s) fun K6 =>
loopE k (fun K7 v s =>
pop v fun x8 _ =>
bLt x8 x5 fun x9 =>
cnd x9 (jn (fun _ s =>
bAdd x8 (ci 1) fun x11 =>
K7 [x11] s) fun K10 =>
vIaS x1 x8 1 fun x12 =>
ldA x12 take1 s fun x13 s =>
zCallV c x2 [x13] s fun _ s =>
K10 [] s)
(K6 [] s)) [(ci 0)] s)
def F38 : F2 := .fn H38 true
theorem fe38 : feE Tryz.prog ann 38 3 [.j [], .j [14], .j [], .j []] = some F38 := by kernel_rfl
/- (*daguerre/image.writer).word -/
def H40 : F2C := fun c _ v s K =>
pop v fun x0 v =>
pop v fun x1 v =>
endE v (
vCv .i64 x1 fun x2 =>
c (.mk .d0 .d0 .d4 .d5) [x0, x2] s fun _ s =>
K (.tup []) s)
def F40 : F2 := .fn H40 true
theorem fe40 : feE Tryz.prog ann 40 2 [] = some F40 := by kernel_rfl
/- daguerre/image.list[int32] -/
def H39 : F2C := fun c k v s K =>
pop v fun x0 v =>
pop v fun x1 v =>
pop v fun x2 v =>
endE v (
vLenS x1 fun x3 =>
c (.mk .d0 .d0 .d4 .d5) [x0, x3] s fun _ s =>
vLenS x1 fun x5 =>
jn (fun _ s =>
K (.tup []) s) fun K6 =>
loopE k (fun K7 v s =>
pop v fun x8 _ =>
bLt x8 x5 fun x9 =>
cnd x9 (jn (fun _ s =>
bAdd x8 (ci 1) fun x11 =>
K7 [x11] s) fun K10 =>
vIaS x1 x8 1 fun x12 =>
ldA x12 take1 s fun x13 s =>
zCallV c x2 [x13] s fun _ s =>
K10 [] s)
(K6 [] s)) [(ci 0)] s)
def F39 : F2 := .fn H39 true
theorem fe39 : feE Tryz.prog ann 39 3 [.j [], .j [14], .j [], .j []] = some F39 := by kernel_rfl
/- (*daguerre/image.writer).truth -/
def H42 : F2C := fun c _ v s K =>
pop v fun x0 v =>
pop v fun x1 v =>
endE v (
jn (fun _ s =>
K (.tup []) s) fun K2 =>
cnd x1 (c (.mk .d0 .d0 .d4 .d5) [x0, (ci 1)] s fun _ s =>
K2 [] s)
(c (.mk .d0 .d0 .d4 .d5) [x0, (ci 0)] s fun _ s =>
K2 [] s))
def F42 : F2 := .fn H42 true
theorem fe42 : feE Tryz.prog ann 42 2 [.j []] = some F42 := by kernel_rfl
/- daguerre/image.list[bool] -/
def H41 : F2C := fun c k v s K =>
pop v fun x0 v =>
pop v fun x1 v =>
pop v fun x2 v =>
endE v (
vLenS x1 fun x3 =>
c (.mk .d0 .d0 .d4 .d5) [x0, x3] s fun _ s =>
vLenS x1 fun x5 =>
jn (fun _ s =>
K (.tup []) s) fun K6 =>
loopE k (fun K7 v s =>
pop v fun x8 _ =>
bLt x8 x5 fun x9 =>
cnd x9 (jn (fun _ s =>
bAdd x8 (ci 1) fun x11 =>
K7 [x11] s) fun K10 =>
vIaS x1 x8 1 fun x12 =>
ldA x12 take1 s fun x13 s =>
zCallV c x2 [x13] s fun _ s =>
K10 [] s)
(K6 [] s)) [(ci 0)] s)
def F41 : F2 := .fn H41 true
theorem fe41 : feE Tryz.prog ann 41 3 [.j [], .j [14], .j [], .j []] = some F41 := by kernel_rfl
/- daguerre/num.Four -/
def H43 : F2C := fun _ _ v s K =>
pop v fun x0 v =>
endE v (
bShr x0 (.int .u64 24) fun x1 =>
vCv .u8 x1 fun x2 =>
bShr x0 (.int .u64 16) fun x3 =>
vCv .u8 x3 fun x4 =>
bShr x0 (.int .u64 8) fun x5 =>
vCv .u8 x5 fun x6 =>
vCv .u8 x0 fun x7 =>
zHbs [.int .u8 0, .int .u8 0, .int .u8 0, .int .u8 0] 1 4 (eCons 0 1 x2 (eCons 1 1 x4 (eCons 2 1 x6 (eCons 3 1 x7 eNil)))) s fun x8 s =>
K x8 s)
def F43 : F2 := .fn H43 true
theorem fe43 : feE Tryz.prog ann 43 1 [] = some F43 := by kernel_rfl
/- daguerre/crc.Sum -/
def H44 : F2C := fun c _ v s K =>
pop v fun x0 v =>
endE v (
c (.mk .d0 .d1 .d4 .d5) [(.int .u32 0), x0] s fun x1 s =>
K x1 s)
def F44 : F2 := .fn H44 true
theorem fe44 : feE Tryz.prog ann 44 1 [] = some F44 := by kernel_rfl
/- slices.Reverse[[]byte,byte] -/
def H45 : F2C := fun _ k v s K =>
pop v fun x0 v =>
endE v (
vLenS x0 fun x1 =>
bSub x1 (ci 1) fun x2 =>
jn (fun _ s =>
K (.tup []) s) fun K3 =>
loopE k (fun K4 v s =>
pop v fun x5 v =>
pop v fun x6 _ =>
bLt x6 x5 fun x7 =>
cnd x7 (jn (fun _ s =>
bAdd x6 (ci 1) fun x9 =>
bSub x5 (ci 1) fun x10 =>
K4 [x10, x9] s) fun K8 =>
lgE qNoE (zK x0) s fun x11 e12 s =>
lgE qNoE (zK x6) s fun x13 e14 s =>
lgE qNoE (zK x0) s fun x15 e16 s =>
lgE qNoE (zK x5) s fun x17 e18 s =>
lgE qNoE (zK x0) s fun x19 e20 s =>
lgE qNoE (zK x5) s fun x21 e22 s =>
lgE qNoE (zV (vIaS x19 x21 1)) s fun x23 e24 s =>
lgE (qLdE x23 1) (ldA x23 take1) s fun x25 e26 s =>
lgE qNoE (zK x0) s fun x27 e28 s =>
lgE qNoE (zK x6) s fun x29 e30 s =>
lgE qNoE (zV (vIaS x27 x29 1)) s fun x31 e32 s =>
lgE (qLdE x31 1) (ldA x31 take1) s fun x33 e34 s =>
lgE qNoE (zV (vIaS x11 x13 1)) s fun x35 e36 s =>
lgE qNoE (zSt x35 x25 1) s fun _ e38 s =>
lgE qNoE (zV (vIaS x15 x17 1)) s fun x39 e40 s =>
lgE qNoE (zSt x39 x33 1) s fun _ e42 s =>
calmE [(7, 11)] [e12, e14, e16, e18, e20, e22, e24, e26, e28, e30, e32, e34, e36, e38, e40, e42] (fun s =>
K8 [] s) s)
(K3 [] s)) [x2, (ci 0)] s)
def F45 : F2 := .fn H45 true
theorem fe45 : feE Tryz.prog ann 45 1 [.j [], .j [3, 2], .j [], .j []] = some F45 := by kernel_rfl
/- daguerre/image.Decode -/
def H27 : F2C := fun c _ v s K =>
pop v fun x0 v =>
endE v (
boxD false [.nil .sl, .nil .sl, .int .i64 0, .int .i64 0, .nil .sl, .nil .sl, .nil .sl, .nil .sl, .nil .sl] s fun x1 s =>
vLenS x0 fun x2 =>
bLt x2 (ci 12) fun x3 =>
gK x3 false x0 fun x4 =>
gV x3 false (vLenS x4) fun x5 =>
gV x3 false (bGt x5 (ci 1048576)) fun x6 =>
vPick x3 ct x6 fun x7 =>
cnd x7 (vBld [.nil .sl, .nil .sl, .int .i64 0, .int .i64 0, .nil .sl, .nil .sl, .nil .sl, .nil .sl, .nil .sl] eNil fun x8 =>
zSt x1 x8 9 s fun _ s =>
ldA x1 (takeN 9) s fun x10 s => K (.tup [x10, (ci 6)]) s)
(vLenS x0 fun x11 =>
bSub x11 (ci 4) fun x12 =>
vSlt x0 (eX (ci 8)) (eX x12) 1 fun x13 =>
vBld [.nil .sl, .bool false] (eCons 0 1 x13 eNil) fun x14 =>
zBox false x14 s fun x15 s =>
vGen (.mkf 72 [(.c x15)] []) fun x16 =>
c (.mk .d0 .d1 .d0 .d7) [x15, x16] s fun x17 s =>
vGen (.mkf 74 [(.c x15)] []) fun x18 =>
c (.mk .d0 .d1 .d1 .d1) [x15, x18] s fun x19 s =>
c (.mk .d0 .d1 .d1 .d3) [x15] s fun x20 s =>
c (.mk .d0 .d1 .d1 .d3) [x15] s fun x21 s =>
vBld [.nil .sl, .nil .sl, .int .i64 0, .int .i64 0, .nil .sl, .nil .sl, .nil .sl, .nil .sl, .nil .sl] (eCons 0 1 x17 (eCons 1 1 x19 (eCons 2 1 x20 (eCons 3 1 x21 eNil)))) fun x22 =>
boxD false [.nil .sl, .nil .sl, .int .i64 0, .int .i64 0, .nil .sl, .nil .sl, .nil .sl, .nil .sl, .nil .sl] s fun x23 s =>
zSt x23 x22 9 s fun _ s =>
vGen (.mkf 75 [(.c x15)] []) fun x25 =>
c (.mk .d0 .d1 .d1 .d4) [x15, x25] s fun x26 s =>
vGen (.mkf 78 [(.c x15)] []) fun x27 =>
c (.mk .d0 .d1 .d1 .d5) [x15, x27] s fun x28 s =>
vGen (.mkf 75 [(.c x15)] []) fun x29 =>
c (.mk .d0 .d1 .d1 .d4) [x15, x29] s fun x30 s =>
fa1 x23 4 fun x31 =>
zSt x31 x26 1 s fun _ s =>
fa1 x23 5 fun x33 =>
zSt x33 x28 1 s fun _ s =>
fa1 x23 6 fun x35 =>
zSt x35 x30 1 s fun _ s =>
vGen (.mkf 78 [(.c x15)] []) fun x37 =>
c (.mk .d0 .d1 .d1 .d5) [x15, x37] s fun x38 s =>
vGen (.mkf 80 [(.c x15)] []) fun x39 =>
c (.mk .d0 .d1 .d1 .d7) [x15, x39] s fun x40 s =>
fa1 x23 7 fun x41 =>
zSt x41 x38 1 s fun _ s =>
fa1 x23 8 fun x43 =>
zSt x43 x40 1 s fun _ s =>
ldA x23 (takeN 9) s fun x45 s =>
c (.mk .d0 .d0 .d2 .d1) [x45] s fun x46 s =>
vChk x15 fun x47 =>
fa1 x47 1 fun x48 =>
ldA x48 take1 s fun x49 s =>
gK x49 false x46 fun x50 =>
gV x49 false (vNil false .sl x50) fun x51 =>
vPick x49 ct x51 fun x52 =>
gK x52 false x46 fun x53 =>
gK x52 false x0 fun x54 =>
gH x52 false (c (.mk .d0 .d1 .d2 .d1) [x53, x54]) s fun x55 s =>
gV x52 false (vGen (.un .not (.c x55))) fun x56 =>
vPick x52 ct x56 fun x57 =>
cnd x57 (none)
(ldA x23 (takeN 9) s fun x58 s =>
zSt x1 x58 9 s fun _ s =>
ldA x1 (takeN 9) s fun x60 s => K (.tup [x60, (ci 0)]) s)))
def F27 : F2 := .fn H27 true
theorem fe27 : feE Tryz.prog ann 27 1 [.j [], .cl] = some F27 := by kernel_rfl
/- daguerre/valid.Image -/
def H28 : F2C := fun c k v s K =>
pop v fun x0 v =>
endE v (
zTbox x0 s fun x1 s =>
ldA x1 (takeN 9) s fun x2 s =>
vBld [.nil .sl, .nil .sl, .int .i64 0, .int .i64 0, .nil .sl, .nil .sl, .nil .sl, .nil .sl, .nil .sl] (eCons 0 9 x2 eNil) fun x3 =>
boxD false [.nil .sl, .nil .sl, .int .i64 0, .int .i64 0, .nil .sl, .nil .sl, .nil .sl, .nil .sl, .nil .sl] s fun x4 s =>
zSt x4 x3 9 s fun _ s =>
fa1 x1 0 fun x6 =>
ldA x6 take1 s fun x7 s =>
vLenS x7 fun x8 =>
c (.mk .d0 .d1 .d2 .d2) [x8, (ci 1), (ci 200)] s fun x9 s =>
gV x9 true (fa1 x1 1) fun x10 =>
gH x9 true (ldA x10 take1) s fun x11 s =>
gV x9 true (vLenS x11) fun x12 =>
gV x9 true (bLe x12 (ci 400)) fun x13 =>
vPick x9 x13 cf fun x14 =>
gV x14 true (fa1 x1 7) fun x15 =>
gH x14 true (ldA x15 take1) s fun x16 s =>
gV x14 true (vLenS x16) fun x17 =>
gV x14 true (bLe x17 (ci 200)) fun x18 =>
vPick x14 x18 cf fun x19 =>
gV x19 true (fa1 x1 7) fun x20 =>
gH x19 true (ldA x20 take1) s fun x21 s =>
gV x19 true (vLenS x21) fun x22 =>
gV x19 true (fa1 x1 8) fun x23 =>
gH x19 true (ldA x23 take1) s fun x24 s =>
gV x19 true (vLenS x24) fun x25 =>
gV x19 true (bEqF x22 x25) fun x26 =>
vPick x19 x26 cf fun x27 =>
vGen (.un .not (.c x27)) fun x28 =>
gH x28 false (ldA x4 (takeN 9)) s fun x29 s =>
gH x28 false (c (.mk .d0 .d1 .d2 .d3) [x29]) s fun x30 s =>
gV x28 false (vGen (.un .not (.c x30))) fun x31 =>
vPick x28 ct x31 fun x32 =>
gH x32 false (ldA x4 (takeN 9)) s fun x33 s =>
gH x32 false (c (.mk .d0 .d1 .d2 .d4) [x33]) s fun x34 s =>
gV x32 false (vGen (.un .not (.c x34))) fun x35 =>
vPick x32 ct x35 fun x36 =>
gH x36 false (ldA x4 (takeN 9)) s fun x37 s =>
gV x36 false (fa1 x1 2) fun x38 =>
gH x36 false (ldA x38 take1) s fun x39 s =>
gH x36 false (c (.mk .d0 .d1 .d2 .d5) [x37, x39]) s fun x40 s =>
gV x36 false (vGen (.un .not (.c x40))) fun x41 =>
vPick x36 ct x41 fun x42 =>
gV x42 false (fa1 x1 3) fun x43 =>
gH x42 false (ldA x43 take1) s fun x44 s =>
gV x42 false (bEqT x44 (.int .i64 (-1))) fun x45 =>
gK x42 false x45 fun x46 =>
gH x46 true (ldA x4 (takeN 9)) s fun x47 s =>
gV x46 true (fa1 x1 3) fun x48 =>
gH x46 true (ldA x48 take1) s fun x49 s =>
gH x46 true (c (.mk .d0 .d1 .d2 .d6) [x47, x49]) s fun x50 s =>
gV x46 true (vGen (.un .not (.c x50))) fun x51 =>
gV x42 false (vPick x46 x51 cf) fun x52 =>
vPick x42 ct x52 fun x53 =>
cnd x53 (K cf s)
(fa1 x1 0 fun x54 =>
ldA x54 take1 s fun x55 s =>
vLenS x55 fun x56 =>
jn (fun _ s =>
fa1 x1 1 fun x58 =>
ldA x58 take1 s fun x59 s =>
ldA x4 (takeN 9) s fun x60 s =>
vGen (.mkf 89 [(.c x60)] []) fun x61 =>
c (.mk .d0 .d1 .d3 .d0) [x59, x61] s fun x62 s =>
gH x62 true (ldA x4 (takeN 9)) s fun x63 s =>
gH x62 true (c (.mk .d0 .d1 .d3 .d2) [x63]) s fun x64 s =>
vPick x62 x64 cf fun x65 =>
K x65 s) fun K57 =>
loopE k (fun K66 v s =>
pop v fun x67 _ =>
bLt x67 x56 fun x68 =>
cnd x68 (jn (fun _ s =>
bAdd x67 (ci 1) fun x70 =>
K66 [x70] s) fun K69 =>
vIaS x55 x67 10 fun x71 =>
ldA x71 (takeN 10) s fun x72 s =>
boxD false [.str [], .int .i64 0, .int .i64 0, .nil .sl, .nil .sl, .nil .sl, .nil .sl, .int .i64 0, .int .i64 0, .bool false] s fun x73 s =>
zSt x73 x72 10 s fun _ s =>
ldA x4 (takeN 9) s fun x75 s =>
ldA x73 (takeN 10) s fun x76 s =>
c (.mk .d0 .d1 .d2 .d7) [x75, x67, x76] s fun x77 s =>
vGen (.un .not (.c x77)) fun x78 =>
cnd x78 (none)
(K69 [] s))
(K57 [] s)) [(ci 0)] s))
def F28 : F2 := .fn H28 true
theorem fe28 : feE Tryz.prog ann 28 1 [.j [], .j [], .j [68], .j [], .j [], .cl] = some F28 := by kernel_rfl
/- daguerre/load.base -/
def H29 : F2C := fun _ _ v s K =>
pop v fun x0 v =>
endE v (
bGe x0 (ci 0) fun x1 =>
gK x1 true x0 fun x2 =>
gV x1 true (bLe x2 (ci 1048576)) fun x3 =>
vPick x1 x3 cf fun x4 =>
K x4 s)
def F29 : F2 := .fn H29 true
theorem fe29 : feE Tryz.prog ann 29 1 [] = some F29 := by kernel_rfl
/- daguerre/load.moved -/
def H30 : F2C := fun c k v s K =>
pop v fun x0 v =>
pop v fun x1 v =>
pop v fun x2 v =>
endE v (
zBox false x0 s fun x3 s =>
zBox false x1 s fun x4 s =>
zBox false x2 s fun x5 s =>
boxD false [.nil .sl, .nil .sl, .int .i64 0, .int .i64 0, .nil .sl, .nil .sl, .nil .sl, .nil .sl, .nil .sl] s fun x6 s =>
boxD false [.bool false] s fun x7 s =>
zSt x7 ct 1 s fun _ s =>
vGen (.mkf 91 [] [(.c x7), (.c x4), (.c x5)]) fun x9 =>
lgE qNoE (zV (fa1 x3 5)) s fun x10 e11 s =>
lgE (qLdE x10 1) (ldA x10 take1) s fun x12 e13 s =>
lgE qNoE (c (.mk .d0 .d0 .d2 .d4) [x12]) s fun x14 e15 s =>
lgE qNoE (zV (fa1 x3 7)) s fun x16 e17 s =>
lgE (qLdE x16 1) (ldA x16 take1) s fun x18 e19 s =>
lgE qNoE (c (.mk .d0 .d0 .d2 .d4) [x18]) s fun x20 e21 s =>
lgE qNoE (zV (fa1 x3 5)) s fun x22 e23 s =>
lgE qNoE (zSt x22 x14 1) s fun _ e25 s =>
lgE qNoE (zV (fa1 x3 7)) s fun x26 e27 s =>
lgE qNoE (zSt x26 x20 1) s fun _ e29 s =>
calmE [(1, 4), (2, 4)] [e11, e13, e15, e17, e19, e21, e23, e25, e27, e29] (fun s =>
fa1 x3 6 fun x30 =>
ldA x30 take1 s fun x31 s =>
vLenS x31 fun x32 =>
jn (fun _ s =>
fa1 x3 7 fun x34 =>
ldA x34 take1 s fun x35 s =>
vLenS x35 fun x36 =>
jn (fun _ s =>
lgE (qLdE x3 9) (ldA x3 (takeN 9)) s fun x38 e39 s =>
lgE (qLdE x7 1) (ldA x7 take1) s fun x40 e41 s =>
lgE qNoE (zSt x6 x38 9) s fun _ e43 s =>
lgE qNoE (zK x40) s fun x44 e45 s =>
calmE [(0, 1), (1, 2)] [e39, e41, e43, e45] (fun s =>
ldA x6 (takeN 9) s fun x46 s => K (.tup [x46, x44]) s) s) fun K37 =>
loopE k (fun K47 v s =>
pop v fun x48 _ =>
bLt x48 x36 fun x49 =>
cnd x49 (jn (fun _ s =>
bAdd x48 (ci 1) fun x51 =>
K47 [x51] s) fun K50 =>
fa1 x3 8 fun x52 =>
ldA x52 take1 s fun x53 s =>
vLenS x53 fun x54 =>
bLt x48 x54 fun x55 =>
gV x55 true (fa1 x3 8) fun x56 =>
gH x55 true (ldA x56 take1) s fun x57 s =>
gK x55 true x48 fun x58 =>
gV x55 true (vIaS x57 x58 1) fun x59 =>
gH x55 true (ldA x59 take1) s fun x60 s =>
vPick x55 x60 cf fun x61 =>
jn (fun _ s =>
K50 [] s) fun K62 =>
cnd x61 (fa1 x3 7 fun x63 =>
ldA x63 take1 s fun x64 s =>
vIaS x64 x48 1 fun x65 =>
zCallV c x9 [x65] s fun _ s =>
K62 [] s)
(K62 [] s))
(K37 [] s)) [(ci 0)] s) fun K33 =>
loopE k (fun K67 v s =>
pop v fun x68 _ =>
bLt x68 x32 fun x69 =>
cnd x69 (jn (fun _ s =>
bAdd x68 (ci 1) fun x71 =>
K67 [x71] s) fun K70 =>
vIaS x31 x68 1 fun x72 =>
ldA x72 take1 s fun x73 s =>
bLt x73 (ci 0) fun x74 =>
gK x74 false x73 fun x75 =>
gV x74 false (fa1 x3 5) fun x76 =>
gH x74 false (ldA x76 take1) s fun x77 s =>
gV x74 false (vLenS x77) fun x78 =>
gV x74 false (bGe x75 x78) fun x79 =>
vPick x74 ct x79 fun x80 =>
cnd x80 (none)
(fa1 x3 5 fun x81 =>
ldA x81 take1 s fun x82 s =>
vIaS x82 x73 1 fun x83 =>
zCallV c x9 [x83] s fun _ s =>
K70 [] s))
(K33 [] s)) [(ci 0)] s) s)
def F30 : F2 := .fn H30 true
theorem fe30 : feE Tryz.prog ann 30 3 [.j [], .j [25], .j [], .j [], .cl, .j [], .j [49], .j [], .j [], .j []] = some F30 := by kernel_rfl
/- daguerre/load.Move -/
def H46 : F2C := fun c _ v s K =>
pop v fun x0 v =>
pop v fun x1 v =>
endE v (
zTbox x0 s fun x2 s =>
boxD false [.nil .sl, .nil .sl, .int .i64 0, .int .i64 0, .nil .sl, .nil .sl, .nil .sl, .nil .sl, .nil .sl, .int .i64 0] s fun x3 s =>
c (.mk .d0 .d0 .d3 .d5) [x1] s fun x4 s =>
vGen (.un .not (.c x4)) fun x5 =>
cnd x5 (none)
(fa1 x2 0 fun x6 =>
ldA x6 (takeN 9) s fun x7 s =>
fa1 x2 9 fun x8 =>
ldA x8 take1 s fun x9 s =>
fa1 x2 9 fun x10 =>
ldA x10 take1 s fun x11 s =>
bSub x1 x11 fun x12 =>
c (.mk .d0 .d0 .d3 .d6) [x7, x9, x12] s fun x13 s =>
vExt x13 0 fun x14 =>
vExt x13 1 fun x15 =>
boxD false [.nil .sl, .nil .sl, .int .i64 0, .int .i64 0, .nil .sl, .nil .sl, .nil .sl, .nil .sl, .nil .sl] s fun x16 s =>
zSt x16 x14 9 s fun _ s =>
vGen (.un .not (.c x15)) fun x18 =>
cnd x18 (none)
(ldA x16 (takeN 9) s fun x19 s =>
vBld [.nil .sl, .nil .sl, .int .i64 0, .int .i64 0, .nil .sl, .nil .sl, .nil .sl, .nil .sl, .nil .sl, .int .i64 0] (eCons 0 9 x19 (eCons 9 1 x1 eNil)) fun x20 =>
zSt x3 x20 10 s fun _ s =>
ldA x3 (takeN 10) s fun x22 s => K (.tup [x22, ct]) s)))
def F46 : F2 := .fn H46 true
theorem fe46 : feE Tryz.prog ann 46 2 [.cl, .cl] = some F46 := by kernel_rfl
/- daguerre/vm.table -/
def H47 : F2C := fun _ k v s K =>
endE v (
zMks false [.nil .fn] 1 8 (ci 62) (ci 62) s fun x0 s =>
jn (fun _ s =>
jn (fun _ s =>
jn (fun _ s =>
vIaS x0 (ci 13) 1 fun x4 =>
zSt x4 (.fn 105 [] []) 1 s fun _ s =>
vIaS x0 (ci 37) 1 fun x6 =>
zSt x6 (.fn 106 [] []) 1 s fun _ s =>
vIaS x0 (ci 38) 1 fun x8 =>
zSt x8 (.fn 107 [] []) 1 s fun _ s =>
vIaS x0 (ci 39) 1 fun x10 =>
zSt x10 (.fn 107 [] []) 1 s fun _ s =>
vIaS x0 (ci 40) 1 fun x12 =>
zSt x12 (.fn 108 [] []) 1 s fun _ s =>
vIaS x0 (ci 41) 1 fun x14 =>
zSt x14 (.fn 108 [] []) 1 s fun _ s =>
vIaS x0 (ci 42) 1 fun x16 =>
zSt x16 (.fn 109 [] []) 1 s fun _ s =>
vIaS x0 (ci 44) 1 fun x18 =>
zSt x18 (.fn 110 [] []) 1 s fun _ s =>
vIaS x0 (ci 43) 1 fun x20 =>
zSt x20 (.fn 111 [] []) 1 s fun _ s =>
vIaS x0 (ci 45) 1 fun x22 =>
zSt x22 (.fn 112 [] []) 1 s fun _ s =>
vIaS x0 (ci 46) 1 fun x24 =>
zSt x24 (.fn 113 [] []) 1 s fun _ s =>
vIaS x0 (ci 47) 1 fun x26 =>
zSt x26 (.fn 113 [] []) 1 s fun _ s =>
vIaS x0 (ci 48) 1 fun x28 =>
zSt x28 (.fn 113 [] []) 1 s fun _ s =>
vIaS x0 (ci 49) 1 fun x30 =>
zSt x30 (.fn 114 [] []) 1 s fun _ s =>
vIaS x0 (ci 50) 1 fun x32 =>
zSt x32 (.fn 114 [] []) 1 s fun _ s =>
vIaS x0 (ci 51) 1 fun x34 =>
zSt x34 (.fn 115 [] []) 1 s fun _ s =>
vIaS x0 (ci 52) 1 fun x36 =>
zSt x36 (.fn 116 [] []) 1 s fun _ s =>
vIaS x0 (ci 54) 1 fun x38 =>
zSt x38 (.fn 116 [] []) 1 s fun _ s =>
vIaS x0 (ci 53) 1 fun x40 =>
zSt x40 (.fn 116 [] []) 1 s fun _ s =>
vIaS x0 (ci 55) 1 fun x42 =>
zSt x42 (.fn 116 [] []) 1 s fun _ s =>
vIaS x0 (ci 56) 1 fun x44 =>
zSt x44 (.fn 117 [] []) 1 s fun _ s =>
vIaS x0 (ci 57) 1 fun x46 =>
zSt x46 (.fn 117 [] []) 1 s fun _ s =>
vIaS x0 (ci 58) 1 fun x48 =>
zSt x48 (.fn 118 [] []) 1 s fun _ s =>
vIaS x0 (ci 59) 1 fun x50 =>
zSt x50 (.fn 119 [] []) 1 s fun _ s =>
vIaS x0 (ci 60) 1 fun x52 =>
zSt x52 (.fn 120 [] []) 1 s fun _ s =>
vIaS x0 (ci 61) 1 fun x54 =>
zSt x54 (.fn 121 [] []) 1 s fun _ s =>
K x0 s) fun K3 =>
loopE k (fun K56 v s =>
pop v fun x57 _ =>
bLe x57 (ci 7) fun x58 =>
cnd x58 (jn (fun _ s =>
bAdd x57 (ci 1) fun x60 =>
K56 [x60] s) fun K59 =>
vIaS x0 x57 1 fun x61 =>
zSt x61 (.fn 104 [] []) 1 s fun _ s =>
K59 [] s)
(K3 [] s)) [(ci 1)] s) fun K2 =>
loopE k (fun K63 v s =>
pop v fun x64 _ =>
bLe x64 (ci 36) fun x65 =>
cnd x65 (jn (fun _ s =>
bAdd x64 (ci 1) fun x67 =>
K63 [x67] s) fun K66 =>
vIaS x0 x64 1 fun x68 =>
zSt x68 (.fn 103 [] []) 1 s fun _ s =>
K66 [] s)
(K2 [] s)) [(ci 20)] s) fun K1 =>
loopE k (fun K70 v s =>
pop v fun x71 _ =>
bLe x71 (ci 19) fun x72 =>
cnd x72 (jn (fun _ s =>
bAdd x71 (ci 1) fun x74 =>
K70 [x74] s) fun K73 =>
vIaS x0 x71 1 fun x75 =>
zSt x75 (.fn 102 [] []) 1 s fun _ s =>
K73 [] s)
(K1 [] s)) [(ci 8)] s)
def F47 : F2 := .fn H47 true
theorem fe47 : feE Tryz.prog ann 47 0 [.j [], .j [2], .j [], .j [], .j [], .j [3], .j [], .j [], .j [], .j [4], .j [], .j []] = some F47 := by kernel_rfl
/- daguerre/heap.Of -/
def H48 : F2C := fun c k v s K =>
pop v fun x0 v =>
pop v fun x1 v =>
endE v (
c (.mk .d0 .d1 .d7 .d2) [x1] s fun x2 s =>
vLenS x0 fun x3 =>
vChk x2 fun x4 =>
fa1 x4 0 fun x5 =>
ldA x5 take1 s fun x6 s =>
bGt x3 x6 fun x7 =>
cnd x7 (K (.tup [(.nil .ptr), cf]) s)
(lgE qNoE (zK x2) s fun x8 e9 s =>
lgE qNoE (zK x2) s fun x10 e11 s =>
lgE qNoE (zK x0) s fun x12 e13 s =>
lgE qNoE (c (.mk .d0 .d0 .d2 .d4) [x12]) s fun x14 e15 s =>
lgE qNoE (zK x0) s fun x16 e17 s =>
lgE qNoE (zV (vLenS x16)) s fun x18 e19 s =>
lgE qNoE (zMks false [.bool false] 1 1 x18 x18) s fun x20 e21 s =>
lgE qNoE (zV (vChk x8)) s fun x22 e23 s =>
lgE qNoE (zV (fa1 x22 1)) s fun x24 e25 s =>
lgE qNoE (zSt x24 x14 1) s fun _ e27 s =>
lgE qNoE (zV (vChk x10)) s fun x28 e29 s =>
lgE qNoE (zV (fa1 x28 2)) s fun x30 e31 s =>
lgE qNoE (zSt x30 x20 1) s fun _ e33 s =>
calmE [(3, 5), (3, 6), (5, 9), (6, 9)] [e9, e11, e13, e15, e17, e19, e21, e23, e25, e27, e29, e31, e33] (fun s =>
jn (fun _ s =>
K (.tup [x2, ct]) s) fun K34 =>
loopE k (fun K35 v s =>
pop v fun x36 _ =>
vLenS x0 fun x37 =>
bLt x36 x37 fun x38 =>
cnd x38 (jn (fun v s =>
pop v fun x40 _ =>
K35 [x40] s) fun K39 =>
lgE qNoE (zK x36) s fun x41 e42 s =>
lgE qNoE (zV (bAdd x41 (ci 1))) s fun x43 e44 s =>
lgE qNoE (zK x0) s fun x45 e46 s =>
lgE qNoE (zV (vLenS x45)) s fun x47 e48 s =>
lgE qNoE (zV (bEqF x43 x47)) s fun x49 e50 s =>
lgE qNoE (zK x49) s fun x51 e52 s =>
lgE (qGE x51 false qNoE) (zG x51 false (zK x0)) s fun x53 e54 s =>
lgE (qGE x51 false qNoE) (zG x51 false (zK x36)) s fun x55 e56 s =>
lgE (qGE x51 false qNoE) (zG x51 false (zV (vIaS x53 x55 1))) s fun x57 e58 s =>
lgE (qGE x51 false (qLdE x57 1)) (zG x51 false (ldA x57 take1)) s fun x59 e60 s =>
lgE (qGE x51 false qNoE) (zG x51 false (zV (vCv .i64 x59))) s fun x61 e62 s =>
lgE (qGE x51 false qNoE) (zG x51 false (zK x0)) s fun x63 e64 s =>
lgE (qGE x51 false qNoE) (zG x51 false (zK x36)) s fun x65 e66 s =>
lgE (qGE x51 false qNoE) (zG x51 false (zV (bAdd x65 (ci 1)))) s fun x67 e68 s =>
lgE (qGE x51 false qNoE) (zG x51 false (zV (vIaS x63 x67 1))) s fun x69 e70 s =>
lgE (qGE x51 false (qLdE x69 1)) (zG x51 false (ldA x69 take1)) s fun x71 e72 s =>
lgE (qGE x51 false qNoE) (zG x51 false (zV (vCv .i64 x71))) s fun x73 e74 s =>
lgE (qGE x51 false qNoE) (zG x51 false (c (.mk .d0 .d1 .d7 .d3) [x61, x73])) s fun x75 e76 s =>
lgE (qGE x51 false qNoE) (zG x51 false (zV (vGen (.un .not (.c x75))))) s fun x77 e78 s =>
lgE qNoE (zV (vPick x51 ct x77)) s fun x79 e80 s =>
lgE qNoE (zK x79) s fun x81 e82 s =>
lgE (qGE x81 false qNoE) (zG x81 false (zK x0)) s fun x83 e84 s =>
lgE (qGE x81 false qNoE) (zG x81 false (zK x36)) s fun x85 e86 s =>
lgE (qGE x81 false qNoE) (zG x81 false (zV (bAdd x85 (ci 1)))) s fun x87 e88 s =>
lgE (qGE x81 false qNoE) (zG x81 false (zV (vIaS x83 x87 1))) s fun x89 e90 s =>
lgE (qGE x81 false (qLdE x89 1)) (zG x81 false (ldA x89 take1)) s fun x91 e92 s =>
lgE (qGE x81 false qNoE) (zG x81 false (zV (vCv .i64 x91))) s fun x93 e94 s =>
lgE (qGE x81 false qNoE) (zG x81 false (zK x0)) s fun x95 e96 s =>
lgE (qGE x81 false qNoE) (zG x81 false (zV (vLenS x95))) s fun x97 e98 s =>
lgE (qGE x81 false qNoE) (zG x81 false (zK x36)) s fun x99 e100 s =>
lgE (qGE x81 false qNoE) (zG x81 false (zV (bSub x97 x99))) s fun x101 e102 s =>
lgE (qGE x81 false qNoE) (zG x81 false (zV (bSub x101 (ci 2)))) s fun x103 e104 s =>
lgE (qGE x81 false qNoE) (zG x81 false (zV (bGt x93 x103))) s fun x105 e106 s =>
lgE qNoE (zV (vPick x81 ct x105)) s fun x107 e108 s =>
calmE [(9, 15), (10, 15), (9, 16), (10, 16), (25, 28), (26, 28)] [e42, e44, e46, e48, e50, e52, e54, e56, e58, e60, e62, e64, e66, e68, e70, e72, e74, e76, e78, e80, e82, e84, e86, e88, e90, e92, e94, e96, e98, e100, e102, e104, e106, e108] (fun s =>
cnd x107 (none)
(vChk x2 fun x109 =>
fa1 x109 2 fun x110 =>
ldA x110 take1 s fun x111 s =>
vIaS x111 x36 1 fun x112 =>
zSt x112 ct 1 s fun _ s =>
bAdd x36 (ci 1) fun x114 =>
vIaS x0 x114 1 fun x115 =>
ldA x115 take1 s fun x116 s =>
vCv .i64 x116 fun x117 =>
bAdd (ci 2) x117 fun x118 =>
bAdd x36 x118 fun x119 =>
K39 [x119] s)) s)
(K34 [] s)) [(ci 0)] s) s))
def F48 : F2 := .fn H48 true
theorem fe48 : feE Tryz.prog ann 48 2 [.j [], .j [], .j [7], .j [], .j [7], .cl] = some F48 := by kernel_rfl
/- (*daguerre/vm.Machine).lay -/
def H49 : F2C := fun c _ v s K =>
pop v fun x0 v =>
pop v fun x1 v =>
pop v fun x2 v =>
pop v fun x3 v =>
endE v (
vChk x0 fun x4 =>
fa1 x4 13 fun x5 =>
ldA x5 take1 s fun x6 s =>
vLenS x6 fun x7 =>
bGe x7 (ci 64) fun x8 =>
cnd x8 (none)
(bLt x1 (ci 0) fun x9 =>
gK x9 false x1 fun x10 =>
gK x9 false x0 fun x11 =>
gV x9 false (vChk x11) fun x12 =>
gV x9 false (fa1 x12 0) fun x13 =>
gV x9 false (fa1 x13 1) fun x14 =>
gH x9 false (ldA x14 take1) s fun x15 s =>
gV x9 false (vLenS x15) fun x16 =>
gV x9 false (bGe x10 x16) fun x17 =>
vPick x9 ct x17 fun x18 =>
gK x18 false x0 fun x19 =>
gV x18 false (vChk x19) fun x20 =>
gV x18 false (fa1 x20 0) fun x21 =>
gV x18 false (fa1 x21 1) fun x22 =>
gH x18 false (ldA x22 take1) s fun x23 s =>
gK x18 false x1 fun x24 =>
gV x18 false (vIaS x23 x24 6) fun x25 =>
gV x18 false (fa1 x25 4) fun x26 =>
gH x18 false (ldA x26 take1) s fun x27 s =>
gV x18 false (vLenS x27) fun x28 =>
gV x18 false (bEqF x28 (ci 0)) fun x29 =>
vPick x18 ct x29 fun x30 =>
gK x30 false x3 fun x31 =>
gV x30 false (vLenS x31) fun x32 =>
gK x30 false x0 fun x33 =>
gV x30 false (vChk x33) fun x34 =>
gV x30 false (fa1 x34 0) fun x35 =>
gV x30 false (fa1 x35 1) fun x36 =>
gH x30 false (ldA x36 take1) s fun x37 s =>
gK x30 false x1 fun x38 =>
gV x30 false (vIaS x37 x38 6) fun x39 =>
gV x30 false (fa1 x39 0) fun x40 =>
gH x30 false (ldA x40 take1) s fun x41 s =>
gV x30 false (bEqT x32 x41) fun x42 =>
vPick x30 ct x42 fun x43 =>
cnd x43 (none)
(vChk x0 fun x44 =>
fa1 x44 0 fun x45 =>
fa1 x45 1 fun x46 =>
ldA x46 take1 s fun x47 s =>
vIaS x47 x1 6 fun x48 =>
ldA x48 (takeN 6) s fun x49 s =>
boxD false [.int .i64 0, .int .i64 0, .int .i64 0, .bool false, .nil .sl, .nil .sl] s fun x50 s =>
zSt x50 x49 6 s fun _ s =>
lgE qNoE (zK x0) s fun x52 e53 s =>
lgE qNoE (zK x0) s fun x54 e55 s =>
lgE qNoE (zV (vChk x54)) s fun x56 e57 s =>
lgE qNoE (zV (fa1 x56 13)) s fun x58 e59 s =>
lgE (qLdE x58 1) (ldA x58 take1) s fun x60 e61 s =>
lgE qNoE (zK x1) s fun x62 e63 s =>
lgE qNoE (zV (fa1 x50 1)) s fun x64 e65 s =>
lgE (qLdE x64 1) (ldA x64 take1) s fun x66 e67 s =>
lgE qNoE (zV (fa1 x50 2)) s fun x68 e69 s =>
lgE (qLdE x68 1) (ldA x68 take1) s fun x70 e71 s =>
lgE qNoE (zK x3) s fun x72 e73 s =>
lgE qNoE (c (.mk .d0 .d0 .d7 .d4) [x62, x66, x70, x72]) s fun x74 e75 s =>
lgE (qLdE x50 6) (ldA x50 (takeN 6)) s fun x76 e77 s =>
lgE qNoE (zK x2) s fun x78 e79 s =>
lgE qNoE (zV (vBld [.nil .ptr, .int .i64 0, .int .i64 0, .int .i64 0, .bool false, .nil .sl, .nil .sl, .int .i64 0, .int .i64 0] (eCons 0 1 x74 (eCons 1 6 x76 (eCons 7 1 x78 (eCons 8 1 (.int .i64 (-1)) eNil)))))) s fun x80 e81 s =>
lgE qNoE (zBox true x80) s fun x82 e83 s =>
lgE qNoE (zBsl [.nil .ptr] 1 1 (eCons 0 1 x82 eNil)) s fun x84 e85 s =>
lgE qNoE (appB 1 8 x60 x84) s fun x86 e87 s =>
lgE qNoE (zV (vChk x52)) s fun x88 e89 s =>
lgE qNoE (zV (fa1 x88 13)) s fun x90 e91 s =>
lgE qNoE (zSt x90 x86 1) s fun _ e93 s =>
calmE [(4, 7), (4, 9), (7, 9), (4, 11), (4, 12), (7, 12), (9, 12), (11, 12), (4, 14), (4, 15), (4, 16)] [e53, e55, e57, e59, e61, e63, e65, e67, e69, e71, e73, e75, e77, e79, e81, e83, e85, e87, e89, e91, e93] (fun s =>
K ct s) s)))
def F49 : F2 := .fn H49 true
theorem fe49 : feE Tryz.prog ann 49 4 [.cl, .cl] = some F49 := by kernel_rfl
/- (*daguerre/vm.Machine).last -/
def H50 : F2C := fun _ _ v s K =>
pop v fun x0 v =>
endE v (
lgE qNoE (zK x0) s fun x1 e2 s =>
lgE qNoE (zV (vChk x1)) s fun x3 e4 s =>
lgE qNoE (zV (fa1 x3 13)) s fun x5 e6 s =>
lgE (qLdE x5 1) (ldA x5 take1) s fun x7 e8 s =>
lgE qNoE (zK x0) s fun x9 e10 s =>
lgE qNoE (zV (vChk x9)) s fun x11 e12 s =>
lgE qNoE (zV (fa1 x11 13)) s fun x13 e14 s =>
lgE (qLdE x13 1) (ldA x13 take1) s fun x15 e16 s =>
lgE qNoE (zV (vLenS x15)) s fun x17 e18 s =>
lgE qNoE (zV (bSub x17 (ci 1))) s fun x19 e20 s =>
lgE qNoE (zV (vIaS x7 x19 1)) s fun x21 e22 s =>
lgE (qLdE x21 1) (ldA x21 take1) s fun x23 e24 s =>
lgE qNoE (zK x23) s fun x25 e26 s =>
calmE [(3, 7), (3, 8)] [e2, e4, e6, e8, e10, e12, e14, e16, e18, e20, e22, e24, e26] (fun s =>
K x25 s) s)
def F50 : F2 := .fn H50 true
theorem fe50 : feE Tryz.prog ann 50 1 [] = some F50 := by kernel_rfl
/- (*daguerre/vm.Machine).over -/
def H51 : F2C := fun _ _ v s K =>
pop v fun x0 v =>
endE v (
vNil false .ptr x0 fun x1 =>
cnd x1 (none)
(vChk x0 fun x2 =>
fa1 x2 16 fun x3 =>
fa1 x3 1 fun x4 =>
ldA x4 take1 s fun x5 s =>
K x5 s))
def F51 : F2 := .fn H51 true
theorem fe51 : feE Tryz.prog ann 51 1 [.cl] = some F51 := by kernel_rfl
/- (*daguerre/frame.Frame).Pc -/
def H53 : F2C := fun _ _ v s K =>
pop v fun x0 v =>
endE v (
vNil false .ptr x0 fun x1 =>
cnd x1 (none)
(vChk x0 fun x2 =>
fa1 x2 1 fun x3 =>
ldA x3 take1 s fun x4 s =>
K x4 s))
def F53 : F2 := .fn H53 true
theorem fe53 : feE Tryz.prog ann 53 1 [.cl] = some F53 := by kernel_rfl
/- daguerre/daguerrelaw25.Begun -/
def H55 : F2C := fun c _ v s K =>
endE v (
c (.mk .d0 .d1 .d7 .d6) [] s fun x0 s =>
K x0 s)
def F55 : F2 := .pur H55 true mNo
theorem fe55 : feE Tryz.prog ann 55 0 [] = some F55 := by kernel_rfl
def M55 (k : Nat) : F2 := .pur H55 true (Bool.rec mNo (mVal (.bool true)) (Nat.ble 10 k))
/- daguerre/daguerreref25.Eq -/
def H56 : F2C := fun c k v s K =>
pop v fun x0 v =>
pop v fun x1 v =>
endE v (
zTbox x0 s fun x2 s =>
zTbox x1 s fun x3 s =>
fa1 x2 0 fun x4 =>
ldA x4 take1 s fun x5 s =>
vLenS x5 fun x6 =>
fa1 x3 0 fun x7 =>
ldA x7 take1 s fun x8 s =>
vLenS x8 fun x9 =>
bEqT x6 x9 fun x10 =>
gV x10 false (fa1 x2 1) fun x11 =>
gH x10 false (ldA x11 take1) s fun x12 s =>
gV x10 false (vLenS x12) fun x13 =>
gV x10 false (fa1 x3 1) fun x14 =>
gH x10 false (ldA x14 take1) s fun x15 s =>
gV x10 false (vLenS x15) fun x16 =>
gV x10 false (bEqT x13 x16) fun x17 =>
vPick x10 ct x17 fun x18 =>
gV x18 false (fa1 x2 2) fun x19 =>
gH x18 false (ldA x19 take1) s fun x20 s =>
gV x18 false (fa1 x3 2) fun x21 =>
gH x18 false (ldA x21 take1) s fun x22 s =>
gV x18 false (bEqT x20 x22) fun x23 =>
vPick x18 ct x23 fun x24 =>
gV x24 false (fa1 x2 3) fun x25 =>
gH x24 false (ldA x25 take1) s fun x26 s =>
gV x24 false (fa1 x3 3) fun x27 =>
gH x24 false (ldA x27 take1) s fun x28 s =>
gV x24 false (bEqT x26 x28) fun x29 =>
vPick x24 ct x29 fun x30 =>
gV x30 false (fa1 x2 4) fun x31 =>
gH x30 false (ldA x31 take1) s fun x32 s =>
gV x30 false (fa1 x3 4) fun x33 =>
gH x30 false (ldA x33 take1) s fun x34 s =>
gH x30 false (c (.mk .d0 .d1 .d7 .d7) [x32, x34]) s fun x35 s =>
gV x30 false (vGen (.un .not (.c x35))) fun x36 =>
vPick x30 ct x36 fun x37 =>
gV x37 false (fa1 x2 5) fun x38 =>
gH x37 false (ldA x38 take1) s fun x39 s =>
gV x37 false (fa1 x3 5) fun x40 =>
gH x37 false (ldA x40 take1) s fun x41 s =>
gH x37 false (c (.mk .d0 .d2 .d0 .d0) [x39, x41]) s fun x42 s =>
gV x37 false (vGen (.un .not (.c x42))) fun x43 =>
vPick x37 ct x43 fun x44 =>
gV x44 false (fa1 x2 6) fun x45 =>
gH x44 false (ldA x45 take1) s fun x46 s =>
gV x44 false (fa1 x3 6) fun x47 =>
gH x44 false (ldA x47 take1) s fun x48 s =>
gH x44 false (c (.mk .d0 .d1 .d7 .d7) [x46, x48]) s fun x49 s =>
gV x44 false (vGen (.un .not (.c x49))) fun x50 =>
vPick x44 ct x50 fun x51 =>
gV x51 false (fa1 x2 7) fun x52 =>
gH x51 false (ldA x52 take1) s fun x53 s =>
gV x51 false (fa1 x3 7) fun x54 =>
gH x51 false (ldA x54 take1) s fun x55 s =>
gH x51 false (c (.mk .d0 .d2 .d0 .d0) [x53, x55]) s fun x56 s =>
gV x51 false (vGen (.un .not (.c x56))) fun x57 =>
vPick x51 ct x57 fun x58 =>
gV x58 false (fa1 x2 8) fun x59 =>
gH x58 false (ldA x59 take1) s fun x60 s =>
gV x58 false (fa1 x3 8) fun x61 =>
gH x58 false (ldA x61 take1) s fun x62 s =>
gH x58 false (c (.mk .d0 .d2 .d0 .d1) [x60, x62]) s fun x63 s =>
gV x58 false (vGen (.un .not (.c x63))) fun x64 =>
vPick x58 ct x64 fun x65 =>
cnd x65 (none)
(jn (fun _ s =>
jn (fun _ s =>
K ct s) fun K67 =>
loopE k (fun K68 v s =>
pop v fun x69 _ =>
fa1 x2 1 fun x70 =>
ldA x70 take1 s fun x71 s =>
vLenS x71 fun x72 =>
bLt x69 x72 fun x73 =>
cnd x73 (jn (fun _ s =>
bAdd x69 (ci 1) fun x75 =>
K68 [x75] s) fun K74 =>
lgE qNoE (zV (fa1 x2 1)) s fun x76 e77 s =>
lgE (qLdE x76 1) (ldA x76 take1) s fun x78 e79 s =>
lgE qNoE (zK x69) s fun x80 e81 s =>
lgE qNoE (zV (vIaS x78 x80 6)) s fun x82 e83 s =>
lgE (qLdE x82 6) (ldA x82 (takeN 6)) s fun x84 e85 s =>
lgE qNoE (zV (fa1 x3 1)) s fun x86 e87 s =>
lgE (qLdE x86 1) (ldA x86 take1) s fun x88 e89 s =>
lgE qNoE (zK x69) s fun x90 e91 s =>
lgE qNoE (zV (vIaS x88 x90 6)) s fun x92 e93 s =>
lgE (qLdE x92 6) (ldA x92 (takeN 6)) s fun x94 e95 s =>
lgE qNoE (c (.mk .d0 .d2 .d0 .d3) [x84, x94]) s fun x96 e97 s =>
lgE qNoE (zV (vGen (.un .not (.c x96)))) s fun x98 e99 s =>
calmE [(1, 6), (4, 6), (1, 9), (4, 9)] [e77, e79, e81, e83, e85, e87, e89, e91, e93, e95, e97, e99] (fun s =>
cnd x98 (none)
(K74 [] s)) s)
(K67 [] s)) [(ci 0)] s) fun K66 =>
loopE k (fun K100 v s =>
pop v fun x101 _ =>
fa1 x2 0 fun x102 =>
ldA x102 take1 s fun x103 s =>
vLenS x103 fun x104 =>
bLt x101 x104 fun x105 =>
cnd x105 (jn (fun _ s =>
bAdd x101 (ci 1) fun x107 =>
K100 [x107] s) fun K106 =>
lgE qNoE (zV (fa1 x2 0)) s fun x108 e109 s =>
lgE (qLdE x108 1) (ldA x108 take1) s fun x110 e111 s =>
lgE qNoE (zK x101) s fun x112 e113 s =>
lgE qNoE (zV (vIaS x110 x112 10)) s fun x114 e115 s =>
lgE (qLdE x114 10) (ldA x114 (takeN 10)) s fun x116 e117 s =>
lgE qNoE (zV (fa1 x3 0)) s fun x118 e119 s =>
lgE (qLdE x118 1) (ldA x118 take1) s fun x120 e121 s =>
lgE qNoE (zK x101) s fun x122 e123 s =>
lgE qNoE (zV (vIaS x120 x122 10)) s fun x124 e125 s =>
lgE (qLdE x124 10) (ldA x124 (takeN 10)) s fun x126 e127 s =>
lgE qNoE (c (.mk .d0 .d2 .d0 .d2) [x116, x126]) s fun x128 e129 s =>
lgE qNoE (zV (vGen (.un .not (.c x128)))) s fun x130 e131 s =>
calmE [(1, 6), (4, 6), (1, 9), (4, 9)] [e109, e111, e113, e115, e117, e119, e121, e123, e125, e127, e129, e131] (fun s =>
cnd x130 (none)
(K106 [] s)) s)
(K66 [] s)) [(ci 0)] s))
def F56 : F2 := .fn H56 true
theorem fe56 : feE Tryz.prog ann 56 2 [.cl, .j [], .j [5], .j [], .j [], .cl, .j [], .j [6], .j [], .j [], .cl] = some F56 := by kernel_rfl
/- daguerre/ints.Two -/
def H57 : F2C := fun c _ v s K =>
pop v fun x0 v =>
pop v fun x1 v =>
pop v fun x2 v =>
endE v (
jn (fun _ s =>
K (.tup [(cj 0), cf]) s) fun _ =>
bEqF x0 (ci 8) fun x4 =>
cnd x4 (bAdd x1 x2 fun x5 =>
K (.tup [x5, ct]) s)
(bEqF x0 (ci 9) fun x6 =>
cnd x6 (none)
(bEqF x0 (ci 10) fun x7 =>
cnd x7 (none)
(bEqF x0 (ci 11) fun x8 =>
cnd x8 (cnd x8 (c (.mk .d0 .d2 .d0 .d4) [x0, x1, x2] s fun x9 s =>
vExt x9 0 fun x10 =>
vExt x9 1 fun x11 =>
K (.tup [x10, x11]) s)
(none))
(none)))))
def F57 : F2 := .fn H57 true
theorem fe57 : feE Tryz.prog ann 57 3 [.j [], .j [], .cl, .cl, .cr, .cr] = some F57 := by kernel_rfl
/- daguerre/ints.One -/
def H58 : F2C := fun _ _ v s K =>
pop v fun x0 v =>
pop v fun x1 v =>
endE v (
bEqT x0 (ci 13) fun x2 =>
cnd x2 (none)
(vGen (.un .neg (.c x1)) fun x3 =>
K x3 s))
def F58 : F2 := .fn H58 true
theorem fe58 : feE Tryz.prog ann 58 2 [.cl] = some F58 := by kernel_rfl
/- daguerre/ints.Goes -/
def H59 : F2C := fun _ _ v s K =>
pop v fun x0 v =>
pop v fun x1 v =>
pop v fun x2 v =>
endE v (
bGe x0 (ci 21) fun x3 =>
gK x3 true x0 fun x4 =>
gV x3 true (bLe x4 (ci 26)) fun x5 =>
vPick x3 x5 cf fun x6 =>
jn (fun v s =>
pop v fun x8 v =>
pop v fun x9 _ =>
jn (fun _ s =>
K cf s) fun _ =>
bEqF x8 (ci 27) fun x11 =>
cnd x11 (none)
(bEqF x8 (ci 28) fun x12 =>
cnd x12 (none)
(bEqF x8 (ci 29) fun x13 =>
cnd x13 (bLt x1 x9 fun x14 =>
K x14 s)
(none)))) fun K7 =>
cnd x6 (bSub x0 (ci 21) fun x15 =>
bAdd x15 (ci 27) fun x16 =>
K7 [x16, (cj 0)] s)
(K7 [x0, x2] s))
def F59 : F2 := .fn H59 true
theorem fe59 : feE Tryz.prog ann 59 3 [.j [0, 2], .j [], .cl, .cl, .cr] = some F59 := by kernel_rfl
/- daguerre/frame.New -/
def H60 : F2C := fun _ _ v s K =>
pop v fun x0 v =>
pop v fun x1 v =>
pop v fun x2 v =>
pop v fun x3 v =>
endE v (
bLt x1 (ci 0) fun x4 =>
gK x4 false x1 fun x5 =>
gV x4 false (bGt x5 (ci 16)) fun x6 =>
vPick x4 ct x6 fun x7 =>
gK x7 false x2 fun x8 =>
gV x7 false (bLt x8 (ci 0)) fun x9 =>
vPick x7 ct x9 fun x10 =>
gK x10 false x2 fun x11 =>
gV x10 false (bGt x11 (ci 16)) fun x12 =>
vPick x10 ct x12 fun x13 =>
gK x13 false x3 fun x14 =>
gV x13 false (vLenS x14) fun x15 =>
gK x13 false x1 fun x16 =>
gV x13 false (bGt x15 x16) fun x17 =>
vPick x13 ct x17 fun x18 =>
cnd x18 (none)
(zMks false [.bool false, .int .i32 0] 2 8 x1 x1 s fun x19 s =>
vBld [.int .i64 0, .int .i64 0, .int .i64 0, .nil .sl, .nil .sl] (eCons 0 1 x0 (eCons 2 1 x2 (eCons 3 1 x19 eNil))) fun x20 =>
zBox true x20 s fun x21 s =>
vChk x21 fun x22 =>
fa1 x22 3 fun x23 =>
ldA x23 take1 s fun x24 s =>
zCpy 2 x24 x3 s fun _ s =>
K x21 s))
def F60 : F2 := .fn H60 true
theorem fe60 : feE Tryz.prog ann 60 4 [.cl] = some F60 := by kernel_rfl
/- (*daguerre/frame.Frame).Load -/
def H61 : F2C := fun c _ v s K =>
pop v fun x0 v =>
pop v fun x1 v =>
endE v (
boxD false [.bool false, .int .i32 0] s fun x2 s =>
c (.mk .d0 .d2 .d0 .d5) [x0, x1] s fun x3 s =>
vGen (.un .not (.c x3)) fun x4 =>
cnd x4 (none)
(vChk x0 fun x5 =>
fa1 x5 3 fun x6 =>
ldA x6 take1 s fun x7 s =>
vIaS x7 x1 2 fun x8 =>
ldA x8 (takeN 2) s fun x9 s =>
zSt x2 x9 2 s fun _ s =>
ldA x2 (takeN 2) s fun x11 s => K (.tup [x11, ct]) s))
def F61 : F2 := .fn H61 true
theorem fe61 : feE Tryz.prog ann 61 2 [.cl] = some F61 := by kernel_rfl
/- (*daguerre/frame.Frame).Push -/
def H62 : F2C := fun _ _ v s K =>
pop v fun x0 v =>
pop v fun x1 v =>
endE v (
lgE qNoE (zK x0) s fun x2 e3 s =>
lgE qNoE (zV (vNil false .ptr x2)) s fun x4 e5 s =>
lgE qNoE (zK x4) s fun x6 e7 s =>
lgE (qGE x6 false qNoE) (zG x6 false (zK x1)) s fun x8 e9 s =>
lgE (qGE x6 false qNoE) (zG x6 false (zV (vLenS x8))) s fun x10 e11 s =>
lgE (qGE x6 false qNoE) (zG x6 false (zK x0)) s fun x12 e13 s =>
lgE (qGE x6 false qNoE) (zG x6 false (zV (vChk x12))) s fun x14 e15 s =>
lgE (qGE x6 false qNoE) (zG x6 false (zV (fa1 x14 2))) s fun x16 e17 s =>
lgE (qGE x6 false (qLdE x16 1)) (zG x6 false (ldA x16 take1)) s fun x18 e19 s =>
lgE (qGE x6 false qNoE) (zG x6 false (zK x0)) s fun x20 e21 s =>
lgE (qGE x6 false qNoE) (zG x6 false (zV (vChk x20))) s fun x22 e23 s =>
lgE (qGE x6 false qNoE) (zG x6 false (zV (fa1 x22 4))) s fun x24 e25 s =>
lgE (qGE x6 false (qLdE x24 1)) (zG x6 false (ldA x24 take1)) s fun x26 e27 s =>
lgE (qGE x6 false qNoE) (zG x6 false (zV (vLenS x26))) s fun x28 e29 s =>
lgE (qGE x6 false qNoE) (zG x6 false (zV (bSub x18 x28))) s fun x30 e31 s =>
lgE (qGE x6 false qNoE) (zG x6 false (zV (bGt x10 x30))) s fun x32 e33 s =>
lgE qNoE (zV (vPick x6 ct x32)) s fun x34 e35 s =>
calmE [(4, 8), (4, 12), (8, 12), (4, 13), (8, 13)] [e3, e5, e7, e9, e11, e13, e15, e17, e19, e21, e23, e25, e27, e29, e31, e33, e35] (fun s =>
cnd x34 (K cf s)
(vChk x0 fun x36 =>
fa1 x36 4 fun x37 =>
ldA x37 take1 s fun x38 s =>
appB 2 8 x38 x1 s fun x39 s =>
vChk x0 fun x40 =>
fa1 x40 4 fun x41 =>
zSt x41 x39 1 s fun _ s =>
K ct s)) s)
def F62 : F2 := .fn H62 true
theorem fe62 : feE Tryz.prog ann 62 2 [.j []] = some F62 := by kernel_rfl
/- (*daguerre/frame.Frame).Refs -/
def H63 : F2C := fun c k v s K =>
pop v fun x0 v =>
endE v (
c (.mk .d0 .d2 .d0 .d6) [x0] s fun x1 s =>
vLenS x1 fun x2 =>
jn (fun v s =>
pop v fun x4 _ =>
K x4 s) fun K3 =>
loopE k (fun K5 v s =>
pop v fun x6 v =>
pop v fun x7 _ =>
bLt x6 x2 fun x8 =>
cnd x8 (jn (fun v s =>
pop v fun x10 _ =>
bAdd x6 (ci 1) fun x11 =>
K5 [x11, x10] s) fun K9 =>
vIaS x1 x6 1 fun x12 =>
ldA x12 take1 s fun x13 s =>
vChk x13 fun x14 =>
fa1 x14 1 fun x15 =>
ldA x15 take1 s fun x16 s =>
vCv .i64 x16 fun x17 =>
bSub x17 (ci 1) fun x18 =>
zBsl [.int .i64 0] 1 1 (eCons 0 1 x18 eNil) s fun x19 s =>
appB 1 8 x7 x19 s fun x20 s =>
K9 [x20] s)
(K3 [x7] s)) [(ci 0), (.nil .sl)] s)
def F63 : F2 := .fn H63 true
theorem fe63 : feE Tryz.prog ann 63 1 [.j [3], .j [9, 3], .j [], .j [3]] = some F63 := by kernel_rfl
/- (*daguerre/frame.Frame).SetRefs -/
def H64 : F2C := fun c k v s K =>
pop v fun x0 v =>
pop v fun x1 v =>
endE v (
c (.mk .d0 .d2 .d0 .d6) [x0] s fun x2 s =>
vLenS x2 fun x3 =>
vLenS x1 fun x4 =>
bEqT x3 x4 fun x5 =>
cnd x5 (none)
(vLenS x1 fun x6 =>
jn (fun _ s =>
K (.tup []) s) fun K7 =>
loopE k (fun K8 v s =>
pop v fun x9 _ =>
bLt x9 x6 fun x10 =>
cnd x10 (jn (fun _ s =>
bAdd x9 (ci 1) fun x12 =>
K8 [x12] s) fun K11 =>
vIaS x1 x9 1 fun x13 =>
ldA x13 take1 s fun x14 s =>
vIaS x2 x9 1 fun x15 =>
ldA x15 take1 s fun x16 s =>
bAdd x14 (ci 1) fun x17 =>
vCv .i32 x17 fun x18 =>
vChk x16 fun x19 =>
fa1 x19 1 fun x20 =>
zSt x20 x18 1 s fun _ s =>
K11 [] s)
(K7 [] s)) [(ci 0)] s))
def F64 : F2 := .fn H64 true
theorem fe64 : feE Tryz.prog ann 64 2 [.cl, .j [], .j [16], .j [], .j []] = some F64 := by kernel_rfl
/- (*daguerre/frame.Frame).Pop -/
def H65 : F2C := fun c _ v s K =>
pop v fun x0 v =>
pop v fun x1 v =>
endE v (
vNil false .ptr x0 fun x2 =>
gK x2 false x1 fun x3 =>
gV x2 false (bLt x3 (ci 0)) fun x4 =>
vPick x2 ct x4 fun x5 =>
gK x5 false x1 fun x6 =>
gK x5 false x0 fun x7 =>
gV x5 false (vChk x7) fun x8 =>
gV x5 false (fa1 x8 4) fun x9 =>
gH x5 false (ldA x9 take1) s fun x10 s =>
gV x5 false (vLenS x10) fun x11 =>
gV x5 false (bGt x6 x11) fun x12 =>
vPick x5 ct x12 fun x13 =>
cnd x13 (none)
(vChk x0 fun x14 =>
fa1 x14 4 fun x15 =>
ldA x15 take1 s fun x16 s =>
vLenS x16 fun x17 =>
bSub x17 x1 fun x18 =>
vChk x0 fun x19 =>
fa1 x19 4 fun x20 =>
ldA x20 take1 s fun x21 s =>
vSlt x21 (eX x18) eN 2 fun x22 =>
c (.mk .d0 .d2 .d0 .d7) [x22] s fun x23 s =>
vChk x0 fun x24 =>
fa1 x24 4 fun x25 =>
ldA x25 take1 s fun x26 s =>
vSlt x26 eN (eX x18) 2 fun x27 =>
vChk x0 fun x28 =>
fa1 x28 4 fun x29 =>
zSt x29 x27 1 s fun _ s =>
K (.tup [x23, ct]) s))
def F65 : F2 := .fn H65 true
theorem fe65 : feE Tryz.prog ann 65 2 [.cl] = some F65 := by kernel_rfl
/- (*daguerre/frame.Frame).Method -/
def H66 : F2C := fun _ _ v s K =>
pop v fun x0 v =>
endE v (
vNil false .ptr x0 fun x1 =>
cnd x1 (none)
(vChk x0 fun x2 =>
fa1 x2 0 fun x3 =>
ldA x3 take1 s fun x4 s =>
K x4 s))
def F66 : F2 := .fn H66 true
theorem fe66 : feE Tryz.prog ann 66 1 [.cl] = some F66 := by kernel_rfl
/- (*daguerre/frame.Frame).Depth -/
def H67 : F2C := fun _ _ v s K =>
pop v fun x0 v =>
endE v (
vNil false .ptr x0 fun x1 =>
cnd x1 (none)
(vChk x0 fun x2 =>
fa1 x2 4 fun x3 =>
ldA x3 take1 s fun x4 s =>
vLenS x4 fun x5 =>
K x5 s))
def F67 : F2 := .fn H67 true
theorem fe67 : feE Tryz.prog ann 67 1 [.cl] = some F67 := by kernel_rfl
/- (*daguerre/vm.Machine).statics -/
def H70 : F2C := fun _ k v s K =>
pop v fun x0 v =>
endE v (
vChk x0 fun x1 =>
fa1 x1 10 fun x2 =>
ldA x2 take1 s fun x3 s =>
vLenS x3 fun x4 =>
jn (fun v s =>
pop v fun x6 _ =>
K x6 s) fun K5 =>
loopE k (fun K7 v s =>
pop v fun x8 v =>
pop v fun x9 _ =>
bLt x8 x4 fun x10 =>
cnd x10 (jn (fun v s =>
pop v fun x12 _ =>
bAdd x8 (ci 1) fun x13 =>
K7 [x13, x12] s) fun K11 =>
vIaS x3 x8 2 fun x14 =>
ldA x14 (takeN 2) s fun x15 s =>
boxD false [.bool false, .int .i32 0] s fun x16 s =>
zSt x16 x15 2 s fun _ s =>
fa1 x16 0 fun x18 =>
ldA x18 take1 s fun x19 s =>
jn (fun v s =>
pop v fun x21 _ =>
K11 [x21] s) fun K20 =>
cnd x19 (fa1 x16 1 fun x22 =>
ldA x22 take1 s fun x23 s =>
vCv .i64 x23 fun x24 =>
bSub x24 (ci 1) fun x25 =>
zBsl [.int .i64 0] 1 1 (eCons 0 1 x25 eNil) s fun x26 s =>
appB 1 8 x9 x26 s fun x27 s =>
K20 [x27] s)
(K20 [x9] s))
(K5 [x9] s)) [(ci 0), (.nil .sl)] s)
def F70 : F2 := .fn H70 true
theorem fe70 : feE Tryz.prog ann 70 1 [.j [3], .j [11, 3], .j [], .j [3], .j [3]] = some F70 := by kernel_rfl
/- daguerre/collect.Copy -/
def H68 : F2C := fun c k v s K =>
pop v fun x0 v =>
pop v fun x1 v =>
pop v fun x2 v =>
endE v (
vNil false .ptr x0 fun x3 =>
cnd x3 (none)
(c (.mk .d0 .d2 .d1 .d0) [x0] s fun x4 s =>
c (.mk .d0 .d1 .d7 .d2) [x4] s fun x5 s =>
zMkm s fun x6 s =>
vBld [.nil .ptr, .nil .ptr, .nil .map, .nil .sl] (eCons 0 1 x0 (eCons 1 1 x5 (eCons 2 1 x6 eNil))) fun x7 =>
zBox false x7 s fun x8 s =>
vLenS x2 fun x9 =>
jn (fun v s =>
pop v fun x11 _ =>
jn (fun _ s =>
vChk x8 fun x13 =>
fa1 x13 1 fun x14 =>
ldA x14 take1 s fun x15 s =>
K (.tup [x15, x11]) s) fun K12 =>
loopE k (fun K16 v s =>
pop v fun x17 _ =>
vChk x8 fun x18 =>
fa1 x18 3 fun x19 =>
ldA x19 take1 s fun x20 s =>
vLenS x20 fun x21 =>
bLt x17 x21 fun x22 =>
cnd x22 (jn (fun _ s =>
bAdd x17 (ci 1) fun x24 =>
K16 [x24] s) fun K23 =>
vChk x8 fun x25 =>
fa1 x25 3 fun x26 =>
ldA x26 take1 s fun x27 s =>
vIaS x27 x17 1 fun x28 =>
ldA x28 take1 s fun x29 s =>
c (.mk .d0 .d2 .d1 .d2) [x0, x29] s fun x30 s =>
jn (fun _ s =>
K23 [] s) fun K31 =>
loopE k (fun K32 v s =>
pop v fun x33 _ =>
bLt x33 x30 fun x34 =>
cnd x34 (jn (fun _ s =>
bAdd x33 (ci 1) fun x36 =>
K32 [x36] s) fun K35 =>
c (.mk .d0 .d2 .d1 .d3) [x0, x29, x33] s fun x37 s =>
vNil true .fn x1 fun x38 =>
gK x38 true x1 fun x39 =>
gK x38 true x0 fun x40 =>
gK x38 true x29 fun x41 =>
gH x38 true (c (.mk .d0 .d2 .d1 .d4) [x40, x41]) s fun x42 s =>
gK x38 true x33 fun x43 =>
gH x38 true (zCallV c x39 [x42, x43]) s fun x44 s =>
vPick x38 x44 cf fun x45 =>
cnd x45 (vCv .i64 x37 fun x46 =>
bSub x46 (ci 1) fun x47 =>
c (.mk .d0 .d2 .d1 .d1) [x8, x47] s fun x48 s =>
bAdd x48 (ci 1) fun x49 =>
vCv .i32 x49 fun x50 =>
lgE qNoE (zK x8) s fun x51 e52 s =>
lgE qNoE (zV (vChk x51)) s fun x53 e54 s =>
lgE qNoE (zV (fa1 x53 1)) s fun x55 e56 s =>
lgE (qLdE x55 1) (ldA x55 take1) s fun x57 e58 s =>
lgE qNoE (zK x8) s fun x59 e60 s =>
lgE qNoE (zV (vChk x59)) s fun x61 e62 s =>
lgE qNoE (zV (fa1 x61 2)) s fun x63 e64 s =>
lgE (qLdE x63 1) (ldA x63 take1) s fun x65 e66 s =>
lgE qNoE (zK x29) s fun x67 e68 s =>
lgE qNoE (zLku (.int .i64) (.int .i64 0) x65 x67 false) s fun x69 e70 s =>
lgE qNoE (zK x33) s fun x71 e72 s =>
lgE qNoE (zK x50) s fun x73 e74 s =>
lgE qNoE (c (.mk .d0 .d2 .d1 .d5) [x57, x69, x71, x73]) s fun _ e76 s =>
calmE [(3, 7), (3, 9)] [e52, e54, e56, e58, e60, e62, e64, e66, e68, e70, e72, e74, e76] (fun s =>
K35 [] s) s)
(none))
(K31 [] s)) [(ci 0)] s)
(K12 [] s)) [(ci 0)] s) fun K10 =>
loopE k (fun K77 v s =>
pop v fun x78 v =>
pop v fun x79 _ =>
bLt x78 x9 fun x80 =>
cnd x80 (jn (fun v s =>
pop v fun x82 _ =>
bAdd x78 (ci 1) fun x83 =>
K77 [x83, x82] s) fun K81 =>
vIaS x2 x78 1 fun x84 =>
ldA x84 take1 s fun x85 s =>
c (.mk .d0 .d2 .d1 .d1) [x8, x85] s fun x86 s =>
zBsl [.int .i64 0] 1 1 (eCons 0 1 x86 eNil) s fun x87 s =>
appB 1 8 x79 x87 s fun x88 s =>
K81 [x88] s)
(K10 [x79] s)) [(ci 0), (.nil .sl)] s))
def F68 : F2 := .fn H68 true
theorem fe68 : feE Tryz.prog ann 68 3 [.cl, .j [9], .j [27, 9], .j [], .j [9], .j [], .j [12], .j [], .j [], .j [], .j [57], .j [], .j [], .cr] = some F68 := by kernel_rfl
/- (*daguerre/heap.Heap).Used -/
def H69 : F2C := fun _ _ v s K =>
pop v fun x0 v =>
endE v (
vNil false .ptr x0 fun x1 =>
cnd x1 (none)
(vChk x0 fun x2 =>
fa1 x2 1 fun x3 =>
ldA x3 take1 s fun x4 s =>
vLenS x4 fun x5 =>
K x5 s))
def F69 : F2 := .fn H69 true
theorem fe69 : feE Tryz.prog ann 69 1 [.cl] = some F69 := by kernel_rfl
/- slices.IndexFunc[[]daguerre/api.RClass,daguerre/api.RClass] -/
def H92 : F2C := fun c k v s K =>
pop v fun x0 v =>
pop v fun x1 v =>
endE v (
vLenS x0 fun x2 =>
jn (fun _ s =>
K (.int .i64 (-1)) s) fun K3 =>
loopE k (fun K4 v s =>
pop v fun x5 _ =>
bLt x5 x2 fun x6 =>
cnd x6 (jn (fun _ s =>
bAdd x5 (ci 1) fun x8 =>
K4 [x8] s) fun K7 =>
vIaS x0 x5 10 fun x9 =>
ldA x9 (takeN 10) s fun x10 s =>
zCallV c x1 [x10] s fun x11 s =>
cnd x11 (none)
(K7 [] s))
(K3 [] s)) [(ci 0)] s)
def F92 : F2 := .fn H92 true
theorem fe92 : feE Tryz.prog ann 92 2 [.j [], .j [8], .j [], .j [], .cl] = some F92 := by kernel_rfl
/- daguerre/num.PutText -/
def H93 : F2C := fun c _ v s K =>
pop v fun x0 v =>
pop v fun x1 v =>
endE v (
vLens x1 fun x2 =>
c (.mk .d0 .d1 .d4 .d4) [x0, x2] s fun x3 s =>
zAps 1 1 x3 x1 s fun x4 s =>
K x4 s)
def F93 : F2 := .fn H93 true
theorem fe93 : feE Tryz.prog ann 93 2 [] = some F93 := by kernel_rfl
/- daguerre/image.list[[2]int] -/
def H94 : F2C := fun c k v s K =>
pop v fun x0 v =>
pop v fun x1 v =>
pop v fun _ v =>
endE v (
vLenS x1 fun x3 =>
c (.mk .d0 .d0 .d4 .d5) [x0, x3] s fun _ s =>
vLenS x1 fun x5 =>
jn (fun _ s =>
K (.tup []) s) fun K6 =>
loopE k (fun _ v s =>
pop v fun x8 _ =>
bLt x8 x5 fun x9 =>
cnd x9 (none)
(K6 [] s)) [(ci 0)] s)
def F94 : F2 := .fn H94 true
theorem fe94 : feE Tryz.prog ann 94 3 [.j [], .j [14], .cl, .j []] = some F94 := by kernel_rfl
/- (*daguerre/image.writer).ins -/
def H97 : F2C := fun c k v s K =>
pop v fun x0 v =>
pop v fun x1 v =>
endE v (
zTbox x1 s fun x2 s =>
fa1 x2 0 fun x3 =>
ldA x3 take1 s fun x4 s =>
fa1 x2 1 fun x5 =>
ldA x5 take1 s fun x6 s =>
fa1 x2 2 fun x7 =>
ldA x7 take1 s fun x8 s =>
fa1 x2 3 fun x9 =>
ldA x9 take1 s fun x10 s =>
vBld [.int .i64 0, .int .i64 0, .int .i64 0, .int .i64 0] (eCons 0 1 x4 (eCons 1 1 x6 (eCons 2 1 x8 (eCons 3 1 x10 eNil)))) fun x11 =>
jn (fun _ s =>
K (.tup []) s) fun K12 =>
loopE k (fun K13 v s =>
pop v fun x14 _ =>
bLt x14 (ci 4) fun x15 =>
cnd x15 (jn (fun _ s =>
bAdd x14 (ci 1) fun x17 =>
K13 [x17] s) fun K16 =>
vGen (.ixa (.c x11) (.c x14) 4 1 none) fun x18 =>
c (.mk .d0 .d0 .d4 .d5) [x0, x18] s fun _ s =>
K16 [] s)
(K12 [] s)) [(ci 0)] s)
def F97 : F2 := .fn H97 true
theorem fe97 : feE Tryz.prog ann 97 2 [.j [], .j [15], .j [], .j []] = some F97 := by kernel_rfl
/- daguerre/image.list[daguerre/api.RIns] -/
def H96 : F2C := fun c k v s K =>
pop v fun x0 v =>
pop v fun x1 v =>
pop v fun x2 v =>
endE v (
vLenS x1 fun x3 =>
c (.mk .d0 .d0 .d4 .d5) [x0, x3] s fun _ s =>
vLenS x1 fun x5 =>
jn (fun _ s =>
K (.tup []) s) fun K6 =>
loopE k (fun K7 v s =>
pop v fun x8 _ =>
bLt x8 x5 fun x9 =>
cnd x9 (jn (fun _ s =>
bAdd x8 (ci 1) fun x11 =>
K7 [x11] s) fun K10 =>
vIaS x1 x8 4 fun x12 =>
ldA x12 (takeN 4) s fun x13 s =>
boxD false [.int .i64 0, .int .i64 0, .int .i64 0, .int .i64 0] s fun x14 s =>
zSt x14 x13 4 s fun _ s =>
ldA x14 (takeN 4) s fun x16 s =>
zCallV c x2 [x16] s fun _ s =>
K10 [] s)
(K6 [] s)) [(ci 0)] s)
def F96 : F2 := .fn H96 true
theorem fe96 : feE Tryz.prog ann 96 3 [.j [], .j [14], .j [], .j []] = some F96 := by kernel_rfl
/- daguerre/image.list[daguerre/api.RTrap] -/
def H98 : F2C := fun c k v s K =>
pop v fun x0 v =>
pop v fun x1 v =>
pop v fun _ v =>
endE v (
vLenS x1 fun x3 =>
c (.mk .d0 .d0 .d4 .d5) [x0, x3] s fun _ s =>
vLenS x1 fun x5 =>
jn (fun _ s =>
K (.tup []) s) fun K6 =>
loopE k (fun _ v s =>
pop v fun x8 _ =>
bLt x8 x5 fun x9 =>
cnd x9 (none)
(K6 [] s)) [(ci 0)] s)
def F98 : F2 := .fn H98 true
theorem fe98 : feE Tryz.prog ann 98 3 [.j [], .j [14], .cl, .j []] = some F98 := by kernel_rfl
/- daguerre/num.Put -/
def H100 : F2C := fun _ k v s K =>
pop v fun x0 v =>
pop v fun x1 v =>
endE v (
vCv .u64 x1 fun x2 =>
bShl x2 (.int .u64 1) fun x3 =>
bLt x1 (ci 0) fun x4 =>
jn (fun v s =>
pop v fun x6 _ =>
jn (fun v s =>
pop v fun x8 v =>
pop v fun x9 _ =>
vCv .u8 x8 fun x10 =>
zBsl [.int .u8 0] 1 1 (eCons 0 1 x10 eNil) s fun x11 s =>
appB 1 1 x9 x11 s fun x12 s =>
K x12 s) fun K7 =>
loopE k (fun _ v s =>
pop v fun x14 v =>
pop v fun x15 _ =>
bGt x14 (.int .u64 127) fun x16 =>
cnd x16 (none)
(K7 [x14, x15] s)) [x6, x0] s) fun K5 =>
cnd x4 (vGen (.un .xor (.c x3)) fun x17 =>
K5 [x17] s)
(K5 [x3] s))
def F100 : F2 := .fn H100 true
theorem fe100 : feE Tryz.prog ann 100 2 [.j [5], .j [5, 0], .j [5, 0], .cl, .j [5, 0]] = some F100 := by kernel_rfl
/- daguerre/crc.More -/
def H101 : F2C := fun _ k v s K =>
pop v fun x0 v =>
pop v fun x1 v =>
endE v (
vGen (.un .xor (.c x0)) fun x2 =>
vLenS x1 fun x3 =>
jn (fun v s =>
pop v fun x5 _ =>
vGen (.un .xor (.c x5)) fun x6 =>
K x6 s) fun K4 =>
loopE k (fun K7 v s =>
pop v fun x8 v =>
pop v fun x9 _ =>
bLt x8 x3 fun x10 =>
cnd x10 (jn (fun v s =>
pop v fun x12 _ =>
bAdd x8 (ci 1) fun x13 =>
K7 [x13, x12] s) fun K11 =>
vIaS x1 x8 1 fun x14 =>
ldA x14 take1 s fun x15 s =>
vCv .u32 x15 fun x16 =>
bXor x9 x16 fun x17 =>
jn (fun v s =>
pop v fun x19 _ =>
K11 [x19] s) fun K18 =>
loopE k (fun K20 v s =>
pop v fun x21 v =>
pop v fun x22 _ =>
bLt x21 (ci 8) fun x23 =>
cnd x23 (jn (fun v s =>
pop v fun x25 _ =>
bAdd x21 (ci 1) fun x26 =>
K20 [x26, x25] s) fun K24 =>
bShr x22 (.int .u64 1) fun x27 =>
bAnd x22 (.int .u32 1) fun x28 =>
vGen (.un .neg (.c x28)) fun x29 =>
bAnd (.int .u32 3988292384) x29 fun x30 =>
bXor x27 x30 fun x31 =>
K24 [x31] s)
(K18 [x22] s)) [(ci 0), x17] s)
(K4 [x9] s)) [(ci 0), x2] s)
def F101 : F2 := .fn H101 true
theorem fe101 : feE Tryz.prog ann 101 2 [.j [5], .j [12, 5], .j [], .j [5], .j [5], .j [20, 5], .j [], .j [5]] = some F101 := by kernel_rfl
/- (*daguerre/image.reader).class -/
def H72 : F2C := fun c _ v s K =>
pop v fun x0 v =>
endE v (
boxD false [.str [], .int .i64 0, .int .i64 0, .nil .sl, .nil .sl, .nil .sl, .nil .sl, .int .i64 0, .int .i64 0, .bool false] s fun x1 s =>
c (.mk .d0 .d2 .d1 .d6) [x0] s fun x2 s =>
c (.mk .d0 .d1 .d1 .d3) [x0] s fun x3 s =>
c (.mk .d0 .d1 .d1 .d3) [x0] s fun x4 s =>
c (.mk .d0 .d1 .d1 .d3) [x0] s fun x5 s =>
c (.mk .d0 .d1 .d1 .d3) [x0] s fun x6 s =>
c (.mk .d0 .d1 .d2 .d0) [x0] s fun x7 s =>
vBld [.str [], .int .i64 0, .int .i64 0, .nil .sl, .nil .sl, .nil .sl, .nil .sl, .int .i64 0, .int .i64 0, .bool false] (eCons 0 1 x2 (eCons 1 1 x3 (eCons 2 1 x4 (eCons 7 1 x5 (eCons 8 1 x6 (eCons 9 1 x7 eNil)))))) fun x8 =>
boxD false [.str [], .int .i64 0, .int .i64 0, .nil .sl, .nil .sl, .nil .sl, .nil .sl, .int .i64 0, .int .i64 0, .bool false] s fun x9 s =>
zSt x9 x8 10 s fun _ s =>
vGen (.mkf 80 [(.c x0)] []) fun x11 =>
c (.mk .d0 .d1 .d1 .d7) [x0, x11] s fun x12 s =>
vGen (.mkf 75 [(.c x0)] []) fun x13 =>
c (.mk .d0 .d1 .d1 .d4) [x0, x13] s fun x14 s =>
vGen (.mkf 75 [(.c x0)] []) fun x15 =>
c (.mk .d0 .d1 .d1 .d4) [x0, x15] s fun x16 s =>
fa1 x9 3 fun x17 =>
zSt x17 x12 1 s fun _ s =>
fa1 x9 4 fun x19 =>
zSt x19 x14 1 s fun _ s =>
fa1 x9 5 fun x21 =>
zSt x21 x16 1 s fun _ s =>
vGen (.mkf 144 [(.c x0)] []) fun x23 =>
c (.mk .d0 .d2 .d1 .d7) [x0, x23] s fun x24 s =>
fa1 x9 6 fun x25 =>
zSt x25 x24 1 s fun _ s =>
ldA x9 (takeN 10) s fun x27 s =>
zSt x1 x27 10 s fun _ s =>
ldA x1 (takeN 10) s K)
def F72 : F2 := .fn H72 true
theorem fe72 : feE Tryz.prog ann 72 1 [] = some F72 := by kernel_rfl
/- daguerre/image.read[daguerre/api.RClass] -/
def H71 : F2C := fun c k v s K =>
pop v fun x0 v =>
pop v fun x1 v =>
endE v (
c (.mk .d0 .d1 .d1 .d3) [x0] s fun x2 s =>
jn (fun v s =>
pop v fun x4 _ =>
K x4 s) fun K3 =>
loopE k (fun K5 v s =>
pop v fun x6 v =>
pop v fun x7 _ =>
bGt x6 (ci 0) fun x8 =>
gK x8 true x0 fun x9 =>
gV x8 true (vChk x9) fun x10 =>
gV x8 true (fa1 x10 1) fun x11 =>
gH x8 true (ldA x11 take1) s fun x12 s =>
gV x8 true (vGen (.un .not (.c x12))) fun x13 =>
vPick x8 x13 cf fun x14 =>
cnd x14 (jn (fun v s =>
pop v fun x16 _ =>
bSub x6 (ci 1) fun x17 =>
K5 [x17, x16] s) fun K15 =>
zCallV c x1 [] s fun x18 s =>
zBsl [.str [], .int .i64 0, .int .i64 0, .nil .sl, .nil .sl, .nil .sl, .nil .sl, .int .i64 0, .int .i64 0, .bool false] 10 1 (eCons 0 10 x18 eNil) s fun x19 s =>
appB 10 152 x7 x19 s fun x20 s =>
K15 [x20] s)
(K3 [x7] s)) [x2, (.nil .sl)] s)
def F71 : F2 := .fn H71 true
theorem fe71 : feE Tryz.prog ann 71 2 [.j [5], .j [6, 5], .j [], .j [5]] = some F71 := by kernel_rfl
/- (*daguerre/image.reader).method -/
def H74 : F2C := fun c _ v s K =>
pop v fun x0 v =>
endE v (
boxD false [.int .i64 0, .int .i64 0, .int .i64 0, .bool false, .nil .sl, .nil .sl] s fun x1 s =>
c (.mk .d0 .d1 .d1 .d3) [x0] s fun x2 s =>
c (.mk .d0 .d1 .d1 .d3) [x0] s fun x3 s =>
c (.mk .d0 .d1 .d1 .d3) [x0] s fun x4 s =>
c (.mk .d0 .d1 .d2 .d0) [x0] s fun x5 s =>
vBld [.int .i64 0, .int .i64 0, .int .i64 0, .bool false, .nil .sl, .nil .sl] (eCons 0 1 x2 (eCons 1 1 x3 (eCons 2 1 x4 (eCons 3 1 x5 eNil)))) fun x6 =>
boxD false [.int .i64 0, .int .i64 0, .int .i64 0, .bool false, .nil .sl, .nil .sl] s fun x7 s =>
zSt x7 x6 6 s fun _ s =>
vGen (.mkf 146 [(.c x0)] []) fun x9 =>
c (.mk .d0 .d2 .d2 .d1) [x0, x9] s fun x10 s =>
vGen (.mkf 148 [(.c x0)] []) fun x11 =>
c (.mk .d0 .d2 .d2 .d3) [x0, x11] s fun x12 s =>
fa1 x7 4 fun x13 =>
zSt x13 x10 1 s fun _ s =>
fa1 x7 5 fun x15 =>
zSt x15 x12 1 s fun _ s =>
ldA x7 (takeN 6) s fun x17 s =>
zSt x1 x17 6 s fun _ s =>
ldA x1 (takeN 6) s K)
def F74 : F2 := .fn H74 true
theorem fe74 : feE Tryz.prog ann 74 1 [] = some F74 := by kernel_rfl
/- daguerre/image.read[daguerre/api.RMethod] -/
def H73 : F2C := fun c k v s K =>
pop v fun x0 v =>
pop v fun x1 v =>
endE v (
c (.mk .d0 .d1 .d1 .d3) [x0] s fun x2 s =>
jn (fun v s =>
pop v fun x4 _ =>
K x4 s) fun K3 =>
loopE k (fun K5 v s =>
pop v fun x6 v =>
pop v fun x7 _ =>
bGt x6 (ci 0) fun x8 =>
gK x8 true x0 fun x9 =>
gV x8 true (vChk x9) fun x10 =>
gV x8 true (fa1 x10 1) fun x11 =>
gH x8 true (ldA x11 take1) s fun x12 s =>
gV x8 true (vGen (.un .not (.c x12))) fun x13 =>
vPick x8 x13 cf fun x14 =>
cnd x14 (jn (fun v s =>
pop v fun x16 _ =>
bSub x6 (ci 1) fun x17 =>
K5 [x17, x16] s) fun K15 =>
zCallV c x1 [] s fun x18 s =>
zBsl [.int .i64 0, .int .i64 0, .int .i64 0, .bool false, .nil .sl, .nil .sl] 6 1 (eCons 0 6 x18 eNil) s fun x19 s =>
appB 6 80 x7 x19 s fun x20 s =>
K15 [x20] s)
(K3 [x7] s)) [x2, (.nil .sl)] s)
def F73 : F2 := .fn H73 true
theorem fe73 : feE Tryz.prog ann 73 2 [.j [5], .j [6, 5], .j [], .j [5]] = some F73 := by kernel_rfl
/- (*daguerre/image.reader).num -/
def H75 : F2C := fun c _ v s K =>
pop v fun x0 v =>
endE v (
vChk x0 fun x1 =>
fa1 x1 0 fun x2 =>
ldA x2 take1 s fun x3 s =>
c (.mk .d0 .d2 .d2 .d5) [x3] s fun x4 s =>
vExt x4 0 fun x5 =>
vExt x4 1 fun x6 =>
vExt x4 2 fun x7 =>
vChk x0 fun x8 =>
fa1 x8 1 fun x9 =>
ldA x9 take1 s fun x10 s =>
gK x10 false x7 fun x11 =>
gV x10 false (bEqT x11 (ci 0)) fun x12 =>
vPick x10 ct x12 fun x13 =>
vChk x0 fun x14 =>
fa1 x14 1 fun x15 =>
zSt x15 x13 1 s fun _ s =>
vChk x0 fun x17 =>
fa1 x17 1 fun x18 =>
ldA x18 take1 s fun x19 s =>
cnd x19 (none)
(vChk x0 fun x20 =>
fa1 x20 0 fun x21 =>
ldA x21 take1 s fun x22 s =>
vSlt x22 (eX x6) eN 1 fun x23 =>
vChk x0 fun x24 =>
fa1 x24 0 fun x25 =>
zSt x25 x23 1 s fun _ s =>
K x5 s))
def F75 : F2 := .fn H75 true
theorem fe75 : feE Tryz.prog ann 75 1 [.cl] = some F75 := by kernel_rfl
/- daguerre/image.read[int] -/
def H76 : F2C := fun c k v s K =>
pop v fun x0 v =>
pop v fun x1 v =>
endE v (
c (.mk .d0 .d1 .d1 .d3) [x0] s fun x2 s =>
jn (fun v s =>
pop v fun x4 _ =>
K x4 s) fun K3 =>
loopE k (fun K5 v s =>
pop v fun x6 v =>
pop v fun x7 _ =>
bGt x6 (ci 0) fun x8 =>
gK x8 true x0 fun x9 =>
gV x8 true (vChk x9) fun x10 =>
gV x8 true (fa1 x10 1) fun x11 =>
gH x8 true (ldA x11 take1) s fun x12 s =>
gV x8 true (vGen (.un .not (.c x12))) fun x13 =>
vPick x8 x13 cf fun x14 =>
cnd x14 (jn (fun v s =>
pop v fun x16 _ =>
bSub x6 (ci 1) fun x17 =>
K5 [x17, x16] s) fun K15 =>
zCallV c x1 [] s fun x18 s =>
zBsl [.int .i64 0] 1 1 (eCons 0 1 x18 eNil) s fun x19 s =>
appB 1 8 x7 x19 s fun x20 s =>
K15 [x20] s)
(K3 [x7] s)) [x2, (.nil .sl)] s)
def F76 : F2 := .fn H76 true
theorem fe76 : feE Tryz.prog ann 76 2 [.j [5], .j [6, 5], .j [], .j [5]] = some F76 := by kernel_rfl
/- (*daguerre/image.reader).word -/
def H78 : F2C := fun c _ v s K =>
pop v fun x0 v =>
endE v (
c (.mk .d0 .d1 .d1 .d3) [x0] s fun x1 s =>
vCv .i32 x1 fun x2 =>
K x2 s)
def F78 : F2 := .fn H78 true
theorem fe78 : feE Tryz.prog ann 78 1 [] = some F78 := by kernel_rfl
/- daguerre/image.read[int32] -/
def H77 : F2C := fun c k v s K =>
pop v fun x0 v =>
pop v fun x1 v =>
endE v (
c (.mk .d0 .d1 .d1 .d3) [x0] s fun x2 s =>
jn (fun v s =>
pop v fun x4 _ =>
K x4 s) fun K3 =>
loopE k (fun K5 v s =>
pop v fun x6 v =>
pop v fun x7 _ =>
bGt x6 (ci 0) fun x8 =>
gK x8 true x0 fun x9 =>
gV x8 true (vChk x9) fun x10 =>
gV x8 true (fa1 x10 1) fun x11 =>
gH x8 true (ldA x11 take1) s fun x12 s =>
gV x8 true (vGen (.un .not (.c x12))) fun x13 =>
vPick x8 x13 cf fun x14 =>
cnd x14 (jn (fun v s =>
pop v fun x16 _ =>
bSub x6 (ci 1) fun x17 =>
K5 [x17, x16] s) fun K15 =>
zCallV c x1 [] s fun x18 s =>
zBsl [.int .i32 0] 1 1 (eCons 0 1 x18 eNil) s fun x19 s =>
appB 1 4 x7 x19 s fun x20 s =>
K15 [x20] s)
(K3 [x7] s)) [x2, (.nil .sl)] s)
def F77 : F2 := .fn H77 true
theorem fe77 : feE Tryz.prog ann 77 2 [.j [5], .j [6, 5], .j [], .j [5]] = some F77 := by kernel_rfl
/- (*daguerre/image.reader).truth -/
def H80 : F2C := fun c _ v s K =>
pop v fun x0 v =>
endE v (
c (.mk .d0 .d1 .d1 .d3) [x0] s fun x1 s =>
bEqT x1 (ci 0) fun x2 =>
K x2 s)
def F80 : F2 := .fn H80 true
theorem fe80 : feE Tryz.prog ann 80 1 [] = some F80 := by kernel_rfl
/- daguerre/image.read[bool] -/
def H79 : F2C := fun c k v s K =>
pop v fun x0 v =>
pop v fun x1 v =>
endE v (
c (.mk .d0 .d1 .d1 .d3) [x0] s fun x2 s =>
jn (fun v s =>
pop v fun x4 _ =>
K x4 s) fun K3 =>
loopE k (fun K5 v s =>
pop v fun x6 v =>
pop v fun x7 _ =>
bGt x6 (ci 0) fun x8 =>
gK x8 true x0 fun x9 =>
gV x8 true (vChk x9) fun x10 =>
gV x8 true (fa1 x10 1) fun x11 =>
gH x8 true (ldA x11 take1) s fun x12 s =>
gV x8 true (vGen (.un .not (.c x12))) fun x13 =>
vPick x8 x13 cf fun x14 =>
cnd x14 (jn (fun v s =>
pop v fun x16 _ =>
bSub x6 (ci 1) fun x17 =>
K5 [x17, x16] s) fun K15 =>
zCallV c x1 [] s fun x18 s =>
zBsl [.bool false] 1 1 (eCons 0 1 x18 eNil) s fun x19 s =>
appB 1 1 x7 x19 s fun x20 s =>
K15 [x20] s)
(K3 [x7] s)) [x2, (.nil .sl)] s)
def F79 : F2 := .fn H79 true
theorem fe79 : feE Tryz.prog ann 79 2 [.j [5], .j [6, 5], .j [], .j [5]] = some F79 := by kernel_rfl
/- bytes.Equal -/
def H81 : F2C := fun _ _ v s K =>
pop v fun x0 v =>
pop v fun x1 v =>
endE v (
b2sA x0 s fun x2 s =>
b2sA x1 s fun x3 s =>
bEqF x2 x3 fun x4 =>
K x4 s)
def F81 : F2 := .fn H81 true
theorem fe81 : feE Tryz.prog ann 81 2 [] = some F81 := by kernel_rfl
/- daguerre/valid.between -/
def H82 : F2C := fun _ _ v s K =>
pop v fun x0 v =>
pop v fun x1 v =>
pop v fun x2 v =>
endE v (
bGe x0 x1 fun x3 =>
gK x3 true x0 fun x4 =>
gK x3 true x2 fun x5 =>
gV x3 true (bLe x4 x5) fun x6 =>
vPick x3 x6 cf fun x7 =>
K x7 s)
def F82 : F2 := .fn H82 true
theorem fe82 : feE Tryz.prog ann 82 3 [] = some F82 := by kernel_rfl
/- (daguerre/valid.asker).given -/
def H83 : F2C := fun c k v s K =>
pop v fun x0 v =>
endE v (
zTbox x0 s fun x1 s =>
fa1 x1 0 fun x2 =>
fa1 x2 4 fun x3 =>
ldA x3 take1 s fun x4 s =>
vLenS x4 fun x5 =>
jn (fun _ s =>
lgE qNoE (zV (fa1 x1 0)) s fun x7 e8 s =>
lgE qNoE (zV (fa1 x7 4)) s fun x9 e10 s =>
lgE (qLdE x9 1) (ldA x9 take1) s fun x11 e12 s =>
lgE qNoE (zV (vLenS x11)) s fun x13 e14 s =>
lgE qNoE (c (.mk .d0 .d2 .d2 .d7) []) s fun x15 e16 s =>
lgE qNoE (zV (vLenS x15)) s fun x17 e18 s =>
lgE qNoE (zV (bEqF x13 x17)) s fun x19 e20 s =>
lgE qNoE (zK x19) s fun x21 e22 s =>
calmE [(2, 4), (3, 4), (2, 5), (3, 5)] [e8, e10, e12, e14, e16, e18, e20, e22] (fun s =>
K x21 s) s) fun K6 =>
loopE k (fun K23 v s =>
pop v fun x24 _ =>
bLt x24 x5 fun x25 =>
cnd x25 (jn (fun _ s =>
bAdd x24 (ci 1) fun x27 =>
K23 [x27] s) fun K26 =>
vIaS x4 x24 1 fun x28 =>
ldA x28 take1 s fun x29 s =>
ldA x1 (takeN 9) s fun x30 s =>
c (.mk .d0 .d1 .d2 .d6) [x30, x29] s fun x31 s =>
vGen (.un .not (.c x31)) fun x32 =>
gV x32 false (fa1 x1 0) fun x33 =>
gV x32 false (fa1 x33 4) fun x34 =>
gH x32 false (ldA x34 take1) s fun x35 s =>
gK x32 false x24 fun x36 =>
gV x32 false (vSlt x35 eN (eX x36) 1) fun x37 =>
gK x32 false x29 fun x38 =>
gH x32 false (c (.mk .d0 .d2 .d2 .d6) [x37, x38]) s fun x39 s =>
vPick x32 ct x39 fun x40 =>
gK x40 false x24 fun x41 =>
gV x40 false (bGt x41 (ci 0)) fun x42 =>
gK x40 false x42 fun x43 =>
gV x43 true (fa1 x1 0) fun x44 =>
gV x43 true (fa1 x44 0) fun x45 =>
gH x43 true (ldA x45 take1) s fun x46 s =>
gK x43 true x29 fun x47 =>
gV x43 true (vIaS x46 x47 10) fun x48 =>
gV x43 true (fa1 x48 9) fun x49 =>
gH x43 true (ldA x49 take1) s fun x50 s =>
gV x43 true (vGen (.un .not (.c x50))) fun x51 =>
gV x40 false (vPick x43 x51 cf) fun x52 =>
vPick x40 ct x52 fun x53 =>
cnd x53 (none)
(K26 [] s))
(K6 [] s)) [(ci 0)] s)
def F83 : F2 := .fn H83 true
theorem fe83 : feE Tryz.prog ann 83 1 [.j [], .j [9], .j [], .j [], .cl] = some F83 := by kernel_rfl
/- (daguerre/valid.asker).supers -/
def H84 : F2C := fun c k v s K =>
pop v fun x0 v =>
endE v (
zTbox x0 s fun x1 s =>
fa1 x1 0 fun x2 =>
fa1 x2 0 fun x3 =>
ldA x3 take1 s fun x4 s =>
vLenS x4 fun x5 =>
jn (fun _ s =>
K ct s) fun K6 =>
loopE k (fun K7 v s =>
pop v fun x8 _ =>
bLt x8 x5 fun x9 =>
cnd x9 (jn (fun _ s =>
bAdd x8 (ci 1) fun x11 =>
K7 [x11] s) fun K10 =>
vIaS x4 x8 10 fun x12 =>
ldA x12 (takeN 10) s fun x13 s =>
boxD false [.str [], .int .i64 0, .int .i64 0, .nil .sl, .nil .sl, .nil .sl, .nil .sl, .int .i64 0, .int .i64 0, .bool false] s fun x14 s =>
zSt x14 x13 10 s fun _ s =>
fa1 x14 1 fun x16 =>
ldA x16 take1 s fun x17 s =>
fa1 x1 0 fun x18 =>
fa1 x18 0 fun x19 =>
ldA x19 take1 s fun x20 s =>
vLenS x20 fun x21 =>
jn (fun v s =>
pop v fun x23 _ =>
bEqT x23 (.int .i64 (-1)) fun x24 =>
cnd x24 (none)
(K10 [] s)) fun K22 =>
loopE k (fun K25 v s =>
pop v fun x26 v =>
pop v fun x27 _ =>
bLt x26 x21 fun x28 =>
cnd x28 (jn (fun v s =>
pop v fun x30 _ =>
bAdd x26 (ci 1) fun x31 =>
K25 [x31, x30] s) fun _ =>
ldA x1 (takeN 9) s fun x32 s =>
c (.mk .d0 .d1 .d2 .d6) [x32, x27] s fun x33 s =>
vGen (.un .not (.c x33)) fun x34 =>
cnd x34 (K22 [x27] s)
(none))
(none)) [(ci 0), x17] s)
(K6 [] s)) [(ci 0)] s)
def F84 : F2 := .fn H84 true
theorem fe84 : feE Tryz.prog ann 84 1 [.j [], .j [10], .j [], .j [], .j [5], .j [20, 5], .cr, .j [5], .cr, .cl] = some F84 := by kernel_rfl
/- (daguerre/valid.asker).plain -/
def H85 : F2C := fun c _ v s K =>
pop v fun x0 v =>
pop v fun x1 v =>
endE v (
zTbox x0 s fun x2 s =>
ldA x2 (takeN 9) s fun x3 s =>
c (.mk .d0 .d2 .d3 .d0) [x3, x1] s fun x4 s =>
gV x4 true (fa1 x2 0) fun x5 =>
gV x4 true (fa1 x5 1) fun x6 =>
gH x4 true (ldA x6 take1) s fun x7 s =>
gK x4 true x1 fun x8 =>
gV x4 true (vIaS x7 x8 6) fun x9 =>
gV x4 true (fa1 x9 0) fun x10 =>
gH x4 true (ldA x10 take1) s fun x11 s =>
gV x4 true (bEqF x11 (ci 0)) fun x12 =>
vPick x4 x12 cf fun x13 =>
gV x13 true (fa1 x2 0) fun x14 =>
gV x13 true (fa1 x14 1) fun x15 =>
gH x13 true (ldA x15 take1) s fun x16 s =>
gK x13 true x1 fun x17 =>
gV x13 true (vIaS x16 x17 6) fun x18 =>
gV x13 true (fa1 x18 3) fun x19 =>
gH x13 true (ldA x19 take1) s fun x20 s =>
gV x13 true (vGen (.un .not (.c x20))) fun x21 =>
vPick x13 x21 cf fun x22 =>
K x22 s)
def F85 : F2 := .fn H85 true
theorem fe85 : feE Tryz.prog ann 85 2 [] = some F85 := by kernel_rfl
/- (daguerre/valid.asker).class -/
def H86 : F2C := fun c _ v s K =>
pop v fun x0 v =>
pop v fun x1 v =>
endE v (
zTbox x0 s fun x2 s =>
fa1 x2 0 fun x3 =>
fa1 x3 0 fun x4 =>
ldA x4 take1 s fun x5 s =>
vLenS x5 fun x6 =>
bSub x6 (ci 1) fun x7 =>
c (.mk .d0 .d1 .d2 .d2) [x1, (ci 0), x7] s fun x8 s =>
K x8 s)
def F86 : F2 := .fn H86 true
theorem fe86 : feE Tryz.prog ann 86 2 [] = some F86 := by kernel_rfl
/- (daguerre/valid.asker).kind -/
def H87 : F2C := fun c k v s K =>
pop v fun x0 v =>
pop v fun x1 v =>
pop v fun x2 v =>
endE v (
zBox true x0 s fun x3 s =>
zTbox x2 s fun x4 s =>
fa1 x4 4 fun x5 =>
ldA x5 take1 s fun x6 s =>
ldA x3 (takeN 9) s fun x7 s =>
vGen (.mkf 86 [(.c x7)] []) fun x8 =>
c (.mk .d0 .d2 .d3 .d1) [x6, x8] s fun x9 s =>
gV x9 true (fa1 x4 4) fun x10 =>
gH x9 true (ldA x10 take1) s fun x11 s =>
gH x9 true (c (.mk .d0 .d2 .d3 .d2) [x11]) s fun x12 s =>
vPick x9 x12 cf fun x13 =>
gV x13 true (fa1 x4 4) fun x14 =>
gH x13 true (ldA x14 take1) s fun x15 s =>
gK x13 true x1 fun x16 =>
gH x13 true (c (.mk .d0 .d2 .d2 .d6) [x15, x16]) s fun x17 s =>
vPick x13 x17 cf fun x18 =>
fa1 x4 5 fun x19 =>
ldA x19 take1 s fun x20 s =>
vLenS x20 fun x21 =>
bLe x21 (ci 200) fun x22 =>
gV x22 true (fa1 x4 5) fun x23 =>
gH x22 true (ldA x23 take1) s fun x24 s =>
gV x22 true (vGen (.mkf 155 [] [(.c x3)])) fun x25 =>
gH x22 true (c (.mk .d0 .d2 .d3 .d1) [x24, x25]) s fun x26 s =>
vPick x22 x26 cf fun x27 =>
fa1 x4 6 fun x28 =>
ldA x28 take1 s fun x29 s =>
vLenS x29 fun x30 =>
jn (fun v s =>
pop v fun x32 _ =>
c (.mk .d0 .d2 .d3 .d2) [x32] s fun x33 s =>
gV x33 true (fa1 x4 6) fun x34 =>
gH x33 true (ldA x34 take1) s fun x35 s =>
gV x33 true (vGen (.mkf 157 [] [(.c x3)])) fun x36 =>
gH x33 true (c (.mk .d0 .d2 .d3 .d4) [x35, x36]) s fun x37 s =>
vPick x33 x37 cf fun x38 =>
fa1 x4 8 fun x39 =>
ldA x39 take1 s fun x40 s =>
bEqF x40 (.int .i64 (-1)) fun x41 =>
fa1 x4 7 fun x42 =>
ldA x42 take1 s fun x43 s =>
bEqF x43 (ci 2) fun x44 =>
jn (fun v s =>
pop v fun x46 _ =>
fa1 x4 7 fun x47 =>
ldA x47 take1 s fun x48 s =>
c (.mk .d0 .d1 .d2 .d2) [x48, (ci 0), (ci 2)] s fun x49 s =>
gK x49 true x46 fun x50 =>
vPick x49 x50 cf fun x51 =>
gV x51 true (fa1 x4 7) fun x52 =>
gH x51 true (ldA x52 take1) s fun x53 s =>
gV x51 true (bEqF x53 (ci 0)) fun x54 =>
gK x51 true x54 fun x55 =>
gV x55 false (fa1 x4 3) fun x56 =>
gH x55 false (ldA x56 take1) s fun x57 s =>
gV x55 false (vLenS x57) fun x58 =>
gV x55 false (bEqF x58 (ci 0)) fun x59 =>
gV x51 true (vPick x55 ct x59) fun x60 =>
vPick x51 x60 cf fun x61 =>
fa1 x4 2 fun x62 =>
ldA x62 take1 s fun x63 s =>
bEqF x63 (.int .i64 (-1)) fun x64 =>
gH x64 false (ldA x3 (takeN 9)) s fun x65 s =>
gV x64 false (fa1 x4 2) fun x66 =>
gH x64 false (ldA x66 take1) s fun x67 s =>
gH x64 false (c (.mk .d0 .d1 .d2 .d5) [x65, x67]) s fun x68 s =>
vPick x64 ct x68 fun x69 =>
gV x69 true (fa1 x4 3) fun x70 =>
gH x69 true (ldA x70 take1) s fun x71 s =>
gV x69 true (vLenS x71) fun x72 =>
gV x69 true (bLe x72 (ci 200)) fun x73 =>
vPick x69 x73 cf fun x74 =>
gK x74 true x18 fun x75 =>
vPick x74 x75 cf fun x76 =>
gK x76 true x27 fun x77 =>
vPick x76 x77 cf fun x78 =>
gK x78 true x38 fun x79 =>
vPick x78 x79 cf fun x80 =>
gK x80 true x61 fun x81 =>
vPick x80 x81 cf fun x82 =>
K x82 s) fun K45 =>
cnd x44 (ldA x3 (takeN 9) s fun x83 s =>
fa1 x4 8 fun x84 =>
ldA x84 take1 s fun x85 s =>
c (.mk .d0 .d1 .d2 .d6) [x83, x85] s fun x86 s =>
K45 [x86] s)
(K45 [x41] s)) fun K31 =>
loopE k (fun _ v s =>
pop v fun x88 v =>
pop v fun x89 _ =>
bLt x88 x30 fun x90 =>
cnd x90 (none)
(K31 [x89] s)) [(ci 0), (.nil .sl)] s)
def F87 : F2 := .fn H87 true
theorem fe87 : feE Tryz.prog ann 87 3 [.j [9], .j [44, 9], .cl, .j [9], .j [13]] = some F87 := by kernel_rfl
/- (daguerre/valid.asker).runs -/
def H89 : F2C := fun c _ v s K =>
pop v fun x0 v =>
pop v fun x1 v =>
endE v (
zBox true x0 s fun x2 s =>
zBox true x1 s fun x3 s =>
fa1 x3 4 fun x4 =>
ldA x4 take1 s fun x5 s =>
vLenS x5 fun x6 =>
boxD true [.int .i64 0] s fun x7 s =>
zSt x7 x6 1 s fun _ s =>
fa1 x3 0 fun x9 =>
ldA x9 take1 s fun x10 s =>
c (.mk .d0 .d1 .d2 .d2) [x10, (ci 0), (ci 7)] s fun x11 s =>
vGen (.un .not (.c x11)) fun x12 =>
gV x12 false (fa1 x3 1) fun x13 =>
gH x12 false (ldA x13 take1) s fun x14 s =>
gH x12 false (c (.mk .d0 .d1 .d2 .d2) [x14, (ci 0), (ci 16)]) s fun x15 s =>
gV x12 false (vGen (.un .not (.c x15))) fun x16 =>
vPick x12 ct x16 fun x17 =>
gV x17 false (fa1 x3 2) fun x18 =>
gH x17 false (ldA x18 take1) s fun x19 s =>
gH x17 false (c (.mk .d0 .d1 .d2 .d2) [x19, (ci 0), (ci 16)]) s fun x20 s =>
gV x17 false (vGen (.un .not (.c x20))) fun x21 =>
vPick x17 ct x21 fun x22 =>
cnd x22 (none)
(ldA x7 take1 s fun x23 s =>
bGt x23 (ci 0) fun x24 =>
gH x24 true (ldA x7 take1) s fun x25 s =>
gV x24 true (bGt x25 (ci 100)) fun x26 =>
gK x24 true x26 fun x27 =>
gV x27 false (fa1 x3 0) fun x28 =>
gH x27 false (ldA x28 take1) s fun x29 s =>
gV x27 false (fa1 x3 1) fun x30 =>
gH x27 false (ldA x30 take1) s fun x31 s =>
gV x27 false (bGt x29 x31) fun x32 =>
gV x24 true (vPick x27 ct x32) fun x33 =>
gK x24 true x33 fun x34 =>
gV x34 false (fa1 x3 4) fun x35 =>
gH x34 false (ldA x35 take1) s fun x36 s =>
gH x34 false (ldA x7 take1) s fun x37 s =>
gV x34 false (bSub x37 (ci 1)) fun x38 =>
gV x34 false (vIaS x36 x38 4) fun x39 =>
gV x34 false (fa1 x39 0) fun x40 =>
gH x34 false (ldA x40 take1) s fun x41 s =>
gH x34 false (c (.mk .d0 .d2 .d4 .d1) [x41]) s fun x42 s =>
gV x34 false (vGen (.un .not (.c x42))) fun x43 =>
gV x24 true (vPick x34 ct x43) fun x44 =>
vPick x24 x44 cf fun x45 =>
cnd x45 (none)
(fa1 x3 5 fun x46 =>
ldA x46 take1 s fun x47 s =>
vGen (.mkf 163 [] [(.c x7), (.c x2)]) fun x48 =>
c (.mk .d0 .d2 .d4 .d2) [x47, x48] s fun x49 s =>
gV x49 true (fa1 x3 4) fun x50 =>
gH x49 true (ldA x50 take1) s fun x51 s =>
gV x49 true (vGen (.mkf 165 [] [(.c x2), (.c x3)])) fun x52 =>
gH x49 true (c (.mk .d0 .d2 .d4 .d4) [x51, x52]) s fun x53 s =>
vPick x49 x53 cf fun x54 =>
K x54 s)))
def F89 : F2 := .fn H89 true
theorem fe89 : feE Tryz.prog ann 89 2 [.cl, .cl] = some F89 := by kernel_rfl
/- daguerre/valid.all[daguerre/api.RMethod] -/
def H88 : F2C := fun c _ v s K =>
pop v fun x0 v =>
pop v fun x1 v =>
endE v (
zBox false x1 s fun x2 s =>
vGen (.mkf 160 [] [(.c x2)]) fun x3 =>
c (.mk .d0 .d2 .d3 .d7) [x0, x3] s fun x4 s =>
vGen (.un .not (.c x4)) fun x5 =>
K x5 s)
def F88 : F2 := .fn H88 true
theorem fe88 : feE Tryz.prog ann 88 2 [] = some F88 := by kernel_rfl
/- (daguerre/valid.asker).heap -/
def H90 : F2C := fun c k v s K =>
pop v fun x0 v =>
endE v (
zBox true x0 s fun x1 s =>
fa1 x1 0 fun x2 =>
fa1 x2 5 fun x3 =>
ldA x3 take1 s fun x4 s =>
c (.mk .d0 .d0 .d6 .d0) [x4, (ci 1048576)] s fun x5 s =>
vExt x5 0 fun x6 =>
vExt x5 1 fun x7 =>
boxD true [.nil .ptr] s fun x8 s =>
zSt x8 x6 1 s fun _ s =>
vGen (.un .not (.c x7)) fun x10 =>
cnd x10 (none)
(vGen (.mkf 167 [] [(.c x8)]) fun x11 =>
boxD true [.nil .fn] s fun x12 s =>
zSt x12 x11 1 s fun _ s =>
jn (fun v s =>
pop v fun x15 _ =>
fa1 x1 0 fun x16 =>
fa1 x16 7 fun x17 =>
ldA x17 take1 s fun x18 s =>
vLenS x18 fun x19 =>
jn (fun _ s =>
fa1 x1 0 fun x21 =>
fa1 x21 6 fun x22 =>
ldA x22 take1 s fun x23 s =>
c (.mk .d0 .d2 .d5 .d1) [x15, x23] s fun x24 s =>
gK x24 true x15 fun x25 =>
gV x24 true (vGen (.mkf 170 [] [(.c x12), (.c x1)])) fun x26 =>
gH x24 true (c (.mk .d0 .d2 .d3 .d1) [x25, x26]) s fun x27 s =>
vPick x24 x27 cf fun x28 =>
K x28 s) fun K20 =>
loopE k (fun K29 v s =>
pop v fun x30 _ =>
bLt x30 x19 fun x31 =>
cnd x31 (jn (fun _ s =>
bAdd x30 (ci 1) fun x33 =>
K29 [x33] s) fun K32 =>
vIaS x18 x30 1 fun x34 =>
ldA x34 take1 s fun x35 s =>
fa1 x1 0 fun x36 =>
fa1 x36 8 fun x37 =>
ldA x37 take1 s fun x38 s =>
vIaS x38 x30 1 fun x39 =>
ldA x39 take1 s fun x40 s =>
gH x40 true (ldA x12 take1) s fun x41 s =>
gK x40 true x35 fun x42 =>
gH x40 true (zCallV c x41 [x42]) s fun x43 s =>
gV x40 true (vGen (.un .not (.c x43))) fun x44 =>
vPick x40 x44 cf fun x45 =>
cnd x45 (none)
(K32 [] s))
(K20 [] s)) [(ci 0)] s) fun K14 =>
loopE k (fun K46 v s =>
pop v fun x47 v =>
pop v fun x48 _ =>
ldA x8 take1 s fun x49 s =>
c (.mk .d0 .d1 .d0 .d5) [x49] s fun x50 s =>
bLt x47 x50 fun x51 =>
cnd x51 (jn (fun v s =>
pop v fun x53 _ =>
ldA x8 take1 s fun x54 s =>
c (.mk .d0 .d2 .d1 .d2) [x54, x47] s fun x55 s =>
bAdd (ci 2) x55 fun x56 =>
bAdd x47 x56 fun x57 =>
K46 [x57, x53] s) fun K52 =>
lgE (qLdE x1 9) (ldA x1 (takeN 9)) s fun x58 e59 s =>
lgE (qLdE x8 1) (ldA x8 take1) s fun x60 e61 s =>
lgE qNoE (zK x47) s fun x62 e63 s =>
lgE qNoE (c (.mk .d0 .d2 .d1 .d4) [x60, x62]) s fun x64 e65 s =>
lgE qNoE (c (.mk .d0 .d1 .d2 .d6) [x58, x64]) s fun x66 e67 s =>
lgE qNoE (zV (vGen (.un .not (.c x66)))) s fun x68 e69 s =>
calmE [(0, 1), (0, 3)] [e59, e61, e63, e65, e67, e69] (fun s =>
cnd x68 (none)
(lgE qNoE (zV (fa1 x1 0)) s fun x70 e71 s =>
lgE qNoE (zV (fa1 x70 0)) s fun x72 e73 s =>
lgE (qLdE x72 1) (ldA x72 take1) s fun x74 e75 s =>
lgE (qLdE x8 1) (ldA x8 take1) s fun x76 e77 s =>
lgE qNoE (zK x47) s fun x78 e79 s =>
lgE qNoE (c (.mk .d0 .d2 .d1 .d4) [x76, x78]) s fun x80 e81 s =>
lgE qNoE (zV (vIaS x74 x80 10)) s fun x82 e83 s =>
lgE (qLdE x82 10) (ldA x82 (takeN 10)) s fun x84 e85 s =>
lgE qNoE (boxD false [.str [], .int .i64 0, .int .i64 0, .nil .sl, .nil .sl, .nil .sl, .nil .sl, .int .i64 0, .int .i64 0, .bool false]) s fun x86 e87 s =>
lgE qNoE (zSt x86 x84 10) s fun _ e89 s =>
calmE [(2, 3), (2, 5), (2, 8), (3, 8), (5, 8), (7, 8)] [e71, e73, e75, e77, e79, e81, e83, e85, e87, e89] (fun s =>
lgE qNoE (zV (fa1 x86 7)) s fun x90 e91 s =>
lgE (qLdE x90 1) (ldA x90 take1) s fun x92 e93 s =>
lgE qNoE (zV (bEqF x92 (ci 0))) s fun x94 e95 s =>
lgE qNoE (zK x94) s fun x96 e97 s =>
lgE (qGE x96 true (qLdE x8 1)) (zG x96 true (ldA x8 take1)) s fun x98 e99 s =>
lgE (qGE x96 true qNoE) (zG x96 true (zK x47)) s fun x100 e101 s =>
lgE (qGE x96 true qNoE) (zG x96 true (c (.mk .d0 .d2 .d1 .d2) [x98, x100])) s fun x102 e103 s =>
lgE (qGE x96 true qNoE) (zG x96 true (zV (fa1 x86 3))) s fun x104 e105 s =>
lgE (qGE x96 true (qLdE x104 1)) (zG x96 true (ldA x104 take1)) s fun x106 e107 s =>
lgE (qGE x96 true qNoE) (zG x96 true (zV (vLenS x106))) s fun x108 e109 s =>
lgE (qGE x96 true qNoE) (zG x96 true (zV (bEqT x102 x108))) s fun x110 e111 s =>
lgE qNoE (zV (vPick x96 x110 cf)) s fun x112 e113 s =>
calmE [(4, 8), (6, 8), (4, 9), (6, 9)] [e91, e93, e95, e97, e99, e101, e103, e105, e107, e109, e111, e113] (fun s =>
cnd x112 (none)
(ldA x8 take1 s fun x114 s =>
c (.mk .d0 .d2 .d1 .d2) [x114, x47] s fun x115 s =>
jn (fun v s =>
pop v fun x117 _ =>
K52 [x117] s) fun K116 =>
loopE k (fun K118 v s =>
pop v fun x119 v =>
pop v fun x120 _ =>
bLt x119 x115 fun x121 =>
cnd x121 (jn (fun v s =>
pop v fun x123 _ =>
bAdd x119 (ci 1) fun x124 =>
K118 [x124, x123] s) fun K122 =>
fa1 x86 7 fun x125 =>
ldA x125 take1 s fun x126 s =>
bEqF x126 (ci 2) fun x127 =>
gV x127 false (fa1 x86 7) fun x128 =>
gH x127 false (ldA x128 take1) s fun x129 s =>
gV x127 false (bEqF x129 (ci 0)) fun x130 =>
gK x127 false x130 fun x131 =>
gV x131 true (fa1 x86 3) fun x132 =>
gH x131 true (ldA x132 take1) s fun x133 s =>
gK x131 true x119 fun x134 =>
gV x131 true (vIaS x133 x134 1) fun x135 =>
gH x131 true (ldA x135 take1) s fun x136 s =>
gV x127 false (vPick x131 x136 cf) fun x137 =>
vPick x127 ct x137 fun x138 =>
cnd x138 (bAdd x47 (ci 2) fun x139 =>
bAdd x139 x119 fun x140 =>
zBsl [.int .i64 0] 1 1 (eCons 0 1 x140 eNil) s fun x141 s =>
appB 1 8 x120 x141 s fun x142 s =>
K122 [x142] s)
(none))
(K116 [x120] s)) [(ci 0), x48] s)) s) s)) s)
(K14 [x48] s)) [(ci 0), (.nil .sl)] s))
def F90 : F2 := .fn H90 true
theorem fe90 : feE Tryz.prog ann 90 1 [.cl, .j [6], .j [7, 6], .j [], .j [6], .cl, .cl, .j [6], .j [61, 6], .j [], .j [6], .cr, .j [], .j [91], .j [], .j [], .cl] = some F90 := by kernel_rfl
/- daguerre/load.moved$1 -/
def H91 : F2C := fun _ _ v s K =>
pop v fun x0 v =>
pop v fun x1 v =>
pop v fun x2 v =>
pop v fun x3 v =>
endE v (
vChk x0 fun x4 =>
ldA x4 take1 s fun x5 s =>
bEqT x5 (cj 0) fun x6 =>
jn (fun _ s =>
K (.tup []) s) fun K7 =>
cnd x6 (lgE (qLdE x1 1) (ldA x1 take1) s fun x8 e9 s =>
lgE qNoE (zK x8) s fun x10 e11 s =>
lgE (qGE x10 true qNoE) (zG x10 true (zK x0)) s fun x12 e13 s =>
lgE (qGE x10 true qNoE) (zG x10 true (zV (vChk x12))) s fun x14 e15 s =>
lgE (qGE x10 true (qLdE x14 1)) (zG x10 true (ldA x14 take1)) s fun x16 e17 s =>
lgE (qGE x10 true qNoE) (zG x10 true (zV (vCv .i64 x16))) s fun x18 e19 s =>
lgE (qGE x10 true (qLdE x2 1)) (zG x10 true (ldA x2 take1)) s fun x20 e21 s =>
lgE (qGE x10 true qNoE) (zG x10 true (zV (bGt x18 x20))) s fun x22 e23 s =>
lgE qNoE (zV (vPick x10 x22 cf)) s fun x24 e25 s =>
lgE qNoE (zSt x1 x24 1) s fun _ e27 s =>
calmE [(4, 6), (5, 6)] [e9, e11, e13, e15, e17, e19, e21, e23, e25, e27] (fun s =>
lgE qNoE (zK x0) s fun x28 e29 s =>
lgE qNoE (zV (vChk x28)) s fun x30 e31 s =>
lgE (qLdE x30 1) (ldA x30 take1) s fun x32 e33 s =>
lgE (qLdE x3 1) (ldA x3 take1) s fun x34 e35 s =>
lgE qNoE (zV (vCv .i32 x34)) s fun x36 e37 s =>
lgE qNoE (zV (bAdd x32 x36)) s fun x38 e39 s =>
lgE qNoE (zV (vChk x28)) s fun x40 e41 s =>
lgE qNoE (zSt x40 x38 1) s fun _ e43 s =>
calmE [(2, 3), (2, 4)] [e29, e31, e33, e35, e37, e39, e41, e43] (fun s =>
K7 [] s) s) s)
(K7 [] s))
def F91 : F2 := .fn H91 true
theorem fe91 : feE Tryz.prog ann 91 4 [.j []] = some F91 := by kernel_rfl
/- (*daguerre/vm.Machine).move -/
def H104 : F2C := fun c _ v s K =>
pop v fun x0 v =>
pop v fun x1 v =>
pop v fun x2 v =>
endE v (
zTbox x2 s fun x3 s =>
zBsl [.int .i64 0, .int .i64 0, .int .i64 0, .int .i64 0, .int .i64 0, .int .i64 0, .int .i64 0, .int .i64 0] 1 8 (eCons 4 1 (ci 1) (eCons 5 1 (ci 1) (eCons 6 1 (ci 1) (eCons 7 1 (ci 2) eNil)))) s fun x4 s =>
fa1 x3 0 fun x5 =>
ldA x5 take1 s fun x6 s =>
vLenS x4 fun x7 =>
bLt x6 x7 fun x8 =>
cnd x8 (fa1 x3 0 fun x9 =>
ldA x9 take1 s fun x10 s =>
vIaS x4 x10 1 fun x11 =>
ldA x11 take1 s fun x12 s =>
c (.mk .d0 .d2 .d5 .d7) [x0, x1, x12] s fun x13 s =>
vExt x13 0 fun _ =>
vExt x13 1 fun x15 =>
vGen (.un .not (.c x15)) fun x16 =>
cnd x16 (none)
(fa1 x3 0 fun x17 =>
ldA x17 take1 s fun x18 s =>
jn (fun _ s =>
K (.tup []) s) fun K19 =>
bEqF x18 (ci 1) fun x20 =>
cnd x20 (fa1 x3 1 fun x21 =>
ldA x21 take1 s fun x22 s =>
vCv .i32 x22 fun x23 =>
c (.mk .d0 .d2 .d5 .d5) [x23] s fun x24 s =>
zBsl [.bool false, .int .i32 0] 2 1 (eCons 0 2 x24 eNil) s fun x25 s =>
c (.mk .d0 .d2 .d5 .d4) [x1, x0, (ci 0), x25] s fun _ s =>
K19 [] s)
(none)))
(none))
def F104 : F2 := .fn H104 true
theorem fe104 : feE Tryz.prog ann 104 3 [.cr, .cl, .j [], .cr] = some F104 := by kernel_rfl
/- (*daguerre/vm.Machine).ret -/
def H113 : F2C := fun c _ v s K =>
pop v fun x0 v =>
pop v fun x1 v =>
pop v fun x2 v =>
endE v (
zTbox x2 s fun x3 s =>
lgE qNoE (zK x1) s fun x4 e5 s =>
lgE qNoE (zV (vChk x4)) s fun x6 e7 s =>
lgE qNoE (zV (fa1 x6 1)) s fun x8 e9 s =>
lgE qNoE (zV (fa1 x8 3)) s fun x10 e11 s =>
lgE (qLdE x10 1) (ldA x10 take1) s fun x12 e13 s =>
lgE qNoE (zV (fa1 x3 0)) s fun x14 e15 s =>
lgE (qLdE x14 1) (ldA x14 take1) s fun x16 e17 s =>
lgE qNoE (zV (bEqT x16 (ci 46))) s fun x18 e19 s =>
lgE qNoE (zV (vBeq true x12 x18)) s fun x20 e21 s =>
calmE [(4, 6)] [e5, e7, e9, e11, e13, e15, e17, e19, e21] (fun s =>
cnd x20 (none)
(fa1 x3 0 fun x22 =>
ldA x22 take1 s fun x23 s =>
bEqF x23 (ci 46) fun x24 =>
cnd x24 (c (.mk .d0 .d2 .d6 .d7) [x0, x1, (.nil .sl)] s fun _ s =>
K (.tup []) s)
(none))) s)
def F113 : F2 := .fn H113 true
theorem fe113 : feE Tryz.prog ann 113 3 [.cl, .cr, .ch] = some F113 := by kernel_rfl
/- (*daguerre/vm.Machine).hears -/
def H119 : F2C := fun c _ v s K =>
pop v fun x0 v =>
pop v fun x1 v =>
pop v fun x2 v =>
endE v (
zTbox x2 s fun _ s =>
vChk x0 fun x4 =>
fa1 x4 12 fun x5 =>
ldA x5 take1 s fun x6 s =>
vLenS x6 fun x7 =>
bGt x7 (ci 0) fun x8 =>
jn (fun v s =>
pop v fun x10 _ =>
c (.mk .d0 .d2 .d5 .d5) [x10] s fun x11 s =>
zBsl [.bool false, .int .i32 0] 2 1 (eCons 0 2 x11 eNil) s fun x12 s =>
c (.mk .d0 .d2 .d5 .d4) [x1, x0, (ci 0), x12] s fun _ s =>
K (.tup []) s) fun K9 =>
cnd x8 (lgE qNoE (zK x0) s fun x14 e15 s =>
lgE qNoE (zK x0) s fun x16 e17 s =>
lgE qNoE (zV (vChk x16)) s fun x18 e19 s =>
lgE qNoE (zV (fa1 x18 12)) s fun x20 e21 s =>
lgE (qLdE x20 1) (ldA x20 take1) s fun x22 e23 s =>
lgE qNoE (zV (vIaS x22 (ci 0) 1)) s fun x24 e25 s =>
lgE (qLdE x24 1) (ldA x24 take1) s fun x26 e27 s =>
lgE qNoE (zK x0) s fun x28 e29 s =>
lgE qNoE (zV (vChk x28)) s fun x30 e31 s =>
lgE qNoE (zV (fa1 x30 12)) s fun x32 e33 s =>
lgE (qLdE x32 1) (ldA x32 take1) s fun x34 e35 s =>
lgE qNoE (zV (vSlt x34 (eX (ci 1)) eN 1)) s fun x36 e37 s =>
lgE qNoE (zK x26) s fun x38 e39 s =>
lgE qNoE (zV (vChk x14)) s fun x40 e41 s =>
lgE qNoE (zV (fa1 x40 12)) s fun x42 e43 s =>
lgE qNoE (zSt x42 x36 1) s fun _ e45 s =>
calmE [(4, 10), (6, 10), (4, 11), (6, 11)] [e15, e17, e19, e21, e23, e25, e27, e29, e31, e33, e35, e37, e39, e41, e43, e45] (fun s =>
K9 [x38] s) s)
(K9 [(.int .i32 (-1))] s))
def F119 : F2 := .fn H119 true
theorem fe119 : feE Tryz.prog ann 119 3 [.j [6]] = some F119 := by kernel_rfl
/- (*daguerre/vm.Machine).tells -/
def H120 : F2C := fun c _ v s K =>
pop v fun x0 v =>
pop v fun x1 v =>
pop v fun x2 v =>
endE v (
zTbox x2 s fun _ s =>
zBsl [.bool false] 1 1 (eCons 0 1 cf eNil) s fun x4 s =>
c (.mk .d0 .d2 .d5 .d3) [x0, x1, x4] s fun x5 s =>
vExt x5 0 fun x6 =>
vExt x5 1 fun x7 =>
cnd x7 (lgE qNoE (zK x0) s fun x8 e9 s =>
lgE qNoE (zK x0) s fun x10 e11 s =>
lgE qNoE (zV (vChk x10)) s fun x12 e13 s =>
lgE qNoE (zV (fa1 x12 16)) s fun x14 e15 s =>
lgE qNoE (zV (fa1 x14 0)) s fun x16 e17 s =>
lgE (qLdE x16 1) (ldA x16 take1) s fun x18 e19 s =>
lgE qNoE (zK x6) s fun x20 e21 s =>
lgE qNoE (zV (vIaS x20 (ci 0) 2)) s fun x22 e23 s =>
lgE qNoE (zV (fa1 x22 1)) s fun x24 e25 s =>
lgE (qLdE x24 1) (ldA x24 take1) s fun x26 e27 s =>
lgE qNoE (zBsl [.int .i32 0] 1 1 (eCons 0 1 x26 eNil)) s fun x28 e29 s =>
lgE qNoE (appB 1 4 x18 x28) s fun x30 e31 s =>
lgE qNoE (zV (vChk x8)) s fun x32 e33 s =>
lgE qNoE (zV (fa1 x32 16)) s fun x34 e35 s =>
lgE qNoE (zV (fa1 x34 0)) s fun x36 e37 s =>
lgE qNoE (zSt x36 x30 1) s fun _ e39 s =>
calmE [(5, 9), (5, 10)] [e9, e11, e13, e15, e17, e19, e21, e23, e25, e27, e29, e31, e33, e35, e37, e39] (fun s =>
c (.mk .d0 .d2 .d5 .d4) [x1, x0, (ci 1), (.nil .sl)] s fun _ s =>
K (.tup []) s) s)
(none))
def F120 : F2 := .fn H120 true
theorem fe120 : feE Tryz.prog ann 120 3 [.cr] = some F120 := by kernel_rfl
/- (*daguerre/vm.Machine).exit -/
def H121 : F2C := fun c _ v s K =>
pop v fun x0 v =>
pop v fun x1 v =>
pop v fun x2 v =>
endE v (
zTbox x2 s fun _ s =>
zBsl [.bool false] 1 1 (eCons 0 1 cf eNil) s fun x4 s =>
c (.mk .d0 .d2 .d5 .d3) [x0, x1, x4] s fun x5 s =>
vExt x5 0 fun x6 =>
vExt x5 1 fun x7 =>
cnd x7 (vIaS x6 (ci 0) 2 fun x8 =>
fa1 x8 1 fun x9 =>
ldA x9 take1 s fun x10 s =>
vChk x0 fun x11 =>
fa1 x11 16 fun x12 =>
fa1 x12 2 fun x13 =>
zSt x13 x10 1 s fun _ s =>
c (.mk .d0 .d1 .d7 .d4) [x0, (ci 1)] s fun _ s =>
K (.tup []) s)
(none))
def F121 : F2 := .fn H121 true
theorem fe121 : feE Tryz.prog ann 121 3 [.cr] = some F121 := by kernel_rfl
/- daguerre/heap.New -/
def H122 : F2C := fun _ _ v s K =>
pop v fun x0 v =>
endE v (
vGen (.mnx true [(.c x0), (.c (ci 0))]) fun x1 =>
vGen (.mnx false [(.c x1), (.c (ci 1048576))]) fun x2 =>
vBld [.int .i64 0, .nil .sl, .nil .sl] (eCons 0 1 x2 eNil) fun x3 =>
zBox true x3 s fun x4 s =>
K x4 s)
def F122 : F2 := .fn H122 true
theorem fe122 : feE Tryz.prog ann 122 1 [] = some F122 := by kernel_rfl
/- daguerre/heap.may -/
def H123 : F2C := fun _ _ v s K =>
pop v fun x0 v =>
pop v fun x1 v =>
endE v (
bGe x0 (ci 0) fun x2 =>
gK x2 true x0 fun x3 =>
gV x2 true (bLe x3 (ci 10000)) fun x4 =>
vPick x2 x4 cf fun x5 =>
gK x5 true x1 fun x6 =>
gV x5 true (bGe x6 (ci 0)) fun x7 =>
vPick x5 x7 cf fun x8 =>
gK x8 true x1 fun x9 =>
gV x8 true (bLe x9 (ci 1000)) fun x10 =>
vPick x8 x10 cf fun x11 =>
K x11 s)
def F123 : F2 := .fn H123 true
theorem fe123 : feE Tryz.prog ann 123 2 [] = some F123 := by kernel_rfl
/- daguerre/daguerrelaw25.begun -/
def H126 : F2C := fun c _ v s K =>
endE v (
c (.mk .d0 .d0 .d1 .d2) [] s fun x0 s =>
boxD false [.nil .sl, .nil .sl, .int .i64 0, .int .i64 0, .nil .sl, .nil .sl, .nil .sl, .nil .sl, .nil .sl] s fun x1 s =>
zSt x1 x0 9 s fun _ s =>
c (.mk .d0 .d0 .d1 .d2) [] s fun x3 s =>
boxD false [.nil .sl, .nil .sl, .int .i64 0, .int .i64 0, .nil .sl, .nil .sl, .nil .sl, .nil .sl, .nil .sl] s fun x4 s =>
zSt x4 x3 9 s fun _ s =>
fa1 x4 5 fun x6 =>
ldA x6 take1 s fun x7 s =>
vIaS x7 (ci 4) 1 fun x8 =>
zSt x8 (cj 2) 1 s fun _ s =>
c (.mk .d0 .d2 .d7 .d4) [] s fun x10 s =>
gH x10 true (ldA x1 (takeN 9)) s fun x11 s =>
gH x10 true (c (.mk .d0 .d0 .d3 .d4) [x11]) s fun x12 s =>
vPick x10 x12 cf fun x13 =>
gH x13 true (ldA x4 (takeN 9)) s fun x14 s =>
gH x13 true (c (.mk .d0 .d0 .d3 .d4) [x14]) s fun x15 s =>
gV x13 true (vGen (.un .not (.c x15))) fun x16 =>
vPick x13 x16 cf fun x17 =>
gV x17 true (vBld [.nil .sl, .nil .sl, .int .i64 0, .int .i64 0, .nil .sl, .nil .sl, .nil .sl, .nil .sl, .nil .sl] eNil) fun x18 =>
gH x17 true (c (.mk .d0 .d0 .d3 .d4) [x18]) s fun x19 s =>
gV x17 true (vGen (.un .not (.c x19))) fun x20 =>
vPick x17 x20 cf fun x21 =>
K x21 s)
def F126 : F2 := .pur H126 true mNo
theorem fe126 : feE Tryz.prog ann 126 0 [] = some F126 := by kernel_rfl
def M126 (k : Nat) : F2 := .pur H126 true (Bool.rec mNo (mVal (.bool true)) (Nat.ble 9 k))
/- daguerre/daguerreref25.eqInts -/
def H127 : F2C := fun _ k v s K =>
pop v fun x0 v =>
pop v fun x1 v =>
endE v (
vLenS x0 fun x2 =>
vLenS x1 fun x3 =>
bEqT x2 x3 fun x4 =>
cnd x4 (none)
(jn (fun _ s =>
K ct s) fun K5 =>
loopE k (fun K6 v s =>
pop v fun x7 _ =>
vLenS x0 fun x8 =>
bLt x7 x8 fun x9 =>
cnd x9 (jn (fun _ s =>
bAdd x7 (ci 1) fun x11 =>
K6 [x11] s) fun K10 =>
lgE qNoE (zK x0) s fun x12 e13 s =>
lgE qNoE (zK x7) s fun x14 e15 s =>
lgE qNoE (zV (vIaS x12 x14 1)) s fun x16 e17 s =>
lgE (qLdE x16 1) (ldA x16 take1) s fun x18 e19 s =>
lgE qNoE (zK x1) s fun x20 e21 s =>
lgE qNoE (zK x7) s fun x22 e23 s =>
lgE qNoE (zV (vIaS x20 x22 1)) s fun x24 e25 s =>
lgE (qLdE x24 1) (ldA x24 take1) s fun x26 e27 s =>
lgE qNoE (zV (bEqT x18 x26)) s fun x28 e29 s =>
calmE [(3, 7)] [e13, e15, e17, e19, e21, e23, e25, e27, e29] (fun s =>
cnd x28 (none)
(K10 [] s)) s)
(K5 [] s)) [(ci 0)] s))
def F127 : F2 := .fn H127 true
theorem fe127 : feE Tryz.prog ann 127 2 [.cl, .j [], .j [5], .j [], .j [], .cl] = some F127 := by kernel_rfl
/- daguerre/daguerreref25.eqWords -/
def H128 : F2C := fun _ k v s K =>
pop v fun x0 v =>
pop v fun x1 v =>
endE v (
vLenS x0 fun x2 =>
vLenS x1 fun x3 =>
bEqT x2 x3 fun x4 =>
cnd x4 (none)
(jn (fun _ s =>
K ct s) fun K5 =>
loopE k (fun K6 v s =>
pop v fun x7 _ =>
vLenS x0 fun x8 =>
bLt x7 x8 fun x9 =>
cnd x9 (jn (fun _ s =>
bAdd x7 (ci 1) fun x11 =>
K6 [x11] s) fun K10 =>
lgE qNoE (zK x0) s fun x12 e13 s =>
lgE qNoE (zK x7) s fun x14 e15 s =>
lgE qNoE (zV (vIaS x12 x14 1)) s fun x16 e17 s =>
lgE (qLdE x16 1) (ldA x16 take1) s fun x18 e19 s =>
lgE qNoE (zK x1) s fun x20 e21 s =>
lgE qNoE (zK x7) s fun x22 e23 s =>
lgE qNoE (zV (vIaS x20 x22 1)) s fun x24 e25 s =>
lgE (qLdE x24 1) (ldA x24 take1) s fun x26 e27 s =>
lgE qNoE (zV (bEqT x18 x26)) s fun x28 e29 s =>
calmE [(3, 7)] [e13, e15, e17, e19, e21, e23, e25, e27, e29] (fun s =>
cnd x28 (none)
(K10 [] s)) s)
(K5 [] s)) [(ci 0)] s))
def F128 : F2 := .fn H128 true
theorem fe128 : feE Tryz.prog ann 128 2 [.cl, .j [], .j [5], .j [], .j [], .cl] = some F128 := by kernel_rfl
/- daguerre/daguerreref25.eqTruths -/
def H129 : F2C := fun _ k v s K =>
pop v fun x0 v =>
pop v fun x1 v =>
endE v (
vLenS x0 fun x2 =>
vLenS x1 fun x3 =>
bEqT x2 x3 fun x4 =>
cnd x4 (none)
(jn (fun _ s =>
K ct s) fun K5 =>
loopE k (fun K6 v s =>
pop v fun x7 _ =>
vLenS x0 fun x8 =>
bLt x7 x8 fun x9 =>
cnd x9 (jn (fun _ s =>
bAdd x7 (ci 1) fun x11 =>
K6 [x11] s) fun K10 =>
lgE qNoE (zK x0) s fun x12 e13 s =>
lgE qNoE (zK x7) s fun x14 e15 s =>
lgE qNoE (zV (vIaS x12 x14 1)) s fun x16 e17 s =>
lgE (qLdE x16 1) (ldA x16 take1) s fun x18 e19 s =>
lgE qNoE (zK x1) s fun x20 e21 s =>
lgE qNoE (zK x7) s fun x22 e23 s =>
lgE qNoE (zV (vIaS x20 x22 1)) s fun x24 e25 s =>
lgE (qLdE x24 1) (ldA x24 take1) s fun x26 e27 s =>
lgE qNoE (zV (vBeq true x18 x26)) s fun x28 e29 s =>
calmE [(3, 7)] [e13, e15, e17, e19, e21, e23, e25, e27, e29] (fun s =>
cnd x28 (none)
(K10 [] s)) s)
(K5 [] s)) [(ci 0)] s))
def F129 : F2 := .fn H129 true
theorem fe129 : feE Tryz.prog ann 129 2 [.cl, .j [], .j [5], .j [], .j [], .cl] = some F129 := by kernel_rfl
/- daguerre/daguerreref25.eqClass -/
def H130 : F2C := fun c k v s K =>
pop v fun x0 v =>
pop v fun x1 v =>
endE v (
zTbox x0 s fun x2 s =>
zTbox x1 s fun x3 s =>
fa1 x2 0 fun x4 =>
ldA x4 take1 s fun x5 s =>
fa1 x3 0 fun x6 =>
ldA x6 take1 s fun x7 s =>
bEqT x5 x7 fun x8 =>
gV x8 false (fa1 x2 1) fun x9 =>
gH x8 false (ldA x9 take1) s fun x10 s =>
gV x8 false (fa1 x3 1) fun x11 =>
gH x8 false (ldA x11 take1) s fun x12 s =>
gV x8 false (bEqT x10 x12) fun x13 =>
vPick x8 ct x13 fun x14 =>
gV x14 false (fa1 x2 2) fun x15 =>
gH x14 false (ldA x15 take1) s fun x16 s =>
gV x14 false (fa1 x3 2) fun x17 =>
gH x14 false (ldA x17 take1) s fun x18 s =>
gV x14 false (bEqT x16 x18) fun x19 =>
vPick x14 ct x19 fun x20 =>
gV x20 false (fa1 x2 3) fun x21 =>
gH x20 false (ldA x21 take1) s fun x22 s =>
gV x20 false (fa1 x3 3) fun x23 =>
gH x20 false (ldA x23 take1) s fun x24 s =>
gH x20 false (c (.mk .d0 .d2 .d0 .d1) [x22, x24]) s fun x25 s =>
gV x20 false (vGen (.un .not (.c x25))) fun x26 =>
vPick x20 ct x26 fun x27 =>
gV x27 false (fa1 x2 4) fun x28 =>
gH x27 false (ldA x28 take1) s fun x29 s =>
gV x27 false (fa1 x3 4) fun x30 =>
gH x27 false (ldA x30 take1) s fun x31 s =>
gH x27 false (c (.mk .d0 .d1 .d7 .d7) [x29, x31]) s fun x32 s =>
gV x27 false (vGen (.un .not (.c x32))) fun x33 =>
vPick x27 ct x33 fun x34 =>
gV x34 false (fa1 x2 5) fun x35 =>
gH x34 false (ldA x35 take1) s fun x36 s =>
gV x34 false (fa1 x3 5) fun x37 =>
gH x34 false (ldA x37 take1) s fun x38 s =>
gH x34 false (c (.mk .d0 .d1 .d7 .d7) [x36, x38]) s fun x39 s =>
gV x34 false (vGen (.un .not (.c x39))) fun x40 =>
vPick x34 ct x40 fun x41 =>
gV x41 false (fa1 x2 6) fun x42 =>
gH x41 false (ldA x42 take1) s fun x43 s =>
gV x41 false (vLenS x43) fun x44 =>
gV x41 false (fa1 x3 6) fun x45 =>
gH x41 false (ldA x45 take1) s fun x46 s =>
gV x41 false (vLenS x46) fun x47 =>
gV x41 false (bEqT x44 x47) fun x48 =>
vPick x41 ct x48 fun x49 =>
gV x49 false (fa1 x2 7) fun x50 =>
gH x49 false (ldA x50 take1) s fun x51 s =>
gV x49 false (fa1 x3 7) fun x52 =>
gH x49 false (ldA x52 take1) s fun x53 s =>
gV x49 false (bEqT x51 x53) fun x54 =>
vPick x49 ct x54 fun x55 =>
gV x55 false (fa1 x2 8) fun x56 =>
gH x55 false (ldA x56 take1) s fun x57 s =>
gV x55 false (fa1 x3 8) fun x58 =>
gH x55 false (ldA x58 take1) s fun x59 s =>
gV x55 false (bEqT x57 x59) fun x60 =>
vPick x55 ct x60 fun x61 =>
gV x61 false (fa1 x2 9) fun x62 =>
gH x61 false (ldA x62 take1) s fun x63 s =>
gV x61 false (fa1 x3 9) fun x64 =>
gH x61 false (ldA x64 take1) s fun x65 s =>
gV x61 false (vBeq true x63 x65) fun x66 =>
vPick x61 ct x66 fun x67 =>
cnd x67 (none)
(jn (fun _ s =>
K ct s) fun K68 =>
loopE k (fun _ v s =>
pop v fun x70 _ =>
fa1 x2 6 fun x71 =>
ldA x71 take1 s fun x72 s =>
vLenS x72 fun x73 =>
bLt x70 x73 fun x74 =>
cnd x74 (none)
(K68 [] s)) [(ci 0)] s))
def F130 : F2 := .fn H130 true
theorem fe130 : feE Tryz.prog ann 130 2 [.cl, .j [], .j [5], .cl, .j [], .ch] = some F130 := by kernel_rfl
/- daguerre/daguerreref21.EqMethod -/
def H131 : F2C := fun _ k v s K =>
pop v fun x0 v =>
pop v fun x1 v =>
endE v (
zTbox x0 s fun x2 s =>
zTbox x1 s fun x3 s =>
fa1 x2 0 fun x4 =>
ldA x4 take1 s fun x5 s =>
fa1 x3 0 fun x6 =>
ldA x6 take1 s fun x7 s =>
bEqT x5 x7 fun x8 =>
gV x8 false (fa1 x2 1) fun x9 =>
gH x8 false (ldA x9 take1) s fun x10 s =>
gV x8 false (fa1 x3 1) fun x11 =>
gH x8 false (ldA x11 take1) s fun x12 s =>
gV x8 false (bEqT x10 x12) fun x13 =>
vPick x8 ct x13 fun x14 =>
gV x14 false (fa1 x2 2) fun x15 =>
gH x14 false (ldA x15 take1) s fun x16 s =>
gV x14 false (fa1 x3 2) fun x17 =>
gH x14 false (ldA x17 take1) s fun x18 s =>
gV x14 false (bEqT x16 x18) fun x19 =>
vPick x14 ct x19 fun x20 =>
gV x20 false (fa1 x2 3) fun x21 =>
gH x20 false (ldA x21 take1) s fun x22 s =>
gV x20 false (fa1 x3 3) fun x23 =>
gH x20 false (ldA x23 take1) s fun x24 s =>
gV x20 false (vBeq true x22 x24) fun x25 =>
vPick x20 ct x25 fun x26 =>
gV x26 false (fa1 x2 4) fun x27 =>
gH x26 false (ldA x27 take1) s fun x28 s =>
gV x26 false (vLenS x28) fun x29 =>
gV x26 false (fa1 x3 4) fun x30 =>
gH x26 false (ldA x30 take1) s fun x31 s =>
gV x26 false (vLenS x31) fun x32 =>
gV x26 false (bEqT x29 x32) fun x33 =>
vPick x26 ct x33 fun x34 =>
gV x34 false (fa1 x2 5) fun x35 =>
gH x34 false (ldA x35 take1) s fun x36 s =>
gV x34 false (vLenS x36) fun x37 =>
gV x34 false (fa1 x3 5) fun x38 =>
gH x34 false (ldA x38 take1) s fun x39 s =>
gV x34 false (vLenS x39) fun x40 =>
gV x34 false (bEqT x37 x40) fun x41 =>
vPick x34 ct x41 fun x42 =>
cnd x42 (none)
(jn (fun _ s =>
jn (fun _ s =>
K ct s) fun K44 =>
loopE k (fun _ v s =>
pop v fun x46 _ =>
fa1 x2 5 fun x47 =>
ldA x47 take1 s fun x48 s =>
vLenS x48 fun x49 =>
bLt x46 x49 fun x50 =>
cnd x50 (none)
(K44 [] s)) [(ci 0)] s) fun K43 =>
loopE k (fun K51 v s =>
pop v fun x52 _ =>
fa1 x2 4 fun x53 =>
ldA x53 take1 s fun x54 s =>
vLenS x54 fun x55 =>
bLt x52 x55 fun x56 =>
cnd x56 (jn (fun _ s =>
bAdd x52 (ci 1) fun x58 =>
K51 [x58] s) fun K57 =>
lgE qNoE (zV (fa1 x2 4)) s fun x59 e60 s =>
lgE (qLdE x59 1) (ldA x59 take1) s fun x61 e62 s =>
lgE qNoE (zK x52) s fun x63 e64 s =>
lgE qNoE (zV (vIaS x61 x63 4)) s fun x65 e66 s =>
lgE (qLdE x65 4) (ldA x65 (takeN 4)) s fun x67 e68 s =>
lgE qNoE (zV (fa1 x3 4)) s fun x69 e70 s =>
lgE (qLdE x69 1) (ldA x69 take1) s fun x71 e72 s =>
lgE qNoE (zK x52) s fun x73 e74 s =>
lgE qNoE (zV (vIaS x71 x73 4)) s fun x75 e76 s =>
lgE (qLdE x75 4) (ldA x75 (takeN 4)) s fun x77 e78 s =>
lgE qNoE (boxD false [.int .i64 0, .int .i64 0, .int .i64 0, .int .i64 0]) s fun x79 e80 s =>
lgE qNoE (boxD false [.int .i64 0, .int .i64 0, .int .i64 0, .int .i64 0]) s fun x81 e82 s =>
lgE qNoE (zSt x79 x67 4) s fun _ e84 s =>
lgE qNoE (zSt x81 x77 4) s fun _ e86 s =>
calmE [(1, 6), (4, 6), (1, 9), (4, 9), (1, 10), (4, 10), (6, 10), (9, 10), (1, 11), (4, 11), (6, 11), (9, 11), (10, 11), (6, 12), (9, 12)] [e60, e62, e64, e66, e68, e70, e72, e74, e76, e78, e80, e82, e84, e86] (fun s =>
fa1 x79 0 fun x87 =>
ldA x87 take1 s fun x88 s =>
fa1 x81 0 fun x89 =>
ldA x89 take1 s fun x90 s =>
bEqT x88 x90 fun x91 =>
gV x91 false (fa1 x79 1) fun x92 =>
gH x91 false (ldA x92 take1) s fun x93 s =>
gV x91 false (fa1 x81 1) fun x94 =>
gH x91 false (ldA x94 take1) s fun x95 s =>
gV x91 false (bEqT x93 x95) fun x96 =>
vPick x91 ct x96 fun x97 =>
gV x97 false (fa1 x79 2) fun x98 =>
gH x97 false (ldA x98 take1) s fun x99 s =>
gV x97 false (fa1 x81 2) fun x100 =>
gH x97 false (ldA x100 take1) s fun x101 s =>
gV x97 false (bEqT x99 x101) fun x102 =>
vPick x97 ct x102 fun x103 =>
gV x103 false (fa1 x79 3) fun x104 =>
gH x103 false (ldA x104 take1) s fun x105 s =>
gV x103 false (fa1 x81 3) fun x106 =>
gH x103 false (ldA x106 take1) s fun x107 s =>
gV x103 false (bEqT x105 x107) fun x108 =>
vPick x103 ct x108 fun x109 =>
cnd x109 (none)
(K57 [] s)) s)
(K43 [] s)) [(ci 0)] s))
def F131 : F2 := .fn H131 true
theorem fe131 : feE Tryz.prog ann 131 2 [.cl, .j [], .j [5], .j [], .j [], .cl, .j [], .j [8], .cl, .j [], .ch] = some F131 := by kernel_rfl
/- daguerre/ints.divided -/
def H132 : F2C := fun c _ v s K =>
pop v fun x0 v =>
pop v fun x1 v =>
pop v fun x2 v =>
endE v (
jn (fun _ s =>
c .rem [x1, x2, (ci 29)] s fun x4 s =>
K (.tup [x4, ct]) s) fun _ =>
bEqF x2 (cj 0) fun x5 =>
cnd x5 (K (.tup [(cj 0), cf]) s)
(bEqF x0 (ci 11) fun x6 =>
gK x6 true x2 fun x7 =>
gV x6 true (bEqF x7 (.int .i32 (-1))) fun x8 =>
vPick x6 x8 cf fun x9 =>
cnd x9 (vGen (.un .neg (.c x1)) fun x10 =>
K (.tup [x10, ct]) s)
(none)))
def F132 : F2 := .fn H132 true
theorem fe132 : feE Tryz.prog ann 132 3 [.j [], .j [], .cr] = some F132 := by kernel_rfl
/- (*daguerre/frame.Frame).has -/
def H133 : F2C := fun _ _ v s K =>
pop v fun x0 v =>
pop v fun x1 v =>
endE v (
vNil true .ptr x0 fun x2 =>
gK x2 true x1 fun x3 =>
gV x2 true (bGe x3 (ci 0)) fun x4 =>
vPick x2 x4 cf fun x5 =>
gK x5 true x1 fun x6 =>
gK x5 true x0 fun x7 =>
gV x5 true (vChk x7) fun x8 =>
gV x5 true (fa1 x8 3) fun x9 =>
gH x5 true (ldA x9 take1) s fun x10 s =>
gV x5 true (vLenS x10) fun x11 =>
gV x5 true (bLt x6 x11) fun x12 =>
vPick x5 x12 cf fun x13 =>
K x13 s)
def F133 : F2 := .fn H133 true
theorem fe133 : feE Tryz.prog ann 133 2 [] = some F133 := by kernel_rfl
/- (*daguerre/frame.Frame).each -/
def H134 : F2C := fun _ k v s K =>
pop v fun x0 v =>
endE v (
vNil false .ptr x0 fun x1 =>
cnd x1 (none)
(lgE qNoE (zK x0) s fun x2 e3 s =>
lgE qNoE (zV (vChk x2)) s fun x4 e5 s =>
lgE qNoE (zV (fa1 x4 3)) s fun x6 e7 s =>
lgE (qLdE x6 1) (ldA x6 take1) s fun x8 e9 s =>
lgE qNoE (zK x0) s fun x10 e11 s =>
lgE qNoE (zV (vChk x10)) s fun x12 e13 s =>
lgE qNoE (zV (fa1 x12 4)) s fun x14 e15 s =>
lgE (qLdE x14 1) (ldA x14 take1) s fun x16 e17 s =>
lgE qNoE (zV (vBld [.nil .sl, .nil .sl] (eCons 0 1 x8 (eCons 1 1 x16 eNil)))) s fun x18 e19 s =>
lgE qNoE (zK (ci 0)) s fun x20 e21 s =>
calmE [(3, 7)] [e3, e5, e7, e9, e11, e13, e15, e17, e19, e21] (fun s =>
jn (fun v s =>
pop v fun x23 _ =>
K x23 s) fun K22 =>
loopE k (fun K24 v s =>
pop v fun x25 v =>
pop v fun x26 _ =>
bLt x25 (ci 2) fun x27 =>
cnd x27 (jn (fun v s =>
pop v fun x29 _ =>
bAdd x25 (ci 1) fun x30 =>
K24 [x30, x29] s) fun K28 =>
vGen (.ixa (.c x18) (.c x25) 2 1 none) fun x31 =>
vLenS x31 fun x32 =>
jn (fun v s =>
pop v fun x34 _ =>
K28 [x34] s) fun K33 =>
loopE k (fun K35 v s =>
pop v fun x36 v =>
pop v fun x37 _ =>
bLt x36 x32 fun x38 =>
cnd x38 (jn (fun v s =>
pop v fun x40 _ =>
bAdd x36 (ci 1) fun x41 =>
K35 [x41, x40] s) fun K39 =>
vIaS x31 x36 2 fun x42 =>
fa1 x42 0 fun x43 =>
ldA x43 take1 s fun x44 s =>
jn (fun v s =>
pop v fun x46 _ =>
K39 [x46] s) fun K45 =>
cnd x44 (vIaS x31 x36 2 fun x47 =>
zBsl [.nil .ptr] 1 1 (eCons 0 1 x47 eNil) s fun x48 s =>
appB 1 8 x37 x48 s fun x49 s =>
K45 [x49] s)
(K45 [x37] s))
(K33 [x37] s)) [(ci 0), x26] s)
(K22 [x26] s)) [x20, (.nil .sl)] s) s))
def F134 : F2 := .fn H134 true
theorem fe134 : feE Tryz.prog ann 134 1 [.cl, .j [3], .j [18, 3], .j [], .j [3], .j [3], .j [23, 3], .j [], .j [3], .j [3]] = some F134 := by kernel_rfl
/- slices.Clone[[]daguerre/frame.Val,daguerre/frame.Val] -/
def H135 : F2C := fun _ _ v s K =>
pop v fun x0 v =>
endE v (
vNil false .sl x0 fun x1 =>
cnd x1 (K (.nil .sl) s)
(zHbs [] 2 0 eNil s fun x2 s =>
appB 2 8 x2 x0 s fun x3 s =>
K x3 s))
def F135 : F2 := .fn H135 true
theorem fe135 : feE Tryz.prog ann 135 1 [.j []] = some F135 := by kernel_rfl
/- (*daguerre/heap.Heap).Size -/
def H136 : F2C := fun _ _ v s K =>
pop v fun x0 v =>
endE v (
vNil false .ptr x0 fun x1 =>
cnd x1 (none)
(vChk x0 fun x2 =>
fa1 x2 0 fun x3 =>
ldA x3 take1 s fun x4 s =>
K x4 s))
def F136 : F2 := .fn H136 true
theorem fe136 : feE Tryz.prog ann 136 1 [.cl] = some F136 := by kernel_rfl
/- (*daguerre/collect.copier).place -/
def H137 : F2C := fun c _ v s K =>
pop v fun x0 v =>
pop v fun x1 v =>
endE v (
vChk x0 fun x2 =>
fa1 x2 0 fun x3 =>
ldA x3 take1 s fun x4 s =>
c (.mk .d0 .d2 .d5 .d0) [x4, x1] s fun x5 s =>
vGen (.un .not (.c x5)) fun x6 =>
cnd x6 (none)
(vChk x0 fun x7 =>
fa1 x7 2 fun x8 =>
ldA x8 take1 s fun x9 s =>
zLku (.int .i64) (.int .i64 0) x9 x1 true s fun x10 s =>
vExt x10 0 fun _ =>
vExt x10 1 fun x12 =>
cnd x12 (none)
(lgE qNoE (zK x0) s fun x13 e14 s =>
lgE qNoE (zV (vChk x13)) s fun x15 e16 s =>
lgE qNoE (zV (fa1 x15 1)) s fun x17 e18 s =>
lgE (qLdE x17 1) (ldA x17 take1) s fun x19 e20 s =>
lgE qNoE (zK x0) s fun x21 e22 s =>
lgE qNoE (zV (vChk x21)) s fun x23 e24 s =>
lgE qNoE (zV (fa1 x23 0)) s fun x25 e26 s =>
lgE (qLdE x25 1) (ldA x25 take1) s fun x27 e28 s =>
lgE qNoE (zK x1) s fun x29 e30 s =>
lgE qNoE (c (.mk .d0 .d2 .d1 .d4) [x27, x29]) s fun x31 e32 s =>
lgE qNoE (zK x0) s fun x33 e34 s =>
lgE qNoE (zV (vChk x33)) s fun x35 e36 s =>
lgE qNoE (zV (fa1 x35 0)) s fun x37 e38 s =>
lgE (qLdE x37 1) (ldA x37 take1) s fun x39 e40 s =>
lgE qNoE (zK x1) s fun x41 e42 s =>
lgE qNoE (c (.mk .d0 .d2 .d1 .d2) [x39, x41]) s fun x43 e44 s =>
lgE qNoE (c (.mk .d0 .d2 .d7 .d5) [x19, x31, x43]) s fun x45 e46 s =>
lgE qNoE (zK x45) s fun x47 e48 s =>
lgE qNoE (zV (vExt x47 0)) s fun x49 e50 s =>
lgE qNoE (zV (vExt x47 1)) s fun x51 e52 s =>
lgE qNoE (zK x49) s fun x53 e54 s =>
lgE qNoE (zK x51) s fun _ e56 s =>
calmE [(3, 7), (3, 9), (3, 13), (7, 13), (9, 13), (3, 15)] [e14, e16, e18, e20, e22, e24, e26, e28, e30, e32, e34, e36, e38, e40, e42, e44, e46, e48, e50, e52, e54, e56] (fun s =>
vChk x0 fun x57 =>
fa1 x57 2 fun x58 =>
ldA x58 take1 s fun x59 s =>
zMup (.int .i64) x59 x1 x53 s fun _ s =>
vChk x0 fun x61 =>
fa1 x61 3 fun x62 =>
ldA x62 take1 s fun x63 s =>
zBsl [.int .i64 0] 1 1 (eCons 0 1 x1 eNil) s fun x64 s =>
appB 1 8 x63 x64 s fun x65 s =>
vChk x0 fun x66 =>
fa1 x66 3 fun x67 =>
zSt x67 x65 1 s fun _ s =>
K x53 s) s)))
def F137 : F2 := .fn H137 true
theorem fe137 : feE Tryz.prog ann 137 2 [.cl, .cl] = some F137 := by kernel_rfl
/- (*daguerre/heap.Heap).Len -/
def H138 : F2C := fun c _ v s K =>
pop v fun x0 v =>
pop v fun x1 v =>
endE v (
c (.mk .d0 .d2 .d5 .d0) [x0, x1] s fun x2 s =>
vGen (.un .not (.c x2)) fun x3 =>
cnd x3 (none)
(vChk x0 fun x4 =>
fa1 x4 1 fun x5 =>
ldA x5 take1 s fun x6 s =>
bAdd x1 (ci 1) fun x7 =>
vIaS x6 x7 1 fun x8 =>
ldA x8 take1 s fun x9 s =>
vCv .i64 x9 fun x10 =>
K x10 s))
def F138 : F2 := .fn H138 true
theorem fe138 : feE Tryz.prog ann 138 2 [.cl] = some F138 := by kernel_rfl
/- (*daguerre/heap.Heap).Get -/
def H139 : F2C := fun c _ v s K =>
pop v fun x0 v =>
pop v fun x1 v =>
pop v fun x2 v =>
endE v (
bLt x2 (ci 0) fun x3 =>
gK x3 false x2 fun x4 =>
gK x3 false x0 fun x5 =>
gK x3 false x1 fun x6 =>
gH x3 false (c (.mk .d0 .d2 .d1 .d2) [x5, x6]) s fun x7 s =>
gV x3 false (bGe x4 x7) fun x8 =>
vPick x3 ct x8 fun x9 =>
cnd x9 (none)
(vChk x0 fun x10 =>
fa1 x10 1 fun x11 =>
ldA x11 take1 s fun x12 s =>
bAdd x1 (ci 2) fun x13 =>
bAdd x13 x2 fun x14 =>
vIaS x12 x14 1 fun x15 =>
ldA x15 take1 s fun x16 s =>
K x16 s))
def F139 : F2 := .fn H139 true
theorem fe139 : feE Tryz.prog ann 139 3 [.cl] = some F139 := by kernel_rfl
/- (*daguerre/heap.Heap).Kind -/
def H140 : F2C := fun c _ v s K =>
pop v fun x0 v =>
pop v fun x1 v =>
endE v (
c (.mk .d0 .d2 .d5 .d0) [x0, x1] s fun x2 s =>
vGen (.un .not (.c x2)) fun x3 =>
cnd x3 (none)
(vChk x0 fun x4 =>
fa1 x4 1 fun x5 =>
ldA x5 take1 s fun x6 s =>
vIaS x6 x1 1 fun x7 =>
ldA x7 take1 s fun x8 s =>
vCv .i64 x8 fun x9 =>
K x9 s))
def F140 : F2 := .fn H140 true
theorem fe140 : feE Tryz.prog ann 140 2 [.cl] = some F140 := by kernel_rfl
/- (*daguerre/heap.Heap).Put -/
def H141 : F2C := fun c _ v s K =>
pop v fun x0 v =>
pop v fun x1 v =>
pop v fun x2 v =>
pop v fun x3 v =>
endE v (
bLt x2 (ci 0) fun x4 =>
gK x4 false x2 fun x5 =>
gK x4 false x0 fun x6 =>
gK x4 false x1 fun x7 =>
gH x4 false (c (.mk .d0 .d2 .d1 .d2) [x6, x7]) s fun x8 s =>
gV x4 false (bGe x5 x8) fun x9 =>
vPick x4 ct x9 fun x10 =>
cnd x10 (none)
(vChk x0 fun x11 =>
fa1 x11 1 fun x12 =>
ldA x12 take1 s fun x13 s =>
bAdd x1 (ci 2) fun x14 =>
bAdd x14 x2 fun x15 =>
vIaS x13 x15 1 fun x16 =>
zSt x16 x3 1 s fun _ s =>
K ct s))
def F141 : F2 := .fn H141 true
theorem fe141 : feE Tryz.prog ann 141 4 [.cl] = some F141 := by kernel_rfl
/- (*daguerre/image.reader).text -/
def H142 : F2C := fun c _ v s K =>
pop v fun x0 v =>
endE v (
vChk x0 fun x1 =>
fa1 x1 0 fun x2 =>
ldA x2 take1 s fun x3 s =>
c (.mk .d0 .d2 .d7 .d6) [x3] s fun x4 s =>
vExt x4 0 fun x5 =>
vExt x4 1 fun x6 =>
vExt x4 2 fun x7 =>
vChk x0 fun x8 =>
fa1 x8 1 fun x9 =>
ldA x9 take1 s fun x10 s =>
gK x10 false x7 fun x11 =>
gV x10 false (bEqT x11 (ci 0)) fun x12 =>
vPick x10 ct x12 fun x13 =>
vChk x0 fun x14 =>
fa1 x14 1 fun x15 =>
zSt x15 x13 1 s fun _ s =>
vChk x0 fun x17 =>
fa1 x17 1 fun x18 =>
ldA x18 take1 s fun x19 s =>
cnd x19 (none)
(vChk x0 fun x20 =>
fa1 x20 0 fun x21 =>
ldA x21 take1 s fun x22 s =>
vSlt x22 (eX x6) eN 1 fun x23 =>
vChk x0 fun x24 =>
fa1 x24 0 fun x25 =>
zSt x25 x23 1 s fun _ s =>
K x5 s))
def F142 : F2 := .fn H142 true
theorem fe142 : feE Tryz.prog ann 142 1 [.cl] = some F142 := by kernel_rfl
/- daguerre/image.read[[2]int] -/
def H143 : F2C := fun c k v s K =>
pop v fun x0 v =>
pop v fun _ v =>
endE v (
c (.mk .d0 .d1 .d1 .d3) [x0] s fun x2 s =>
jn (fun v s =>
pop v fun x4 _ =>
K x4 s) fun K3 =>
loopE k (fun _ v s =>
pop v fun x6 v =>
pop v fun x7 _ =>
bGt x6 (ci 0) fun x8 =>
gK x8 true x0 fun x9 =>
gV x8 true (vChk x9) fun x10 =>
gV x8 true (fa1 x10 1) fun x11 =>
gH x8 true (ldA x11 take1) s fun x12 s =>
gV x8 true (vGen (.un .not (.c x12))) fun x13 =>
vPick x8 x13 cf fun x14 =>
cnd x14 (none)
(K3 [x7] s)) [x2, (.nil .sl)] s)
def F143 : F2 := .fn H143 true
theorem fe143 : feE Tryz.prog ann 143 2 [.j [5], .j [6, 5], .cl, .j [5]] = some F143 := by kernel_rfl
/- (*daguerre/image.reader).ins -/
def H146 : F2C := fun c _ v s K =>
pop v fun x0 v =>
endE v (
boxD false [.int .i64 0, .int .i64 0, .int .i64 0, .int .i64 0] s fun x1 s =>
c (.mk .d0 .d1 .d1 .d3) [x0] s fun x2 s =>
c (.mk .d0 .d1 .d1 .d3) [x0] s fun x3 s =>
c (.mk .d0 .d1 .d1 .d3) [x0] s fun x4 s =>
c (.mk .d0 .d1 .d1 .d3) [x0] s fun x5 s =>
vBld [.int .i64 0, .int .i64 0, .int .i64 0, .int .i64 0] (eCons 0 1 x2 (eCons 1 1 x3 (eCons 2 1 x4 (eCons 3 1 x5 eNil)))) fun x6 =>
zSt x1 x6 4 s fun _ s =>
ldA x1 (takeN 4) s K)
def F146 : F2 := .fn H146 true
theorem fe146 : feE Tryz.prog ann 146 1 [] = some F146 := by kernel_rfl
/- daguerre/image.read[daguerre/api.RIns] -/
def H145 : F2C := fun c k v s K =>
pop v fun x0 v =>
pop v fun x1 v =>
endE v (
c (.mk .d0 .d1 .d1 .d3) [x0] s fun x2 s =>
jn (fun v s =>
pop v fun x4 _ =>
K x4 s) fun K3 =>
loopE k (fun K5 v s =>
pop v fun x6 v =>
pop v fun x7 _ =>
bGt x6 (ci 0) fun x8 =>
gK x8 true x0 fun x9 =>
gV x8 true (vChk x9) fun x10 =>
gV x8 true (fa1 x10 1) fun x11 =>
gH x8 true (ldA x11 take1) s fun x12 s =>
gV x8 true (vGen (.un .not (.c x12))) fun x13 =>
vPick x8 x13 cf fun x14 =>
cnd x14 (jn (fun v s =>
pop v fun x16 _ =>
bSub x6 (ci 1) fun x17 =>
K5 [x17, x16] s) fun K15 =>
zCallV c x1 [] s fun x18 s =>
zBsl [.int .i64 0, .int .i64 0, .int .i64 0, .int .i64 0] 4 1 (eCons 0 4 x18 eNil) s fun x19 s =>
appB 4 32 x7 x19 s fun x20 s =>
K15 [x20] s)
(K3 [x7] s)) [x2, (.nil .sl)] s)
def F145 : F2 := .fn H145 true
theorem fe145 : feE Tryz.prog ann 145 2 [.j [5], .j [6, 5], .j [], .j [5]] = some F145 := by kernel_rfl
/- daguerre/image.read[daguerre/api.RTrap] -/
def H147 : F2C := fun c k v s K =>
pop v fun x0 v =>
pop v fun _ v =>
endE v (
c (.mk .d0 .d1 .d1 .d3) [x0] s fun x2 s =>
jn (fun v s =>
pop v fun x4 _ =>
K x4 s) fun K3 =>
loopE k (fun _ v s =>
pop v fun x6 v =>
pop v fun x7 _ =>
bGt x6 (ci 0) fun x8 =>
gK x8 true x0 fun x9 =>
gV x8 true (vChk x9) fun x10 =>
gV x8 true (fa1 x10 1) fun x11 =>
gH x8 true (ldA x11 take1) s fun x12 s =>
gV x8 true (vGen (.un .not (.c x12))) fun x13 =>
vPick x8 x13 cf fun x14 =>
cnd x14 (none)
(K3 [x7] s)) [x2, (.nil .sl)] s)
def F147 : F2 := .fn H147 true
theorem fe147 : feE Tryz.prog ann 147 2 [.j [5], .j [6, 5], .cl, .j [5]] = some F147 := by kernel_rfl
/- daguerre/num.Get -/
def H149 : F2C := fun _ k v s K =>
pop v fun x0 v =>
endE v (
vLenS x0 fun x1 =>
jn (fun _ s =>
K (.tup [(ci 0), (ci 0), (ci 2)]) s) fun K2 =>
loopE k (fun K3 v s =>
pop v fun x4 v =>
pop v fun x5 _ =>
bLt x4 x1 fun x6 =>
cnd x6 (jn (fun v s =>
pop v fun x8 _ =>
bAdd x4 (ci 1) fun x9 =>
K3 [x9, x8] s) fun _ =>
vIaS x0 x4 1 fun x10 =>
ldA x10 take1 s fun x11 s =>
bEqF x4 (ci 9) fun x12 =>
gK x12 true x11 fun x13 =>
gV x12 true (bGt x13 (cu 1)) fun x14 =>
vPick x12 x14 cf fun x15 =>
cnd x15 (none)
(bAnd x11 (cu 127) fun x16 =>
vCv .u64 x16 fun x17 =>
bMul (ci 7) x4 fun x18 =>
bShl x17 x18 fun x19 =>
bOr x5 x19 fun x20 =>
bGt x11 (cu 127) fun x21 =>
cnd x21 (none)
(bGt x4 (ci 0) fun x22 =>
gK x22 true x11 fun x23 =>
gV x22 true (bEqF x23 (cu 0)) fun x24 =>
vPick x22 x24 cf fun x25 =>
cnd x25 (none)
(bShr x20 (.int .u64 1) fun x26 =>
vCv .i64 x26 fun x27 =>
bAnd x20 (.int .u64 1) fun x28 =>
bEqF x28 (.int .u64 1) fun x29 =>
jn (fun v s =>
pop v fun x31 _ =>
bAdd x4 (ci 1) fun x32 =>
K (.tup [x31, x32, (ci 0)]) s) fun K30 =>
cnd x29 (vGen (.un .xor (.c x27)) fun x33 =>
K30 [x33] s)
(K30 [x27] s)))))
(K2 [] s)) [(ci 0), (.int .u64 0)] s)
def F149 : F2 := .fn H149 true
theorem fe149 : feE Tryz.prog ann 149 1 [.j [], .j [11, 5], .j [], .j [5], .cl, .cl, .cl, .j [8]] = some F149 := by kernel_rfl
/- slices.Contains[[]int,int] -/
def H150 : F2C := fun c _ v s K =>
pop v fun x0 v =>
pop v fun x1 v =>
endE v (
c (.mk .d0 .d2 .d7 .d7) [x0, x1] s fun x2 s =>
bGe x2 (ci 0) fun x3 =>
K x3 s)
def F150 : F2 := .fn H150 true
theorem fe150 : feE Tryz.prog ann 150 2 [] = some F150 := by kernel_rfl
/- daguerre/hier.Given -/
def H151 : F2C := fun _ _ v s K =>
endE v (
zHbs [.str [], .str [], .str [], .str [], .str [], .str [], .str [], .str [], .str [], .str []] 1 10 (eCons 0 1 (.str [79, 98, 106, 101, 99, 116]) (eCons 1 1 (.str [84, 104, 114, 111, 119, 110]) (eCons 2 1 (.str [78, 117, 108, 108, 69, 114, 114]) (eCons 3 1 (.str [82, 97, 110, 103, 101, 69, 114, 114]) (eCons 4 1 (.str [77, 97, 116, 104, 69, 114, 114]) (eCons 5 1 (.str [67, 97, 115, 116, 69, 114, 114]) (eCons 6 1 (.str [83, 105, 122, 101, 69, 114, 114]) (eCons 7 1 (.str [83, 116, 111, 114, 101, 69, 114, 114]) (eCons 8 1 (.str [73, 110, 105, 116, 69, 114, 114]) (eCons 9 1 (.str [67, 108, 97, 115, 115, 69, 114, 114]) eNil)))))))))) s fun x0 s =>
K x0 s)
def F151 : F2 := .fn H151 true
theorem fe151 : feE Tryz.prog ann 151 0 [] = some F151 := by kernel_rfl
/- (daguerre/valid.asker).code -/
def H152 : F2C := fun c _ v s K =>
pop v fun x0 v =>
pop v fun x1 v =>
endE v (
zTbox x0 s fun x2 s =>
ldA x2 (takeN 9) s fun x3 s =>
c (.mk .d0 .d2 .d3 .d6) [x3, x1] s fun x4 s =>
gV x4 true (fa1 x2 0) fun x5 =>
gV x4 true (fa1 x5 1) fun x6 =>
gH x4 true (ldA x6 take1) s fun x7 s =>
gK x4 true x1 fun x8 =>
gV x4 true (vIaS x7 x8 6) fun x9 =>
gV x4 true (fa1 x9 4) fun x10 =>
gH x4 true (ldA x10 take1) s fun x11 s =>
gV x4 true (vLenS x11) fun x12 =>
gV x4 true (bGt x12 (ci 0)) fun x13 =>
vPick x4 x13 cf fun x14 =>
K x14 s)
def F152 : F2 := .fn H152 true
theorem fe152 : feE Tryz.prog ann 152 2 [] = some F152 := by kernel_rfl
/- daguerre/valid.all[int] -/
def H153 : F2C := fun c _ v s K =>
pop v fun x0 v =>
pop v fun x1 v =>
endE v (
zBox false x1 s fun x2 s =>
vGen (.mkf 193 [] [(.c x2)]) fun x3 =>
c (.mk .d0 .d3 .d0 .d0) [x0, x3] s fun x4 s =>
vGen (.un .not (.c x4)) fun x5 =>
K x5 s)
def F153 : F2 := .fn H153 true
theorem fe153 : feE Tryz.prog ann 153 2 [] = some F153 := by kernel_rfl
/- daguerre/valid.rises -/
def H154 : F2C := fun _ k v s K =>
pop v fun x0 v =>
endE v (
jn (fun _ s =>
K ct s) fun K1 =>
loopE k (fun _ v s =>
pop v fun x3 _ =>
vLenS x0 fun x4 =>
bLt x3 x4 fun x5 =>
cnd x5 (none)
(K1 [] s)) [(ci 1)] s)
def F154 : F2 := .fn H154 true
theorem fe154 : feE Tryz.prog ann 154 1 [.j [], .j [3], .cl, .j [], .ch] = some F154 := by kernel_rfl
/- daguerre/valid.all[[2]int] -/
def H156 : F2C := fun c _ v s K =>
pop v fun x0 v =>
pop v fun x1 v =>
endE v (
zBox false x1 s fun x2 s =>
vGen (.mkf 195 [] [(.c x2)]) fun x3 =>
c (.mk .d0 .d3 .d0 .d2) [x0, x3] s fun x4 s =>
vGen (.un .not (.c x4)) fun x5 =>
K x5 s)
def F156 : F2 := .fn H156 true
theorem fe156 : feE Tryz.prog ann 156 2 [] = some F156 := by kernel_rfl
/- daguerre/op.Ends -/
def H161 : F2C := fun _ _ v s K =>
pop v fun x0 v =>
endE v (
jn (fun _ s =>
K cf s) fun K1 =>
bEqF x0 (ci 20) fun x2 =>
cnd x2 (none)
(bEqF x0 (ci 46) fun x3 =>
jn (fun v s =>
pop v fun x5 _ =>
cnd x5 (K ct s)
(K1 [] s)) fun K4 =>
cnd x3 (K4 [x3] s)
(bEqF x0 (ci 47) fun x6 =>
cnd x6 (none)
(bEqF x0 (ci 48) fun x7 =>
cnd x7 (none)
(bEqF x0 (ci 58) fun x8 =>
cnd x8 (none)
(bEqF x0 (ci 61) fun x9 =>
K4 [x9] s))))))
def F161 : F2 := .fn H161 true
theorem fe161 : feE Tryz.prog ann 161 1 [.j [], .cl, .j [4], .cl, .cl, .cl, .j []] = some F161 := by kernel_rfl
/- daguerre/valid.all[daguerre/api.RTrap] -/
def H162 : F2C := fun c _ v s K =>
pop v fun x0 v =>
pop v fun x1 v =>
endE v (
zBox false x1 s fun x2 s =>
vGen (.mkf 198 [] [(.c x2)]) fun x3 =>
c (.mk .d0 .d3 .d0 .d5) [x0, x3] s fun x4 s =>
vGen (.un .not (.c x4)) fun x5 =>
K x5 s)
def F162 : F2 := .fn H162 true
theorem fe162 : feE Tryz.prog ann 162 2 [] = some F162 := by kernel_rfl
/- (daguerre/valid.asker).runs$2 -/
def H165 : F2C := fun c _ v s K =>
pop v fun x0 v =>
pop v fun x1 v =>
pop v fun x2 v =>
endE v (
zTbox x0 s fun x3 s =>
ldA x1 (takeN 9) s fun x4 s =>
ldA x2 (takeN 6) s fun x5 s =>
ldA x3 (takeN 4) s fun x6 s =>
c (.mk .d0 .d2 .d4 .d6) [x4, x5, x6] s fun x7 s =>
K x7 s)
def F165 : F2 := .fn H165 true
theorem fe165 : feE Tryz.prog ann 165 3 [] = some F165 := by kernel_rfl
/- daguerre/valid.all[daguerre/api.RIns] -/
def H164 : F2C := fun c _ v s K =>
pop v fun x0 v =>
pop v fun x1 v =>
endE v (
zBox false x1 s fun x2 s =>
vGen (.mkf 200 [] [(.c x2)]) fun x3 =>
c (.mk .d0 .d3 .d0 .d7) [x0, x3] s fun x4 s =>
vGen (.un .not (.c x4)) fun x5 =>
K x5 s)
def F164 : F2 := .fn H164 true
theorem fe164 : feE Tryz.prog ann 164 2 [] = some F164 := by kernel_rfl
/- daguerre/valid.all[daguerre/api.RMethod]$1 -/
def H160 : F2C := fun c _ v s K =>
pop v fun x0 v =>
pop v fun x1 v =>
endE v (
zTbox x0 s fun x2 s =>
ldA x1 take1 s fun x3 s =>
ldA x2 (takeN 6) s fun x4 s =>
zCallV c x3 [x4] s fun x5 s =>
vGen (.un .not (.c x5)) fun x6 =>
K x6 s)
def F160 : F2 := .fn H160 true
theorem fe160 : feE Tryz.prog ann 160 2 [] = some F160 := by kernel_rfl
/- slices.ContainsFunc[[]daguerre/api.RMethod,daguerre/api.RMethod] -/
def H159 : F2C := fun c _ v s K =>
pop v fun x0 v =>
pop v fun x1 v =>
endE v (
c (.mk .d0 .d3 .d0 .d4) [x0, x1] s fun x2 s =>
bGe x2 (ci 0) fun x3 =>
K x3 s)
def F159 : F2 := .fn H159 true
theorem fe159 : feE Tryz.prog ann 159 2 [] = some F159 := by kernel_rfl
/- (daguerre/valid.asker).heap$1 -/
def H167 : F2C := fun c _ v s K =>
pop v fun x0 v =>
pop v fun x1 v =>
endE v (
bEqF x0 (cj 0) fun x2 =>
gH x2 false (ldA x1 take1) s fun x3 s =>
gK x2 false x0 fun x4 =>
gV x2 false (vCv .i64 x4) fun x5 =>
gV x2 false (bSub x5 (ci 1)) fun x6 =>
gH x2 false (c (.mk .d0 .d2 .d5 .d0) [x3, x6]) s fun x7 s =>
vPick x2 ct x7 fun x8 =>
K x8 s)
def F167 : F2 := .fn H167 true
theorem fe167 : feE Tryz.prog ann 167 2 [] = some F167 := by kernel_rfl
/- slices.Equal[[]int,int] -/
def H169 : F2C := fun _ k v s K =>
pop v fun x0 v =>
pop v fun x1 v =>
endE v (
vLenS x0 fun x2 =>
vLenS x1 fun x3 =>
bEqT x2 x3 fun x4 =>
cnd x4 (none)
(vLenS x0 fun x5 =>
jn (fun _ s =>
K ct s) fun K6 =>
loopE k (fun K7 v s =>
pop v fun x8 _ =>
bLt x8 x5 fun x9 =>
cnd x9 (jn (fun _ s =>
bAdd x8 (ci 1) fun x11 =>
K7 [x11] s) fun K10 =>
lgE qNoE (zK x0) s fun x12 e13 s =>
lgE qNoE (zK x8) s fun x14 e15 s =>
lgE qNoE (zV (vIaS x12 x14 1)) s fun x16 e17 s =>
lgE (qLdE x16 1) (ldA x16 take1) s fun x18 e19 s =>
lgE qNoE (zK x1) s fun x20 e21 s =>
lgE qNoE (zK x8) s fun x22 e23 s =>
lgE qNoE (zV (vIaS x20 x22 1)) s fun x24 e25 s =>
lgE (qLdE x24 1) (ldA x24 take1) s fun x26 e27 s =>
lgE qNoE (zV (bEqT x18 x26)) s fun x28 e29 s =>
calmE [(3, 7)] [e13, e15, e17, e19, e21, e23, e25, e27, e29] (fun s =>
cnd x28 (none)
(K10 [] s)) s)
(K6 [] s)) [(ci 0)] s))
def F169 : F2 := .fn H169 true
theorem fe169 : feE Tryz.prog ann 169 2 [.cl, .j [], .j [13], .j [], .j [], .cl] = some F169 := by kernel_rfl
/- (daguerre/valid.asker).heap$2 -/
def H170 : F2C := fun c _ v s K =>
pop v fun x0 v =>
pop v fun x1 v =>
pop v fun x2 v =>
endE v (
lgE (qLdE x1 1) (ldA x1 take1) s fun x3 e4 s =>
lgE qNoE (zV (fa1 x2 0)) s fun x5 e6 s =>
lgE qNoE (zV (fa1 x5 5)) s fun x7 e8 s =>
lgE (qLdE x7 1) (ldA x7 take1) s fun x9 e10 s =>
lgE qNoE (zK x0) s fun x11 e12 s =>
lgE qNoE (zV (vIaS x9 x11 1)) s fun x13 e14 s =>
lgE (qLdE x13 1) (ldA x13 take1) s fun x15 e16 s =>
lgE qNoE (zCallV c x3 [x15]) s fun x17 e18 s =>
lgE qNoE (zK x17) s fun x19 e20 s =>
calmE [(0, 3), (0, 6)] [e4, e6, e8, e10, e12, e14, e16, e18, e20] (fun s =>
K x19 s) s)
def F170 : F2 := .fn H170 true
theorem fe170 : feE Tryz.prog ann 170 3 [] = some F170 := by kernel_rfl
/- (*daguerre/vm.Machine).any -/
def H175 : F2C := fun c _ v s K =>
pop v fun _ v =>
pop v fun x1 v =>
pop v fun x2 v =>
endE v (
vChk x1 fun x3 =>
fa1 x3 0 fun x4 =>
ldA x4 take1 s fun x5 s =>
c (.mk .d0 .d1 .d0 .d1) [x5, x2] s fun x6 s =>
vExt x6 0 fun x7 =>
vExt x6 1 fun x8 =>
vChk x1 fun x9 =>
fa1 x9 0 fun x10 =>
ldA x10 take1 s fun x11 s =>
c (.mk .d0 .d0 .d7 .d6) [x11, x7] s fun _ s =>
vGen (.un .not (.c x8)) fun x13 =>
cnd x13 (none)
(K (.tup [x7, x8]) s))
def F175 : F2 := .fn H175 true
theorem fe175 : feE Tryz.prog ann 175 3 [.cl] = some F175 := by kernel_rfl
/- daguerre/vm.number -/
def H173 : F2C := fun _ _ v s K =>
pop v fun x0 v =>
endE v (
boxD false [.bool false, .int .i32 0] s fun x1 s =>
vBld [.bool false, .int .i32 0] (eCons 1 1 x0 eNil) fun x2 =>
zSt x1 x2 2 s fun _ s =>
ldA x1 (takeN 2) s K)
def F173 : F2 := .fn H173 true
theorem fe173 : feE Tryz.prog ann 173 1 [] = some F173 := by kernel_rfl
/- (*daguerre/vm.act).swap -/
def H172 : F2C := fun c _ v s K =>
pop v fun x0 v =>
pop v fun _ v =>
pop v fun x2 v =>
pop v fun x3 v =>
endE v (
vChk x0 fun x4 =>
fa1 x4 0 fun x5 =>
ldA x5 take1 s fun x6 s =>
c (.mk .d0 .d1 .d0 .d1) [x6, x2] s fun x7 s =>
vExt x7 0 fun _ =>
vExt x7 1 fun x9 =>
vGen (.un .not (.c x9)) fun x10 =>
gK x10 false x0 fun x11 =>
gV x10 false (vChk x11) fun x12 =>
gV x10 false (fa1 x12 0) fun x13 =>
gH x10 false (ldA x13 take1) s fun x14 s =>
gK x10 false x3 fun x15 =>
gH x10 false (c (.mk .d0 .d0 .d7 .d6) [x14, x15]) s fun x16 s =>
gV x10 false (vGen (.un .not (.c x16))) fun x17 =>
vPick x10 ct x17 fun x18 =>
cnd x18 (none)
(lgE qNoE (zK x0) s fun x19 e20 s =>
lgE qNoE (zV (vChk x19)) s fun x21 e22 s =>
lgE qNoE (zV (fa1 x21 0)) s fun x23 e24 s =>
lgE (qLdE x23 1) (ldA x23 take1) s fun x25 e26 s =>
lgE qNoE (zK x0) s fun x27 e28 s =>
lgE qNoE (zV (vChk x27)) s fun x29 e30 s =>
lgE qNoE (zV (fa1 x29 0)) s fun x31 e32 s =>
lgE (qLdE x31 1) (ldA x31 take1) s fun x33 e34 s =>
lgE qNoE (c (.mk .d0 .d0 .d6 .d5) [x33]) s fun x35 e36 s =>
lgE qNoE (zV (bAdd x35 (ci 1))) s fun x37 e38 s =>
lgE qNoE (c (.mk .d0 .d2 .d5 .d6) [x25, x37]) s fun _ e40 s =>
calmE [(3, 7), (3, 8)] [e20, e22, e24, e26, e28, e30, e32, e34, e36, e38, e40] (fun s =>
K (.tup []) s) s))
def F172 : F2 := .fn H172 true
theorem fe172 : feE Tryz.prog ann 172 4 [.cl] = some F172 := by kernel_rfl
/- (*daguerre/vm.Machine).back -/
def H183 : F2C := fun c _ v s K =>
pop v fun x0 v =>
pop v fun _ v =>
pop v fun _ v =>
endE v (
lgE qNoE (zK x0) s fun x3 e4 s =>
lgE qNoE (zK x0) s fun x5 e6 s =>
lgE qNoE (zV (vChk x5)) s fun x7 e8 s =>
lgE qNoE (zV (fa1 x7 13)) s fun x9 e10 s =>
lgE (qLdE x9 1) (ldA x9 take1) s fun x11 e12 s =>
lgE qNoE (zK x0) s fun x13 e14 s =>
lgE qNoE (zV (vChk x13)) s fun x15 e16 s =>
lgE qNoE (zV (fa1 x15 13)) s fun x17 e18 s =>
lgE (qLdE x17 1) (ldA x17 take1) s fun x19 e20 s =>
lgE qNoE (zV (vLenS x19)) s fun x21 e22 s =>
lgE qNoE (zV (bSub x21 (ci 1))) s fun x23 e24 s =>
lgE qNoE (zV (vSlt x11 eN (eX x23) 1)) s fun x25 e26 s =>
lgE qNoE (zV (vChk x3)) s fun x27 e28 s =>
lgE qNoE (zV (fa1 x27 13)) s fun x29 e30 s =>
lgE qNoE (zSt x29 x25 1) s fun _ e32 s =>
calmE [(4, 8), (4, 9)] [e4, e6, e8, e10, e12, e14, e16, e18, e20, e22, e24, e26, e28, e30, e32] (fun s =>
jn (fun _ s =>
K (.tup []) s) fun K33 =>
vChk x0 fun x34 =>
fa1 x34 13 fun x35 =>
ldA x35 take1 s fun x36 s =>
vLenS x36 fun x37 =>
bEqF x37 (ci 0) fun x38 =>
cnd x38 (c (.mk .d0 .d1 .d7 .d4) [x0, (ci 1)] s fun _ s =>
K33 [] s)
(none)) s)
def F183 : F2 := .fn H183 true
theorem fe183 : feE Tryz.prog ann 183 3 [.j [], .cr] = some F183 := by kernel_rfl
/- (*daguerre/vm.Machine).peek -/
def H171 : F2C := fun c k v s K =>
pop v fun _ v =>
pop v fun x1 v =>
pop v fun x2 v =>
endE v (
vChk x1 fun x3 =>
fa1 x3 0 fun x4 =>
ldA x4 take1 s fun x5 s =>
vLenS x2 fun x6 =>
c (.mk .d0 .d1 .d0 .d1) [x5, x6] s fun x7 s =>
vExt x7 0 fun x8 =>
vExt x7 1 fun x9 =>
vChk x1 fun x10 =>
fa1 x10 0 fun x11 =>
ldA x11 take1 s fun x12 s =>
c (.mk .d0 .d0 .d7 .d6) [x12, x8] s fun _ s =>
vLenS x8 fun x14 =>
jn (fun v s =>
pop v fun x16 _ =>
vGen (.un .not (.c x16)) fun x17 =>
cnd x17 (none)
(K (.tup [x8, x16]) s)) fun K15 =>
loopE k (fun K18 v s =>
pop v fun x19 v =>
pop v fun x20 _ =>
bLt x19 x14 fun x21 =>
cnd x21 (jn (fun v s =>
pop v fun x23 _ =>
bAdd x19 (ci 1) fun x24 =>
K18 [x24, x23] s) fun K22 =>
lgE qNoE (zK x20) s fun x25 e26 s =>
lgE qNoE (zK x25) s fun x27 e28 s =>
lgE (qGE x27 true qNoE) (zG x27 true (zK x8)) s fun x29 e30 s =>
lgE (qGE x27 true qNoE) (zG x27 true (zK x19)) s fun x31 e32 s =>
lgE (qGE x27 true qNoE) (zG x27 true (zV (vIaS x29 x31 2))) s fun x33 e34 s =>
lgE (qGE x27 true qNoE) (zG x27 true (zV (fa1 x33 0))) s fun x35 e36 s =>
lgE (qGE x27 true (qLdE x35 1)) (zG x27 true (ldA x35 take1)) s fun x37 e38 s =>
lgE (qGE x27 true qNoE) (zG x27 true (zK x2)) s fun x39 e40 s =>
lgE (qGE x27 true qNoE) (zG x27 true (zK x19)) s fun x41 e42 s =>
lgE (qGE x27 true qNoE) (zG x27 true (zV (vIaS x39 x41 1))) s fun x43 e44 s =>
lgE (qGE x27 true (qLdE x43 1)) (zG x27 true (ldA x43 take1)) s fun x45 e46 s =>
lgE (qGE x27 true qNoE) (zG x27 true (zV (vBeq false x37 x45))) s fun x47 e48 s =>
lgE qNoE (zV (vPick x27 x47 cf)) s fun x49 e50 s =>
lgE qNoE (zK x49) s fun x51 e52 s =>
calmE [(6, 10)] [e26, e28, e30, e32, e34, e36, e38, e40, e42, e44, e46, e48, e50, e52] (fun s =>
K22 [x51] s) s)
(K15 [x20] s)) [(ci 0), x9] s)
def F171 : F2 := .fn H171 true
theorem fe171 : feE Tryz.prog ann 171 3 [.j [9], .j [29, 9], .j [], .j [9], .cl] = some F171 := by kernel_rfl
/- (*daguerre/vm.Machine).ends -/
def H124 : F2C := fun _ _ v s K =>
pop v fun x0 v =>
pop v fun x1 v =>
endE v (
vChk x0 fun x2 =>
fa1 x2 16 fun x3 =>
fa1 x3 1 fun x4 =>
zSt x4 x1 1 s fun _ s =>
K (.tup []) s)
def F124 : F2 := .fn H124 true
theorem fe124 : feE Tryz.prog ann 124 2 [] = some F124 := by kernel_rfl
/- daguerre/daguerrelaw24.Begun -/
def H188 : F2C := fun c _ v s K =>
endE v (
c (.mk .d0 .d3 .d1 .d7) [] s fun x0 s =>
K x0 s)
def F188 : F2 := .pur H188 true mNo
theorem fe188 : feE Tryz.prog ann 188 0 [] = some F188 := by kernel_rfl
def M188 (k : Nat) : F2 := .pur H188 true (Bool.rec mNo (mVal (.bool true)) (Nat.ble 8 k))
/- (*daguerre/heap.Heap).Has -/
def H168 : F2C := fun _ _ v s K =>
pop v fun x0 v =>
pop v fun x1 v =>
endE v (
vNil true .ptr x0 fun x2 =>
gK x2 true x1 fun x3 =>
gV x2 true (bGe x3 (ci 0)) fun x4 =>
vPick x2 x4 cf fun x5 =>
gK x5 true x1 fun x6 =>
gK x5 true x0 fun x7 =>
gV x5 true (vChk x7) fun x8 =>
gV x5 true (fa1 x8 1) fun x9 =>
gH x5 true (ldA x9 take1) s fun x10 s =>
gV x5 true (vLenS x10) fun x11 =>
gV x5 true (bLt x6 x11) fun x12 =>
vPick x5 x12 cf fun x13 =>
gK x13 true x0 fun x14 =>
gV x13 true (vChk x14) fun x15 =>
gV x13 true (fa1 x15 2) fun x16 =>
gH x13 true (ldA x16 take1) s fun x17 s =>
gK x13 true x1 fun x18 =>
gV x13 true (vIaS x17 x18 1) fun x19 =>
gH x13 true (ldA x19 take1) s fun x20 s =>
vPick x13 x20 cf fun x21 =>
K x21 s)
def F168 : F2 := .fn H168 true
theorem fe168 : feE Tryz.prog ann 168 2 [] = some F168 := by kernel_rfl
/- (*daguerre/heap.Heap).Make -/
def H189 : F2C := fun c _ v s K =>
pop v fun x0 v =>
pop v fun x1 v =>
pop v fun x2 v =>
endE v (
lgE qNoE (zK x0) s fun x3 e4 s =>
lgE qNoE (zV (vNil false .ptr x3)) s fun x5 e6 s =>
lgE qNoE (zK x5) s fun x7 e8 s =>
lgE (qGE x7 false qNoE) (zG x7 false (zK x1)) s fun x9 e10 s =>
lgE (qGE x7 false qNoE) (zG x7 false (zK x2)) s fun x11 e12 s =>
lgE (qGE x7 false qNoE) (zG x7 false (c (.mk .d0 .d1 .d7 .d3) [x9, x11])) s fun x13 e14 s =>
lgE (qGE x7 false qNoE) (zG x7 false (zV (vGen (.un .not (.c x13))))) s fun x15 e16 s =>
lgE qNoE (zV (vPick x7 ct x15)) s fun x17 e18 s =>
lgE qNoE (zK x17) s fun x19 e20 s =>
lgE (qGE x19 false qNoE) (zG x19 false (zK x2)) s fun x21 e22 s =>
lgE (qGE x19 false qNoE) (zG x19 false (zV (bAdd x21 (ci 2)))) s fun x23 e24 s =>
lgE (qGE x19 false qNoE) (zG x19 false (zK x0)) s fun x25 e26 s =>
lgE (qGE x19 false qNoE) (zG x19 false (zV (vChk x25))) s fun x27 e28 s =>
lgE (qGE x19 false qNoE) (zG x19 false (zV (fa1 x27 0))) s fun x29 e30 s =>
lgE (qGE x19 false (qLdE x29 1)) (zG x19 false (ldA x29 take1)) s fun x31 e32 s =>
lgE (qGE x19 false qNoE) (zG x19 false (zK x0)) s fun x33 e34 s =>
lgE (qGE x19 false qNoE) (zG x19 false (zV (vChk x33))) s fun x35 e36 s =>
lgE (qGE x19 false qNoE) (zG x19 false (zV (fa1 x35 1))) s fun x37 e38 s =>
lgE (qGE x19 false (qLdE x37 1)) (zG x19 false (ldA x37 take1)) s fun x39 e40 s =>
lgE (qGE x19 false qNoE) (zG x19 false (zV (vLenS x39))) s fun x41 e42 s =>
lgE (qGE x19 false qNoE) (zG x19 false (zV (bSub x31 x41))) s fun x43 e44 s =>
lgE (qGE x19 false qNoE) (zG x19 false (zV (bGt x23 x43))) s fun x45 e46 s =>
lgE qNoE (zV (vPick x19 ct x45)) s fun x47 e48 s =>
calmE [(14, 18), (14, 19)] [e4, e6, e8, e10, e12, e14, e16, e18, e20, e22, e24, e26, e28, e30, e32, e34, e36, e38, e40, e42, e44, e46, e48] (fun s =>
cnd x47 (K (.tup [(.int .i64 (-1)), cf]) s)
(vChk x0 fun x49 =>
fa1 x49 1 fun x50 =>
ldA x50 take1 s fun x51 s =>
vLenS x51 fun x52 =>
vChk x0 fun x53 =>
fa1 x53 1 fun x54 =>
ldA x54 take1 s fun x55 s =>
vCv .i32 x1 fun x56 =>
vCv .i32 x2 fun x57 =>
zBsl [.int .i32 0, .int .i32 0] 1 2 (eCons 0 1 x56 (eCons 1 1 x57 eNil)) s fun x58 s =>
appB 1 4 x55 x58 s fun x59 s =>
zApz 1 4 [.int .i32 0] x59 x2 s fun x60 s =>
vChk x0 fun x61 =>
fa1 x61 1 fun x62 =>
zSt x62 x60 1 s fun _ s =>
vChk x0 fun x64 =>
fa1 x64 2 fun x65 =>
ldA x65 take1 s fun x66 s =>
zBsl [.bool false] 1 1 (eCons 0 1 ct eNil) s fun x67 s =>
appB 1 1 x66 x67 s fun x68 s =>
bAdd x2 (ci 1) fun x69 =>
zApz 1 1 [.bool false] x68 x69 s fun x70 s =>
vChk x0 fun x71 =>
fa1 x71 2 fun x72 =>
zSt x72 x70 1 s fun _ s =>
K (.tup [x52, ct]) s)) s)
def F189 : F2 := .fn H189 true
theorem fe189 : feE Tryz.prog ann 189 3 [.j []] = some F189 := by kernel_rfl
/- daguerre/num.GetText -/
def H190 : F2C := fun c _ v s K =>
pop v fun x0 v =>
endE v (
c (.mk .d0 .d2 .d2 .d5) [x0] s fun x1 s =>
vExt x1 0 fun x2 =>
vExt x1 1 fun x3 =>
vExt x1 2 fun x4 =>
jn (fun _ s =>
bAdd x3 x2 fun x6 =>
vSlt x0 (eX x3) (eX x6) 1 fun x7 =>
b2sA x7 s fun x8 s =>
bAdd x3 x2 fun x9 =>
K (.tup [x8, x9, (ci 0)]) s) fun K5 =>
bEqT x4 (ci 0) fun x10 =>
cnd x10 (none)
(bLt x2 (ci 0) fun x11 =>
gK x11 false x2 fun x12 =>
gV x11 false (bGt x12 (ci 1048576)) fun x13 =>
vPick x11 ct x13 fun x14 =>
cnd x14 (none)
(vLenS x0 fun x15 =>
bSub x15 x3 fun x16 =>
bGt x2 x16 fun x17 =>
cnd x17 (none)
(K5 [] s))))
def F190 : F2 := .fn H190 true
theorem fe190 : feE Tryz.prog ann 190 1 [.j [], .cl, .cl, .cl] = some F190 := by kernel_rfl
/- slices.Index[[]int,int] -/
def H191 : F2C := fun _ k v s K =>
pop v fun x0 v =>
pop v fun x1 v =>
endE v (
vLenS x0 fun x2 =>
jn (fun _ s =>
K (.int .i64 (-1)) s) fun K3 =>
loopE k (fun K4 v s =>
pop v fun x5 _ =>
bLt x5 x2 fun x6 =>
cnd x6 (jn (fun _ s =>
bAdd x5 (ci 1) fun x8 =>
K4 [x8] s) fun K7 =>
vIaS x0 x5 1 fun x9 =>
ldA x9 take1 s fun x10 s =>
bEqF x1 x10 fun x11 =>
cnd x11 (K x5 s)
(K7 [] s))
(K3 [] s)) [(ci 0)] s)
def F191 : F2 := .fn H191 true
theorem fe191 : feE Tryz.prog ann 191 2 [.j [], .j [8], .j [], .j [], .j []] = some F191 := by kernel_rfl
/- (daguerre/valid.asker).method -/
def H158 : F2C := fun c _ v s K =>
pop v fun x0 v =>
pop v fun x1 v =>
endE v (
zTbox x0 s fun x2 s =>
fa1 x2 0 fun x3 =>
fa1 x3 1 fun x4 =>
ldA x4 take1 s fun x5 s =>
vLenS x5 fun x6 =>
bSub x6 (ci 1) fun x7 =>
c (.mk .d0 .d1 .d2 .d2) [x1, (ci 0), x7] s fun x8 s =>
K x8 s)
def F158 : F2 := .fn H158 true
theorem fe158 : feE Tryz.prog ann 158 2 [] = some F158 := by kernel_rfl
/- daguerre/valid.all[int]$1 -/
def H193 : F2C := fun c _ v s K =>
pop v fun x0 v =>
pop v fun x1 v =>
endE v (
ldA x1 take1 s fun x2 s =>
zCallV c x2 [x0] s fun x3 s =>
vGen (.un .not (.c x3)) fun x4 =>
K x4 s)
def F193 : F2 := .fn H193 true
theorem fe193 : feE Tryz.prog ann 193 2 [] = some F193 := by kernel_rfl
/- slices.ContainsFunc[[]int,int] -/
def H192 : F2C := fun c _ v s K =>
pop v fun x0 v =>
pop v fun x1 v =>
endE v (
c (.mk .d0 .d3 .d2 .d0) [x0, x1] s fun x2 s =>
bGe x2 (ci 0) fun x3 =>
K x3 s)
def F192 : F2 := .fn H192 true
theorem fe192 : feE Tryz.prog ann 192 2 [] = some F192 := by kernel_rfl
/- slices.ContainsFunc[[][2]int,[2]int] -/
def H194 : F2C := fun c _ v s K =>
pop v fun x0 v =>
pop v fun x1 v =>
endE v (
c (.mk .d0 .d3 .d2 .d1) [x0, x1] s fun x2 s =>
bGe x2 (ci 0) fun x3 =>
K x3 s)
def F194 : F2 := .fn H194 true
theorem fe194 : feE Tryz.prog ann 194 2 [] = some F194 := by kernel_rfl
/- slices.ContainsFunc[[]daguerre/api.RTrap,daguerre/api.RTrap] -/
def H197 : F2C := fun c _ v s K =>
pop v fun x0 v =>
pop v fun x1 v =>
endE v (
c (.mk .d0 .d3 .d1 .d4) [x0, x1] s fun x2 s =>
bGe x2 (ci 0) fun x3 =>
K x3 s)
def F197 : F2 := .fn H197 true
theorem fe197 : feE Tryz.prog ann 197 2 [] = some F197 := by kernel_rfl
/- (daguerre/valid.asker).ins -/
def H166 : F2C := fun c _ v s K =>
pop v fun x0 v =>
pop v fun x1 v =>
pop v fun x2 v =>
endE v (
zTbox x0 s fun x3 s =>
zTbox x1 s fun _ s =>
zTbox x2 s fun x5 s =>
fa1 x5 3 fun x6 =>
ldA x6 take1 s fun x7 s =>
bEqF x7 (.int .i64 (-1)) fun x8 =>
gH x8 false (ldA x3 (takeN 9)) s fun x9 s =>
gV x8 false (fa1 x5 3) fun x10 =>
gH x8 false (ldA x10 take1) s fun x11 s =>
gH x8 false (c (.mk .d0 .d1 .d2 .d6) [x9, x11]) s fun x12 s =>
vPick x8 ct x12 fun _ =>
jn (fun _ s =>
fa1 x5 0 fun x15 =>
ldA x15 take1 s fun x16 s =>
jn (fun _ s =>
K ct s) fun K17 =>
bEqF x16 (ci 3) fun x18 =>
cnd x18 (none)
(bEqF x16 (ci 4) fun x19 =>
cnd x19 (none)
(bEqF x16 (ci 37) fun x20 =>
cnd x20 (none)
(bEqF x16 (ci 38) fun x21 =>
cnd x21 (none)
(bEqF x16 (ci 39) fun x22 =>
cnd x22 (none)
(bEqF x16 (ci 40) fun x23 =>
cnd x23 (none)
(bEqF x16 (ci 41) fun x24 =>
cnd x24 (none)
(bEqF x16 (ci 42) fun x25 =>
cnd x25 (none)
(bEqF x16 (ci 43) fun x26 =>
cnd x26 (none)
(bEqF x16 (ci 44) fun x27 =>
cnd x27 (none)
(bEqF x16 (ci 45) fun x28 =>
cnd x28 (none)
(bEqF x16 (ci 49) fun x29 =>
cnd x29 (none)
(bEqF x16 (ci 50) fun x30 =>
cnd x30 (none)
(bEqF x16 (ci 56) fun x31 =>
cnd x31 (none)
(bEqF x16 (ci 57) fun x32 =>
cnd x32 (none)
(K17 [] s)))))))))))))))) fun K14 =>
fa1 x5 0 fun x33 =>
ldA x33 take1 s fun x34 s =>
c (.mk .d0 .d1 .d2 .d2) [x34, (ci 1), (ci 61)] s fun x35 s =>
vGen (.un .not (.c x35)) fun x36 =>
cnd x36 (none)
(fa1 x5 0 fun x37 =>
ldA x37 take1 s fun x38 s =>
c (.mk .d0 .d3 .d1 .d1) [x38] s fun x39 s =>
cnd x39 (none)
(K14 [] s)))
def F166 : F2 := .fn H166 true
theorem fe166 : feE Tryz.prog ann 166 3 [.j [], .cl, .cl, .j [], .cl, .cl, .cl, .cl, .cl, .cl, .cl, .cl, .cl, .cl, .cl, .cl, .cl, .cl, .cl] = some F166 := by kernel_rfl
/- daguerre/valid.all[daguerre/api.RIns]$1 -/
def H200 : F2C := fun c _ v s K =>
pop v fun x0 v =>
pop v fun x1 v =>
endE v (
zTbox x0 s fun x2 s =>
ldA x1 take1 s fun x3 s =>
ldA x2 (takeN 4) s fun x4 s =>
zCallV c x3 [x4] s fun x5 s =>
vGen (.un .not (.c x5)) fun x6 =>
K x6 s)
def F200 : F2 := .fn H200 true
theorem fe200 : feE Tryz.prog ann 200 2 [] = some F200 := by kernel_rfl
/- slices.ContainsFunc[[]daguerre/api.RIns,daguerre/api.RIns] -/
def H199 : F2C := fun c _ v s K =>
pop v fun x0 v =>
pop v fun x1 v =>
endE v (
c (.mk .d0 .d3 .d2 .d2) [x0, x1] s fun x2 s =>
bGe x2 (ci 0) fun x3 =>
K x3 s)
def F199 : F2 := .fn H199 true
theorem fe199 : feE Tryz.prog ann 199 2 [] = some F199 := by kernel_rfl
/- slices.IndexFunc[[]daguerre/api.RMethod,daguerre/api.RMethod] -/
def H196 : F2C := fun c k v s K =>
pop v fun x0 v =>
pop v fun x1 v =>
endE v (
vLenS x0 fun x2 =>
jn (fun _ s =>
K (.int .i64 (-1)) s) fun K3 =>
loopE k (fun K4 v s =>
pop v fun x5 _ =>
bLt x5 x2 fun x6 =>
cnd x6 (jn (fun _ s =>
bAdd x5 (ci 1) fun x8 =>
K4 [x8] s) fun K7 =>
vIaS x0 x5 6 fun x9 =>
ldA x9 (takeN 6) s fun x10 s =>
zCallV c x1 [x10] s fun x11 s =>
cnd x11 (none)
(K7 [] s))
(K3 [] s)) [(ci 0)] s)
def F196 : F2 := .fn H196 true
theorem fe196 : feE Tryz.prog ann 196 2 [.j [], .j [8], .j [], .j [], .cl] = some F196 := by kernel_rfl
/- (*daguerre/frame.Frame).Goto -/
def H174 : F2C := fun _ _ v s K =>
pop v fun x0 v =>
pop v fun x1 v =>
endE v (
vNil true .ptr x0 fun x2 =>
cnd x2 (vChk x0 fun x3 =>
fa1 x3 1 fun x4 =>
zSt x4 x1 1 s fun _ s =>
K (.tup []) s)
(none))
def F174 : F2 := .fn H174 true
theorem fe174 : feE Tryz.prog ann 174 2 [.cr] = some F174 := by kernel_rfl
/- daguerre/daguerrelaw24.begun -/
def H207 : F2C := fun c _ v s K =>
endE v (
c (.mk .d0 .d0 .d1 .d2) [] s fun x0 s =>
boxD false [.nil .sl, .nil .sl, .int .i64 0, .int .i64 0, .nil .sl, .nil .sl, .nil .sl, .nil .sl, .nil .sl] s fun x1 s =>
zSt x1 x0 9 s fun _ s =>
ldA x1 (takeN 9) s fun x3 s =>
c (.mk .d0 .d0 .d2 .d1) [x3] s fun x4 s =>
c (.mk .d0 .d0 .d3 .d3) [x4] s fun x5 s =>
vExt x5 0 fun x6 =>
vExt x5 1 fun x7 =>
boxD false [.nil .sl, .nil .sl, .int .i64 0, .int .i64 0, .nil .sl, .nil .sl, .nil .sl, .nil .sl, .nil .sl] s fun x8 s =>
zSt x8 x6 9 s fun _ s =>
c (.mk .d0 .d0 .d3 .d3) [(.nil .sl)] s fun x10 s =>
vExt x10 0 fun x11 =>
vExt x10 1 fun x12 =>
boxD false [.nil .sl, .nil .sl, .int .i64 0, .int .i64 0, .nil .sl, .nil .sl, .nil .sl, .nil .sl, .nil .sl] s fun x13 s =>
zSt x13 x11 9 s fun _ s =>
c (.mk .d0 .d0 .d1 .d2) [] s fun x15 s =>
boxD false [.nil .sl, .nil .sl, .int .i64 0, .int .i64 0, .nil .sl, .nil .sl, .nil .sl, .nil .sl, .nil .sl] s fun x16 s =>
zSt x16 x15 9 s fun _ s =>
fa1 x16 2 fun x18 =>
zSt x18 (ci 1) 1 s fun _ s =>
c (.mk .d0 .d3 .d2 .d4) [] s fun x20 s =>
gH x20 true (c (.mk .d0 .d3 .d2 .d5) []) s fun x21 s =>
vPick x20 x21 cf fun x22 =>
gK x22 true x4 fun x23 =>
gV x22 true (vLenS x23) fun x24 =>
gV x22 true (bGt x24 (ci 20)) fun x25 =>
vPick x22 x25 cf fun x26 =>
gK x26 true x4 fun x27 =>
gV x26 true (vIaS x27 (ci 0) 1) fun x28 =>
gH x26 true (ldA x28 take1) s fun x29 s =>
gV x26 true (bEqF x29 (cu 68)) fun x30 =>
vPick x26 x30 cf fun x31 =>
gK x31 true x7 fun x32 =>
gV x31 true (bEqF x32 (ci 0)) fun x33 =>
vPick x31 x33 cf fun x34 =>
gH x34 true (ldA x8 (takeN 9)) s fun x35 s =>
gH x34 true (ldA x1 (takeN 9)) s fun x36 s =>
gH x34 true (c (.mk .d0 .d0 .d7 .d0) [x35, x36]) s fun x37 s =>
vPick x34 x37 cf fun x38 =>
gK x38 true x12 fun x39 =>
gV x38 true (bEqF x39 (ci 6)) fun x40 =>
vPick x38 x40 cf fun x41 =>
gH x41 true (ldA x1 (takeN 9)) s fun x42 s =>
gH x41 true (ldA x1 (takeN 9)) s fun x43 s =>
gH x41 true (c (.mk .d0 .d3 .d2 .d6) [x42, x43]) s fun x44 s =>
vPick x41 x44 cf fun x45 =>
gH x45 true (ldA x1 (takeN 9)) s fun x46 s =>
gH x45 true (ldA x16 (takeN 9)) s fun x47 s =>
gH x45 true (c (.mk .d0 .d3 .d2 .d6) [x46, x47]) s fun x48 s =>
gV x45 true (vGen (.un .not (.c x48))) fun x49 =>
vPick x45 x49 cf fun x50 =>
K x50 s)
def F207 : F2 := .pur H207 true mNo
theorem fe207 : feE Tryz.prog ann 207 0 [] = some F207 := by kernel_rfl
def M207 (k : Nat) : F2 := .pur H207 true (Bool.rec mNo (mVal (.bool true)) (Nat.ble 7 k))
/- slices.IndexFunc[[]int,int] -/
def H208 : F2C := fun c k v s K =>
pop v fun x0 v =>
pop v fun x1 v =>
endE v (
vLenS x0 fun x2 =>
jn (fun _ s =>
K (.int .i64 (-1)) s) fun K3 =>
loopE k (fun K4 v s =>
pop v fun x5 _ =>
bLt x5 x2 fun x6 =>
cnd x6 (jn (fun _ s =>
bAdd x5 (ci 1) fun x8 =>
K4 [x8] s) fun K7 =>
vIaS x0 x5 1 fun x9 =>
ldA x9 take1 s fun x10 s =>
zCallV c x1 [x10] s fun x11 s =>
cnd x11 (K x5 s)
(K7 [] s))
(K3 [] s)) [(ci 0)] s)
def F208 : F2 := .fn H208 true
theorem fe208 : feE Tryz.prog ann 208 2 [.j [], .j [8], .j [], .j [], .j []] = some F208 := by kernel_rfl
/- slices.IndexFunc[[][2]int,[2]int] -/
def H209 : F2C := fun _ k v s K =>
pop v fun x0 v =>
pop v fun _ v =>
endE v (
vLenS x0 fun x2 =>
jn (fun _ s =>
K (.int .i64 (-1)) s) fun K3 =>
loopE k (fun _ v s =>
pop v fun x5 _ =>
bLt x5 x2 fun x6 =>
cnd x6 (none)
(K3 [] s)) [(ci 0)] s)
def F209 : F2 := .fn H209 true
theorem fe209 : feE Tryz.prog ann 209 2 [.j [], .j [8], .cl, .j [], .ch] = some F209 := by kernel_rfl
/- slices.IndexFunc[[]daguerre/api.RTrap,daguerre/api.RTrap] -/
def H204 : F2C := fun _ k v s K =>
pop v fun x0 v =>
pop v fun _ v =>
endE v (
vLenS x0 fun x2 =>
jn (fun _ s =>
K (.int .i64 (-1)) s) fun K3 =>
loopE k (fun _ v s =>
pop v fun x5 _ =>
bLt x5 x2 fun x6 =>
cnd x6 (none)
(K3 [] s)) [(ci 0)] s)
def F204 : F2 := .fn H204 true
theorem fe204 : feE Tryz.prog ann 204 2 [.j [], .j [8], .cl, .j [], .ch] = some F204 := by kernel_rfl
/- daguerre/op.Jumps -/
def H201 : F2C := fun c _ v s K =>
pop v fun x0 v =>
endE v (
c (.mk .d0 .d3 .d2 .d3) [x0, (ci 20), (ci 36)] s fun x1 s =>
K x1 s)
def F201 : F2 := .fn H201 true
theorem fe201 : feE Tryz.prog ann 201 1 [] = some F201 := by kernel_rfl
/- slices.IndexFunc[[]daguerre/api.RIns,daguerre/api.RIns] -/
def H210 : F2C := fun c k v s K =>
pop v fun x0 v =>
pop v fun x1 v =>
endE v (
vLenS x0 fun x2 =>
jn (fun _ s =>
K (.int .i64 (-1)) s) fun K3 =>
loopE k (fun K4 v s =>
pop v fun x5 _ =>
bLt x5 x2 fun x6 =>
cnd x6 (jn (fun _ s =>
bAdd x5 (ci 1) fun x8 =>
K4 [x8] s) fun K7 =>
vIaS x0 x5 4 fun x9 =>
ldA x9 (takeN 4) s fun x10 s =>
zCallV c x1 [x10] s fun x11 s =>
cnd x11 (none)
(K7 [] s))
(K3 [] s)) [(ci 0)] s)
def F210 : F2 := .fn H210 true
theorem fe210 : feE Tryz.prog ann 210 2 [.j [], .j [8], .j [], .j [], .cl] = some F210 := by kernel_rfl
/- daguerre/daguerrelaw13.Begun -/
def H212 : F2C := fun c _ v s K =>
endE v (
c (.mk .d0 .d3 .d2 .d7) [] s fun x0 s =>
K x0 s)
def F212 : F2 := .pur H212 true mNo
theorem fe212 : feE Tryz.prog ann 212 0 [] = some F212 := by kernel_rfl
def M212 (k : Nat) : F2 := .pur H212 true (Bool.rec mNo (mVal (.bool true)) (Nat.ble 2 k))
/- daguerre/daguerrelaw4.Begun -/
def H213 : F2C := fun c _ v s K =>
endE v (
c (.mk .d0 .d3 .d3 .d0) [] s fun x0 s =>
K x0 s)
def F213 : F2 := .pur H213 true mNo
theorem fe213 : feE Tryz.prog ann 213 0 [] = some F213 := by kernel_rfl
def M213 (k : Nat) : F2 := .pur H213 true (Bool.rec mNo (mVal (.bool true)) (Nat.ble 6 k))
/- daguerre/image.Eq -/
def H214 : F2C := fun c _ v s K =>
pop v fun x0 v =>
pop v fun x1 v =>
endE v (
zTbox x0 s fun x2 s =>
zTbox x1 s fun x3 s =>
fa1 x2 0 fun x4 =>
ldA x4 take1 s fun x5 s =>
fa1 x3 0 fun x6 =>
ldA x6 take1 s fun x7 s =>
c (.mk .d0 .d3 .d3 .d1) [x5, x7, (.fn 218 [] [])] s fun x8 s =>
gV x8 true (fa1 x2 1) fun x9 =>
gH x8 true (ldA x9 take1) s fun x10 s =>
gV x8 true (fa1 x3 1) fun x11 =>
gH x8 true (ldA x11 take1) s fun x12 s =>
gH x8 true (c (.mk .d0 .d3 .d3 .d3) [x10, x12, (.fn 220 [] [])]) s fun x13 s =>
vPick x8 x13 cf fun x14 =>
fa1 x2 5 fun x15 =>
ldA x15 take1 s fun x16 s =>
fa1 x3 5 fun x17 =>
ldA x17 take1 s fun x18 s =>
c (.mk .d0 .d3 .d3 .d5) [x16, x18] s fun x19 s =>
gV x19 true (fa1 x2 6) fun x20 =>
gH x19 true (ldA x20 take1) s fun x21 s =>
gV x19 true (fa1 x3 6) fun x22 =>
gH x19 true (ldA x22 take1) s fun x23 s =>
gH x19 true (c (.mk .d0 .d2 .d5 .d1) [x21, x23]) s fun x24 s =>
vPick x19 x24 cf fun x25 =>
gV x25 true (fa1 x2 7) fun x26 =>
gH x25 true (ldA x26 take1) s fun x27 s =>
gV x25 true (fa1 x3 7) fun x28 =>
gH x25 true (ldA x28 take1) s fun x29 s =>
gH x25 true (c (.mk .d0 .d3 .d3 .d5) [x27, x29]) s fun x30 s =>
vPick x25 x30 cf fun x31 =>
gV x31 true (fa1 x2 8) fun x32 =>
gH x31 true (ldA x32 take1) s fun x33 s =>
gV x31 true (fa1 x3 8) fun x34 =>
gH x31 true (ldA x34 take1) s fun x35 s =>
gH x31 true (c (.mk .d0 .d3 .d3 .d6) [x33, x35]) s fun x36 s =>
vPick x31 x36 cf fun x37 =>
gK x14 true x37 fun x38 =>
vPick x14 x38 cf fun x39 =>
gV x39 true (fa1 x2 2) fun x40 =>
gH x39 true (ldA x40 take1) s fun x41 s =>
gV x39 true (fa1 x3 2) fun x42 =>
gH x39 true (ldA x42 take1) s fun x43 s =>
gV x39 true (bEqF x41 x43) fun x44 =>
vPick x39 x44 cf fun x45 =>
gV x45 true (fa1 x2 3) fun x46 =>
gH x45 true (ldA x46 take1) s fun x47 s =>
gV x45 true (fa1 x3 3) fun x48 =>
gH x45 true (ldA x48 take1) s fun x49 s =>
gV x45 true (bEqF x47 x49) fun x50 =>
vPick x45 x50 cf fun x51 =>
gV x51 true (fa1 x2 4) fun x52 =>
gH x51 true (ldA x52 take1) s fun x53 s =>
gV x51 true (fa1 x3 4) fun x54 =>
gH x51 true (ldA x54 take1) s fun x55 s =>
gH x51 true (c (.mk .d0 .d2 .d5 .d1) [x53, x55]) s fun x56 s =>
vPick x51 x56 cf fun x57 =>
K x57 s)
def F214 : F2 := .fn H214 true
theorem fe214 : feE Tryz.prog ann 214 2 [] = some F214 := by kernel_rfl
/- daguerre/op.between -/
def H211 : F2C := fun _ _ v s K =>
pop v fun x0 v =>
pop v fun x1 v =>
pop v fun x2 v =>
endE v (
bGe x0 x1 fun x3 =>
gK x3 true x0 fun x4 =>
gK x3 true x2 fun x5 =>
gV x3 true (bLe x4 x5) fun x6 =>
vPick x3 x6 cf fun x7 =>
K x7 s)
def F211 : F2 := .fn H211 true
theorem fe211 : feE Tryz.prog ann 211 3 [] = some F211 := by kernel_rfl
/- daguerre/daguerrelaw13.begun -/
def H215 : F2C := fun c _ v s K =>
endE v (
c (.mk .d0 .d1 .d7 .d2) [(ci 10)] s fun x0 s =>
c (.mk .d0 .d2 .d7 .d5) [x0, (ci 3), (ci 2)] s fun x1 s =>
vExt x1 0 fun x2 =>
vExt x1 1 fun x3 =>
c (.mk .d0 .d2 .d7 .d5) [x0, (ci 1), (ci 3)] s fun x4 s =>
vExt x4 0 fun x5 =>
vExt x4 1 fun x6 =>
c (.mk .d0 .d2 .d7 .d5) [x0, (ci 0), (ci 0)] s fun x7 s =>
vExt x7 0 fun _ =>
vExt x7 1 fun x9 =>
c (.mk .d0 .d2 .d1 .d5) [x0, x5, (ci 2), (cj 7)] s fun x10 s =>
c (.mk .d0 .d3 .d3 .d7) [x0] s fun x11 s =>
c (.mk .d0 .d0 .d6 .d0) [x11, (ci 20)] s fun x12 s =>
vExt x12 0 fun x13 =>
vExt x12 1 fun x14 =>
gK x3 true x2 fun x15 =>
gV x3 true (bEqF x15 (ci 0)) fun x16 =>
vPick x3 x16 cf fun x17 =>
gK x17 true x6 fun x18 =>
vPick x17 x18 cf fun x19 =>
gK x19 true x5 fun x20 =>
gV x19 true (bEqF x20 (ci 4)) fun x21 =>
vPick x19 x21 cf fun x22 =>
gK x22 true x9 fun x23 =>
gV x22 true (vGen (.un .not (.c x23))) fun x24 =>
vPick x22 x24 cf fun x25 =>
gK x25 true x10 fun x26 =>
vPick x25 x26 cf fun x27 =>
gK x27 true x0 fun x28 =>
gK x27 true x2 fun x29 =>
gH x27 true (c (.mk .d0 .d2 .d1 .d4) [x28, x29]) s fun x30 s =>
gV x27 true (bEqF x30 (ci 3)) fun x31 =>
vPick x27 x31 cf fun x32 =>
gK x32 true x0 fun x33 =>
gK x32 true x5 fun x34 =>
gH x32 true (c (.mk .d0 .d2 .d1 .d2) [x33, x34]) s fun x35 s =>
gV x32 true (bEqF x35 (ci 3)) fun x36 =>
vPick x32 x36 cf fun x37 =>
gK x37 true x0 fun x38 =>
gK x37 true x5 fun x39 =>
gH x37 true (c (.mk .d0 .d2 .d1 .d3) [x38, x39, (ci 2)]) s fun x40 s =>
gV x37 true (bEqF x40 (cj 7)) fun x41 =>
vPick x37 x41 cf fun x42 =>
gK x42 true x0 fun x43 =>
gH x42 true (c (.mk .d0 .d2 .d5 .d0) [x43, (ci 1)]) s fun x44 s =>
gV x42 true (vGen (.un .not (.c x44))) fun x45 =>
vPick x42 x45 cf fun x46 =>
gK x46 true x0 fun x47 =>
gH x46 true (c (.mk .d0 .d1 .d0 .d5) [x47]) s fun x48 s =>
gV x46 true (bEqF x48 (ci 9)) fun x49 =>
vPick x46 x49 cf fun x50 =>
gK x50 true x0 fun x51 =>
gH x50 true (c (.mk .d0 .d2 .d1 .d0) [x51]) s fun x52 s =>
gV x50 true (bEqF x52 (ci 10)) fun x53 =>
vPick x50 x53 cf fun x54 =>
gK x54 true x11 fun x55 =>
gV x54 true (vLenS x55) fun x56 =>
gV x54 true (bEqF x56 (ci 9)) fun x57 =>
vPick x54 x57 cf fun x58 =>
gK x58 true x14 fun x59 =>
vPick x58 x59 cf fun x60 =>
gK x60 true x13 fun x61 =>
gH x60 true (c (.mk .d0 .d2 .d1 .d3) [x61, (ci 4), (ci 2)]) s fun x62 s =>
gV x60 true (bEqF x62 (cj 7)) fun x63 =>
vPick x60 x63 cf fun x64 =>
gK x64 true x13 fun x65 =>
gH x64 true (c (.mk .d0 .d2 .d1 .d0) [x65]) s fun x66 s =>
gV x64 true (bEqF x66 (ci 20)) fun x67 =>
vPick x64 x67 cf fun x68 =>
K x68 s)
def F215 : F2 := .pur H215 true mNo
theorem fe215 : feE Tryz.prog ann 215 0 [] = some F215 := by kernel_rfl
def M215 (k : Nat) : F2 := .pur H215 true (Bool.rec mNo (mVal (.bool true)) (Nat.ble 1 k))
/- daguerre/daguerrelaw4.begun -/
def H216 : F2C := fun c _ v s K =>
endE v (
vBld [.int .i64 0, .int .i64 0, .str [], .str []] (eCons 0 1 (ci 43) (eCons 2 1 (.str [65, 98]) (eCons 3 1 (.str [102]) eNil))) fun x0 =>
boxD false [.int .i64 0, .int .i64 0, .str [], .str []] s fun x1 s =>
zSt x1 x0 4 s fun _ s =>
ldA x1 (takeN 4) s fun x3 s =>
c (.mk .d0 .d3 .d4 .d0) [(.nil .sl), x3] s fun x4 s =>
appB 1 1 (.nil .sl) x4 s fun x5 s =>
zBsl [.int .u8 0] 1 1 (eCons 0 1 (cu 1) eNil) s fun x6 s =>
zTree (appB 1 1 x5 x6) s fun x7 s =>
c (.mk .d0 .d3 .d4 .d1) [x7] s fun x8 s =>
vExt x8 0 fun x9 =>
vExt x8 1 fun x10 =>
vExt x8 2 fun x11 =>
boxD false [.int .i64 0, .int .i64 0, .str [], .str []] s fun x12 s =>
zSt x12 x9 4 s fun _ s =>
c (.mk .d0 .d3 .d4 .d1) [(.nil .sl)] s fun x14 s =>
vExt x14 0 fun x15 =>
vExt x14 1 fun _ =>
vExt x14 2 fun x17 =>
boxD false [.int .i64 0, .int .i64 0, .str [], .str []] s fun x18 s =>
zSt x18 x15 4 s fun _ s =>
zBsl [.int .u8 0] 1 1 (eCons 0 1 (cu 0) eNil) s fun x20 s =>
c (.mk .d0 .d3 .d4 .d1) [x20] s fun x21 s =>
vExt x21 0 fun x22 =>
vExt x21 1 fun _ =>
vExt x21 2 fun x24 =>
boxD false [.int .i64 0, .int .i64 0, .str [], .str []] s fun x25 s =>
zSt x25 x22 4 s fun _ s =>
c (.mk .d0 .d3 .d4 .d2) [] s fun x27 s =>
gH x27 true (ldA x1 (takeN 4)) s fun x28 s =>
gH x27 true (c (.mk .d0 .d3 .d4 .d3) [x28]) s fun x29 s =>
vPick x27 x29 cf fun x30 =>
gV x30 true (vBld [.int .i64 0, .int .i64 0, .str [], .str []] (eCons 0 1 (ci 43) eNil)) fun x31 =>
gH x30 true (c (.mk .d0 .d3 .d4 .d3) [x31]) s fun x32 s =>
gV x30 true (vGen (.un .not (.c x32))) fun x33 =>
vPick x30 x33 cf fun x34 =>
gH x34 true (c (.mk .d0 .d3 .d1 .d1) [(ci 20)]) s fun x35 s =>
vPick x34 x35 cf fun x36 =>
gH x36 true (c (.mk .d0 .d3 .d1 .d1) [(ci 37)]) s fun x37 s =>
gV x36 true (vGen (.un .not (.c x37))) fun x38 =>
vPick x36 x38 cf fun x39 =>
gH x39 true (c (.mk .d0 .d2 .d4 .d1) [(ci 46)]) s fun x40 s =>
vPick x39 x40 cf fun x41 =>
gH x41 true (c (.mk .d0 .d2 .d4 .d1) [(ci 8)]) s fun x42 s =>
gV x41 true (vGen (.un .not (.c x42))) fun x43 =>
vPick x41 x43 cf fun x44 =>
gK x44 true x4 fun x45 =>
gV x44 true (vLenS x45) fun x46 =>
gV x44 true (bGt x46 (ci 4)) fun x47 =>
vPick x44 x47 cf fun x48 =>
gK x48 true x11 fun x49 =>
gV x48 true (bEqF x49 (ci 0)) fun x50 =>
vPick x48 x50 cf fun x51 =>
gK x51 true x10 fun x52 =>
gK x51 true x4 fun x53 =>
gV x51 true (vLenS x53) fun x54 =>
gV x51 true (bEqF x52 x54) fun x55 =>
vPick x51 x55 cf fun x56 =>
gH x56 true (ldA x1 (takeN 4)) s fun x57 s =>
gH x56 true (ldA x12 (takeN 4)) s fun x58 s =>
gH x56 true (c (.mk .d0 .d3 .d4 .d4) [x57, x58]) s fun x59 s =>
vPick x56 x59 cf fun x60 =>
gK x60 true x17 fun x61 =>
gV x60 true (bEqF x61 (ci 2)) fun x62 =>
vPick x60 x62 cf fun x63 =>
gK x63 true x24 fun x64 =>
gV x63 true (bEqF x64 (ci 1)) fun x65 =>
vPick x63 x65 cf fun x66 =>
K x66 s)
def F216 : F2 := .pur H216 true mNo
theorem fe216 : feE Tryz.prog ann 216 0 [] = some F216 := by kernel_rfl
def M216 (k : Nat) : F2 := .pur H216 true (Bool.rec mNo (mVal (.bool true)) (Nat.ble 5 k))
/- slices.EqualFunc[[]daguerre/api.RClass,[]daguerre/api.RClass,daguerre/api.RClass,daguerre/api.RClass] -/
def H217 : F2C := fun c k v s K =>
pop v fun x0 v =>
pop v fun x1 v =>
pop v fun x2 v =>
endE v (
vLenS x0 fun x3 =>
vLenS x1 fun x4 =>
bEqT x3 x4 fun x5 =>
cnd x5 (none)
(vLenS x0 fun x6 =>
jn (fun _ s =>
K ct s) fun K7 =>
loopE k (fun K8 v s =>
pop v fun x9 _ =>
bLt x9 x6 fun x10 =>
cnd x10 (jn (fun _ s =>
bAdd x9 (ci 1) fun x12 =>
K8 [x12] s) fun K11 =>
vIaS x0 x9 10 fun x13 =>
ldA x13 (takeN 10) s fun x14 s =>
boxD false [.str [], .int .i64 0, .int .i64 0, .nil .sl, .nil .sl, .nil .sl, .nil .sl, .int .i64 0, .int .i64 0, .bool false] s fun x15 s =>
zSt x15 x14 10 s fun _ s =>
vIaS x1 x9 10 fun x17 =>
ldA x17 (takeN 10) s fun x18 s =>
boxD false [.str [], .int .i64 0, .int .i64 0, .nil .sl, .nil .sl, .nil .sl, .nil .sl, .int .i64 0, .int .i64 0, .bool false] s fun x19 s =>
zSt x19 x18 10 s fun _ s =>
ldA x15 (takeN 10) s fun x21 s =>
ldA x19 (takeN 10) s fun x22 s =>
zCallV c x2 [x21, x22] s fun x23 s =>
vGen (.un .not (.c x23)) fun x24 =>
cnd x24 (none)
(K11 [] s))
(K7 [] s)) [(ci 0)] s))
def F217 : F2 := .fn H217 true
theorem fe217 : feE Tryz.prog ann 217 3 [.cl, .j [], .j [17], .j [], .j [], .cl] = some F217 := by kernel_rfl
/- daguerre/image.eqClass -/
def H218 : F2C := fun c _ v s K =>
pop v fun x0 v =>
pop v fun x1 v =>
endE v (
zTbox x0 s fun x2 s =>
zTbox x1 s fun x3 s =>
fa1 x2 0 fun x4 =>
ldA x4 take1 s fun x5 s =>
fa1 x3 0 fun x6 =>
ldA x6 take1 s fun x7 s =>
bEqF x5 x7 fun x8 =>
gV x8 true (fa1 x2 1) fun x9 =>
gH x8 true (ldA x9 take1) s fun x10 s =>
gV x8 true (fa1 x3 1) fun x11 =>
gH x8 true (ldA x11 take1) s fun x12 s =>
gV x8 true (bEqF x10 x12) fun x13 =>
vPick x8 x13 cf fun x14 =>
gV x14 true (fa1 x2 2) fun x15 =>
gH x14 true (ldA x15 take1) s fun x16 s =>
gV x14 true (fa1 x3 2) fun x17 =>
gH x14 true (ldA x17 take1) s fun x18 s =>
gV x14 true (bEqF x16 x18) fun x19 =>
vPick x14 x19 cf fun x20 =>
gV x20 true (fa1 x2 7) fun x21 =>
gH x20 true (ldA x21 take1) s fun x22 s =>
gV x20 true (fa1 x3 7) fun x23 =>
gH x20 true (ldA x23 take1) s fun x24 s =>
gV x20 true (bEqF x22 x24) fun x25 =>
vPick x20 x25 cf fun x26 =>
gV x26 true (fa1 x2 8) fun x27 =>
gH x26 true (ldA x27 take1) s fun x28 s =>
gV x26 true (fa1 x3 8) fun x29 =>
gH x26 true (ldA x29 take1) s fun x30 s =>
gV x26 true (bEqF x28 x30) fun x31 =>
vPick x26 x31 cf fun x32 =>
gV x32 true (fa1 x2 9) fun x33 =>
gH x32 true (ldA x33 take1) s fun x34 s =>
gV x32 true (fa1 x3 9) fun x35 =>
gH x32 true (ldA x35 take1) s fun x36 s =>
gV x32 true (vBeq false x34 x36) fun x37 =>
vPick x32 x37 cf fun x38 =>
gV x38 true (fa1 x2 3) fun x39 =>
gH x38 true (ldA x39 take1) s fun x40 s =>
gV x38 true (fa1 x3 3) fun x41 =>
gH x38 true (ldA x41 take1) s fun x42 s =>
gH x38 true (c (.mk .d0 .d3 .d3 .d6) [x40, x42]) s fun x43 s =>
vPick x38 x43 cf fun x44 =>
gV x44 true (fa1 x2 4) fun x45 =>
gH x44 true (ldA x45 take1) s fun x46 s =>
gV x44 true (fa1 x3 4) fun x47 =>
gH x44 true (ldA x47 take1) s fun x48 s =>
gH x44 true (c (.mk .d0 .d2 .d5 .d1) [x46, x48]) s fun x49 s =>
vPick x44 x49 cf fun x50 =>
gV x50 true (fa1 x2 5) fun x51 =>
gH x50 true (ldA x51 take1) s fun x52 s =>
gV x50 true (fa1 x3 5) fun x53 =>
gH x50 true (ldA x53 take1) s fun x54 s =>
gH x50 true (c (.mk .d0 .d2 .d5 .d1) [x52, x54]) s fun x55 s =>
vPick x50 x55 cf fun x56 =>
gV x56 true (fa1 x2 6) fun x57 =>
gH x56 true (ldA x57 take1) s fun x58 s =>
gV x56 true (fa1 x3 6) fun x59 =>
gH x56 true (ldA x59 take1) s fun x60 s =>
gH x56 true (c (.mk .d0 .d3 .d4 .d5) [x58, x60]) s fun x61 s =>
vPick x56 x61 cf fun x62 =>
K x62 s)
def F218 : F2 := .fn H218 true
theorem fe218 : feE Tryz.prog ann 218 2 [] = some F218 := by kernel_rfl
/- slices.EqualFunc[[]daguerre/api.RMethod,[]daguerre/api.RMethod,daguerre/api.RMethod,daguerre/api.RMethod] -/
def H219 : F2C := fun c k v s K =>
pop v fun x0 v =>
pop v fun x1 v =>
pop v fun x2 v =>
endE v (
vLenS x0 fun x3 =>
vLenS x1 fun x4 =>
bEqT x3 x4 fun x5 =>
cnd x5 (none)
(vLenS x0 fun x6 =>
jn (fun _ s =>
K ct s) fun K7 =>
loopE k (fun K8 v s =>
pop v fun x9 _ =>
bLt x9 x6 fun x10 =>
cnd x10 (jn (fun _ s =>
bAdd x9 (ci 1) fun x12 =>
K8 [x12] s) fun K11 =>
vIaS x0 x9 6 fun x13 =>
ldA x13 (takeN 6) s fun x14 s =>
boxD false [.int .i64 0, .int .i64 0, .int .i64 0, .bool false, .nil .sl, .nil .sl] s fun x15 s =>
zSt x15 x14 6 s fun _ s =>
vIaS x1 x9 6 fun x17 =>
ldA x17 (takeN 6) s fun x18 s =>
boxD false [.int .i64 0, .int .i64 0, .int .i64 0, .bool false, .nil .sl, .nil .sl] s fun x19 s =>
zSt x19 x18 6 s fun _ s =>
ldA x15 (takeN 6) s fun x21 s =>
ldA x19 (takeN 6) s fun x22 s =>
zCallV c x2 [x21, x22] s fun x23 s =>
vGen (.un .not (.c x23)) fun x24 =>
cnd x24 (none)
(K11 [] s))
(K7 [] s)) [(ci 0)] s))
def F219 : F2 := .fn H219 true
theorem fe219 : feE Tryz.prog ann 219 3 [.cl, .j [], .j [17], .j [], .j [], .cl] = some F219 := by kernel_rfl
/- daguerre/image.eqMethod -/
def H220 : F2C := fun c _ v s K =>
pop v fun x0 v =>
pop v fun x1 v =>
endE v (
zTbox x0 s fun x2 s =>
zTbox x1 s fun x3 s =>
fa1 x2 0 fun x4 =>
ldA x4 take1 s fun x5 s =>
fa1 x3 0 fun x6 =>
ldA x6 take1 s fun x7 s =>
bEqF x5 x7 fun x8 =>
gV x8 true (fa1 x2 1) fun x9 =>
gH x8 true (ldA x9 take1) s fun x10 s =>
gV x8 true (fa1 x3 1) fun x11 =>
gH x8 true (ldA x11 take1) s fun x12 s =>
gV x8 true (bEqF x10 x12) fun x13 =>
vPick x8 x13 cf fun x14 =>
gV x14 true (fa1 x2 2) fun x15 =>
gH x14 true (ldA x15 take1) s fun x16 s =>
gV x14 true (fa1 x3 2) fun x17 =>
gH x14 true (ldA x17 take1) s fun x18 s =>
gV x14 true (bEqF x16 x18) fun x19 =>
vPick x14 x19 cf fun x20 =>
gV x20 true (fa1 x2 3) fun x21 =>
gH x20 true (ldA x21 take1) s fun x22 s =>
gV x20 true (fa1 x3 3) fun x23 =>
gH x20 true (ldA x23 take1) s fun x24 s =>
gV x20 true (vBeq false x22 x24) fun x25 =>
vPick x20 x25 cf fun x26 =>
gV x26 true (fa1 x2 4) fun x27 =>
gH x26 true (ldA x27 take1) s fun x28 s =>
gV x26 true (fa1 x3 4) fun x29 =>
gH x26 true (ldA x29 take1) s fun x30 s =>
gH x26 true (c (.mk .d0 .d3 .d4 .d6) [x28, x30]) s fun x31 s =>
vPick x26 x31 cf fun x32 =>
gV x32 true (fa1 x2 5) fun x33 =>
gH x32 true (ldA x33 take1) s fun x34 s =>
gV x32 true (fa1 x3 5) fun x35 =>
gH x32 true (ldA x35 take1) s fun x36 s =>
gH x32 true (c (.mk .d0 .d3 .d4 .d7) [x34, x36]) s fun x37 s =>
vPick x32 x37 cf fun x38 =>
K x38 s)
def F220 : F2 := .fn H220 true
theorem fe220 : feE Tryz.prog ann 220 2 [] = some F220 := by kernel_rfl
/- slices.Equal[[]int32,int32] -/
def H221 : F2C := fun _ k v s K =>
pop v fun x0 v =>
pop v fun x1 v =>
endE v (
vLenS x0 fun x2 =>
vLenS x1 fun x3 =>
bEqT x2 x3 fun x4 =>
cnd x4 (none)
(vLenS x0 fun x5 =>
jn (fun _ s =>
K ct s) fun K6 =>
loopE k (fun K7 v s =>
pop v fun x8 _ =>
bLt x8 x5 fun x9 =>
cnd x9 (jn (fun _ s =>
bAdd x8 (ci 1) fun x11 =>
K7 [x11] s) fun K10 =>
lgE qNoE (zK x0) s fun x12 e13 s =>
lgE qNoE (zK x8) s fun x14 e15 s =>
lgE qNoE (zV (vIaS x12 x14 1)) s fun x16 e17 s =>
lgE (qLdE x16 1) (ldA x16 take1) s fun x18 e19 s =>
lgE qNoE (zK x1) s fun x20 e21 s =>
lgE qNoE (zK x8) s fun x22 e23 s =>
lgE qNoE (zV (vIaS x20 x22 1)) s fun x24 e25 s =>
lgE (qLdE x24 1) (ldA x24 take1) s fun x26 e27 s =>
lgE qNoE (zV (bEqT x18 x26)) s fun x28 e29 s =>
calmE [(3, 7)] [e13, e15, e17, e19, e21, e23, e25, e27, e29] (fun s =>
cnd x28 (none)
(K10 [] s)) s)
(K6 [] s)) [(ci 0)] s))
def F221 : F2 := .fn H221 true
theorem fe221 : feE Tryz.prog ann 221 2 [.cl, .j [], .j [13], .j [], .j [], .cl] = some F221 := by kernel_rfl
/- slices.Equal[[]bool,bool] -/
def H222 : F2C := fun _ k v s K =>
pop v fun x0 v =>
pop v fun x1 v =>
endE v (
vLenS x0 fun x2 =>
vLenS x1 fun x3 =>
bEqT x2 x3 fun x4 =>
cnd x4 (none)
(vLenS x0 fun x5 =>
jn (fun _ s =>
K ct s) fun K6 =>
loopE k (fun K7 v s =>
pop v fun x8 _ =>
bLt x8 x5 fun x9 =>
cnd x9 (jn (fun _ s =>
bAdd x8 (ci 1) fun x11 =>
K7 [x11] s) fun K10 =>
lgE qNoE (zK x0) s fun x12 e13 s =>
lgE qNoE (zK x8) s fun x14 e15 s =>
lgE qNoE (zV (vIaS x12 x14 1)) s fun x16 e17 s =>
lgE (qLdE x16 1) (ldA x16 take1) s fun x18 e19 s =>
lgE qNoE (zK x1) s fun x20 e21 s =>
lgE qNoE (zK x8) s fun x22 e23 s =>
lgE qNoE (zV (vIaS x20 x22 1)) s fun x24 e25 s =>
lgE (qLdE x24 1) (ldA x24 take1) s fun x26 e27 s =>
lgE qNoE (zV (vBeq true x18 x26)) s fun x28 e29 s =>
calmE [(3, 7)] [e13, e15, e17, e19, e21, e23, e25, e27, e29] (fun s =>
cnd x28 (none)
(K10 [] s)) s)
(K6 [] s)) [(ci 0)] s))
def F222 : F2 := .fn H222 true
theorem fe222 : feE Tryz.prog ann 222 2 [.cl, .j [], .j [13], .j [], .j [], .cl] = some F222 := by kernel_rfl
/- (*daguerre/heap.Heap).Words -/
def H223 : F2C := fun c _ v s K =>
pop v fun x0 v =>
endE v (
vNil false .ptr x0 fun x1 =>
cnd x1 (none)
(vChk x0 fun x2 =>
fa1 x2 1 fun x3 =>
ldA x3 take1 s fun x4 s =>
c (.mk .d0 .d0 .d2 .d4) [x4] s fun x5 s =>
K x5 s))
def F223 : F2 := .fn H223 true
theorem fe223 : feE Tryz.prog ann 223 1 [.cl] = some F223 := by kernel_rfl
/- daguerre/op.Put -/
def H224 : F2C := fun c _ v s K =>
pop v fun x0 v =>
pop v fun x1 v =>
endE v (
zTbox x1 s fun x2 s =>
fa1 x2 0 fun x3 =>
ldA x3 take1 s fun x4 s =>
c (.mk .d0 .d1 .d4 .d4) [x0, x4] s fun x5 s =>
fa1 x2 0 fun x6 =>
ldA x6 take1 s fun x7 s =>
c (.mk .d0 .d3 .d5 .d0) [x7] s fun x8 s =>
cnd x8 (none)
(fa1 x2 0 fun x9 =>
ldA x9 take1 s fun x10 s =>
c (.mk .d0 .d3 .d5 .d1) [x10] s fun x11 s =>
cnd x11 (fa1 x2 2 fun x12 =>
ldA x12 take1 s fun x13 s =>
c (.mk .d0 .d1 .d3 .d5) [x5, x13] s fun x14 s =>
fa1 x2 0 fun x15 =>
ldA x15 take1 s fun x16 s =>
c (.mk .d0 .d3 .d5 .d2) [x16] s fun x17 s =>
cnd x17 (fa1 x2 3 fun x18 =>
ldA x18 take1 s fun x19 s =>
c (.mk .d0 .d1 .d3 .d5) [x14, x19] s fun x20 s =>
K x20 s)
(none))
(none)))
def F224 : F2 := .fn H224 true
theorem fe224 : feE Tryz.prog ann 224 2 [.cl, .cr, .cr] = some F224 := by kernel_rfl
/- daguerre/op.Get -/
def H225 : F2C := fun c _ v s K =>
pop v fun x0 v =>
endE v (
boxD false [.int .i64 0, .int .i64 0, .str [], .str []] s fun x1 s =>
vBld [.nil .sl, .int .i64 0, .int .i64 0] (eCons 0 1 x0 eNil) fun x2 =>
zBox false x2 s fun x3 s =>
c (.mk .d0 .d3 .d5 .d3) [x3, (.fn 236 [] [])] s fun x4 s =>
vBld [.int .i64 0, .int .i64 0, .str [], .str []] (eCons 0 1 x4 eNil) fun x5 =>
boxD false [.int .i64 0, .int .i64 0, .str [], .str []] s fun x6 s =>
zSt x6 x5 4 s fun _ s =>
fa1 x6 0 fun x8 =>
ldA x8 take1 s fun x9 s =>
c (.mk .d0 .d3 .d5 .d0) [x9] s fun x10 s =>
cnd x10 (none)
(fa1 x6 0 fun x11 =>
ldA x11 take1 s fun x12 s =>
c (.mk .d0 .d3 .d5 .d1) [x12] s fun x13 s =>
jn (fun _ s =>
fa1 x6 0 fun x15 =>
ldA x15 take1 s fun x16 s =>
c (.mk .d0 .d3 .d5 .d2) [x16] s fun x17 s =>
jn (fun _ s =>
vChk x3 fun x19 =>
fa1 x19 2 fun x20 =>
ldA x20 take1 s fun x21 s =>
bEqT x21 (ci 0) fun x22 =>
cnd x22 (lgE qNoE (zV (vBld [.int .i64 0, .int .i64 0, .str [], .str []] eNil)) s fun x23 e24 s =>
lgE qNoE (zK x3) s fun x25 e26 s =>
lgE qNoE (zV (vChk x25)) s fun x27 e28 s =>
lgE qNoE (zV (fa1 x27 2)) s fun x29 e30 s =>
lgE (qLdE x29 1) (ldA x29 take1) s fun x31 e32 s =>
lgE qNoE (zSt x1 x23 4) s fun _ e34 s =>
lgE qNoE (zK (ci 0)) s fun x35 e36 s =>
lgE qNoE (zK x31) s fun x37 e38 s =>
calmE [(0, 4), (4, 5)] [e24, e26, e28, e30, e32, e34, e36, e38] (fun s =>
ldA x1 (takeN 4) s fun x39 s => K (.tup [x39, x35, x37]) s) s)
(lgE (qLdE x6 4) (ldA x6 (takeN 4)) s fun x40 e41 s =>
lgE qNoE (zK x3) s fun x42 e43 s =>
lgE qNoE (zV (vChk x42)) s fun x44 e45 s =>
lgE qNoE (zV (fa1 x44 1)) s fun x46 e47 s =>
lgE (qLdE x46 1) (ldA x46 take1) s fun x48 e49 s =>
lgE qNoE (zSt x1 x40 4) s fun _ e51 s =>
lgE qNoE (zK x48) s fun x52 e53 s =>
lgE qNoE (zK (ci 0)) s fun x54 e55 s =>
calmE [(0, 4), (4, 5)] [e41, e43, e45, e47, e49, e51, e53, e55] (fun s =>
ldA x1 (takeN 4) s fun x56 s => K (.tup [x56, x52, x54]) s) s)) fun K18 =>
cnd x17 (vGen (.mkf 242 [] [(.c x6)]) fun x57 =>
c (.mk .d0 .d3 .d5 .d7) [x3, x57] s fun x58 s =>
fa1 x6 3 fun x59 =>
zSt x59 x58 1 s fun _ s =>
K18 [] s)
(K18 [] s)) fun K14 =>
cnd x13 (vGen (.mkf 240 [] [(.c x6)]) fun x61 =>
c (.mk .d0 .d3 .d5 .d7) [x3, x61] s fun x62 s =>
fa1 x6 2 fun x63 =>
zSt x63 x62 1 s fun _ s =>
K14 [] s)
(K14 [] s)))
def F225 : F2 := .fn H225 true
theorem fe225 : feE Tryz.prog ann 225 1 [.cl, .j [], .j [], .j []] = some F225 := by kernel_rfl
/- daguerre/daguerrelaw3.Begun -/
def H226 : F2C := fun c _ v s K =>
endE v (
c (.mk .d0 .d3 .d6 .d4) [] s fun x0 s =>
K x0 s)
def F226 : F2 := .pur H226 true mNo
theorem fe226 : feE Tryz.prog ann 226 0 [] = some F226 := by kernel_rfl
def M226 (k : Nat) : F2 := .pur H226 true (Bool.rec mNo (mVal (.bool true)) (Nat.ble 4 k))
/- daguerre/op.May -/
def H227 : F2C := fun c _ v s K =>
pop v fun x0 v =>
endE v (
zTbox x0 s fun x1 s =>
fa1 x1 0 fun x2 =>
ldA x2 take1 s fun x3 s =>
c (.mk .d0 .d3 .d5 .d4) [x3] s fun x4 s =>
gV x4 true (fa1 x1 0) fun x5 =>
gH x4 true (ldA x5 take1) s fun x6 s =>
gV x4 true (fa1 x1 1) fun x7 =>
gH x4 true (ldA x7 take1) s fun x8 s =>
gH x4 true (c (.mk .d0 .d3 .d5 .d6) [x6, x8]) s fun x9 s =>
vPick x4 x9 cf fun x10 =>
gV x10 true (fa1 x1 0) fun x11 =>
gH x10 true (ldA x11 take1) s fun x12 s =>
gV x10 true (fa1 x1 2) fun x13 =>
gH x10 true (ldA x13 take1) s fun x14 s =>
gH x10 true (c (.mk .d0 .d3 .d6 .d1) [x12, x14]) s fun x15 s =>
vPick x10 x15 cf fun x16 =>
gV x16 true (fa1 x1 0) fun x17 =>
gH x16 true (ldA x17 take1) s fun x18 s =>
gV x16 true (fa1 x1 3) fun x19 =>
gH x16 true (ldA x19 take1) s fun x20 s =>
gH x16 true (c (.mk .d0 .d3 .d6 .d3) [x18, x20]) s fun x21 s =>
vPick x16 x21 cf fun x22 =>
K x22 s)
def F227 : F2 := .fn H227 true
theorem fe227 : feE Tryz.prog ann 227 1 [] = some F227 := by kernel_rfl
/- daguerre/daguerreref3.EqIns -/
def H228 : F2C := fun _ _ v s K =>
pop v fun x0 v =>
pop v fun x1 v =>
endE v (
zTbox x0 s fun x2 s =>
zTbox x1 s fun x3 s =>
fa1 x2 0 fun x4 =>
ldA x4 take1 s fun x5 s =>
fa1 x3 0 fun x6 =>
ldA x6 take1 s fun x7 s =>
bEqF x5 x7 fun x8 =>
gV x8 true (fa1 x2 1) fun x9 =>
gH x8 true (ldA x9 take1) s fun x10 s =>
gV x8 true (fa1 x3 1) fun x11 =>
gH x8 true (ldA x11 take1) s fun x12 s =>
gV x8 true (bEqF x10 x12) fun x13 =>
vPick x8 x13 cf fun x14 =>
gV x14 true (fa1 x2 2) fun x15 =>
gH x14 true (ldA x15 take1) s fun x16 s =>
gV x14 true (fa1 x3 2) fun x17 =>
gH x14 true (ldA x17 take1) s fun x18 s =>
gV x14 true (bEqF x16 x18) fun x19 =>
vPick x14 x19 cf fun x20 =>
gV x20 true (fa1 x2 3) fun x21 =>
gH x20 true (ldA x21 take1) s fun x22 s =>
gV x20 true (fa1 x3 3) fun x23 =>
gH x20 true (ldA x23 take1) s fun x24 s =>
gV x20 true (bEqF x22 x24) fun x25 =>
vPick x20 x25 cf fun x26 =>
K x26 s)
def F228 : F2 := .fn H228 true
theorem fe228 : feE Tryz.prog ann 228 2 [] = some F228 := by kernel_rfl
/- slices.Equal[[][2]int,[2]int] -/
def H229 : F2C := fun _ k v s K =>
pop v fun x0 v =>
pop v fun x1 v =>
endE v (
vLenS x0 fun x2 =>
vLenS x1 fun x3 =>
bEqT x2 x3 fun x4 =>
cnd x4 (none)
(vLenS x0 fun x5 =>
jn (fun _ s =>
K ct s) fun K6 =>
loopE k (fun _ v s =>
pop v fun x8 _ =>
bLt x8 x5 fun x9 =>
cnd x9 (none)
(K6 [] s)) [(ci 0)] s))
def F229 : F2 := .fn H229 true
theorem fe229 : feE Tryz.prog ann 229 2 [.cl, .j [], .j [13], .cl, .j [], .ch] = some F229 := by kernel_rfl
/- slices.Equal[[]daguerre/api.RIns,daguerre/api.RIns] -/
def H230 : F2C := fun _ k v s K =>
pop v fun x0 v =>
pop v fun x1 v =>
endE v (
vLenS x0 fun x2 =>
vLenS x1 fun x3 =>
bEqT x2 x3 fun x4 =>
cnd x4 (none)
(vLenS x0 fun x5 =>
jn (fun _ s =>
K ct s) fun K6 =>
loopE k (fun K7 v s =>
pop v fun x8 _ =>
bLt x8 x5 fun x9 =>
cnd x9 (jn (fun _ s =>
bAdd x8 (ci 1) fun x11 =>
K7 [x11] s) fun K10 =>
lgE qNoE (zK x0) s fun x12 e13 s =>
lgE qNoE (zK x8) s fun x14 e15 s =>
lgE qNoE (zV (vIaS x12 x14 4)) s fun x16 e17 s =>
lgE (qLdE x16 4) (ldA x16 (takeN 4)) s fun x18 e19 s =>
lgE qNoE (zK x1) s fun x20 e21 s =>
lgE qNoE (zK x8) s fun x22 e23 s =>
lgE qNoE (zV (vIaS x20 x22 4)) s fun x24 e25 s =>
lgE (qLdE x24 4) (ldA x24 (takeN 4)) s fun x26 e27 s =>
lgE qNoE (zV (vGen (.eqs true [(0, 0), (1, 0), (2, 0), (3, 0)] (.c x18) (.c x26)))) s fun x28 e29 s =>
calmE [(3, 7)] [e13, e15, e17, e19, e21, e23, e25, e27, e29] (fun s =>
cnd x28 (none)
(K10 [] s)) s)
(K6 [] s)) [(ci 0)] s))
def F230 : F2 := .fn H230 true
theorem fe230 : feE Tryz.prog ann 230 2 [.cl, .j [], .j [13], .j [], .j [], .cl] = some F230 := by kernel_rfl
/- slices.Equal[[]daguerre/api.RTrap,daguerre/api.RTrap] -/
def H231 : F2C := fun _ k v s K =>
pop v fun x0 v =>
pop v fun x1 v =>
endE v (
vLenS x0 fun x2 =>
vLenS x1 fun x3 =>
bEqT x2 x3 fun x4 =>
cnd x4 (none)
(vLenS x0 fun x5 =>
jn (fun _ s =>
K ct s) fun K6 =>
loopE k (fun _ v s =>
pop v fun x8 _ =>
bLt x8 x5 fun x9 =>
cnd x9 (none)
(K6 [] s)) [(ci 0)] s))
def F231 : F2 := .fn H231 true
theorem fe231 : feE Tryz.prog ann 231 2 [.cl, .j [], .j [13], .cl, .j [], .ch] = some F231 := by kernel_rfl
/- daguerre/op.a -/
def H232 : F2C := fun c _ v s K =>
pop v fun x0 v =>
endE v (
bEqF x0 (ci 1) fun x1 =>
gK x1 false x0 fun x2 =>
gV x1 false (bEqF x2 (ci 3)) fun x3 =>
vPick x1 ct x3 fun x4 =>
gK x4 false x0 fun x5 =>
gV x4 false (bEqF x5 (ci 4)) fun x6 =>
vPick x4 ct x6 fun x7 =>
gK x7 false x0 fun x8 =>
gH x7 false (c (.mk .d0 .d3 .d1 .d1) [x8]) s fun x9 s =>
vPick x7 ct x9 fun x10 =>
K x10 s)
def F232 : F2 := .fn H232 true
theorem fe232 : feE Tryz.prog ann 232 1 [] = some F232 := by kernel_rfl
/- daguerre/op.c -/
def H233 : F2C := fun c _ v s K =>
pop v fun x0 v =>
endE v (
bEqF x0 (ci 37) fun x1 =>
gK x1 false x0 fun x2 =>
gH x1 false (c (.mk .d0 .d3 .d5 .d2) [x2]) s fun x3 s =>
vPick x1 ct x3 fun x4 =>
gK x4 false x0 fun x5 =>
gH x4 false (c (.mk .d0 .d3 .d6 .d5) [x5]) s fun x6 s =>
vPick x4 ct x6 fun x7 =>
K x7 s)
def F233 : F2 := .fn H233 true
theorem fe233 : feE Tryz.prog ann 233 1 [] = some F233 := by kernel_rfl
/- daguerre/op.m -/
def H234 : F2C := fun c _ v s K =>
pop v fun x0 v =>
endE v (
c (.mk .d0 .d3 .d2 .d3) [x0, (ci 38), (ci 45)] s fun x1 s =>
K x1 s)
def F234 : F2 := .fn H234 true
theorem fe234 : feE Tryz.prog ann 234 1 [] = some F234 := by kernel_rfl
/- (*daguerre/op.reader).num -/
def H235 : F2C := fun c _ v s K =>
pop v fun x0 v =>
pop v fun x1 v =>
endE v (
vChk x0 fun x2 =>
fa1 x2 2 fun x3 =>
ldA x3 take1 s fun x4 s =>
bEqT x4 (ci 0) fun x5 =>
cnd x5 (none)
(lgE qNoE (zK x0) s fun x6 e7 s =>
lgE qNoE (zV (vChk x6)) s fun x8 e9 s =>
lgE qNoE (zV (fa1 x8 0)) s fun x10 e11 s =>
lgE (qLdE x10 1) (ldA x10 take1) s fun x12 e13 s =>
lgE qNoE (zK x0) s fun x14 e15 s =>
lgE qNoE (zV (vChk x14)) s fun x16 e17 s =>
lgE qNoE (zV (fa1 x16 1)) s fun x18 e19 s =>
lgE (qLdE x18 1) (ldA x18 take1) s fun x20 e21 s =>
lgE qNoE (zV (vSlt x12 (eX x20) eN 1)) s fun x22 e23 s =>
lgE qNoE (c (.mk .d0 .d2 .d2 .d5) [x22]) s fun x24 e25 s =>
lgE qNoE (zK x24) s fun x26 e27 s =>
lgE qNoE (zV (vExt x26 0)) s fun x28 e29 s =>
lgE qNoE (zV (vExt x26 1)) s fun x30 e31 s =>
lgE qNoE (zV (vExt x26 2)) s fun x32 e33 s =>
lgE qNoE (zK x28) s fun x34 e35 s =>
lgE qNoE (zK x30) s fun x36 e37 s =>
lgE qNoE (zK x32) s fun x38 e39 s =>
calmE [(3, 7)] [e7, e9, e11, e13, e15, e17, e19, e21, e23, e25, e27, e29, e31, e33, e35, e37, e39] (fun s =>
bEqF x38 (ci 0) fun x40 =>
gK x40 true x1 fun x41 =>
gK x40 true x34 fun x42 =>
gH x40 true (zCallV c x41 [x42]) s fun x43 s =>
gV x40 true (vGen (.un .not (.c x43))) fun x44 =>
vPick x40 x44 cf fun x45 =>
jn (fun v s =>
pop v fun x47 _ =>
vChk x0 fun x48 =>
fa1 x48 1 fun x49 =>
ldA x49 take1 s fun x50 s =>
bAdd x50 x36 fun x51 =>
vChk x0 fun x52 =>
fa1 x52 1 fun x53 =>
zSt x53 x51 1 s fun _ s =>
vChk x0 fun x55 =>
fa1 x55 2 fun x56 =>
zSt x56 x47 1 s fun _ s =>
K x34 s) fun K46 =>
cnd x45 (K46 [(ci 1)] s)
(K46 [x38] s)) s))
def F235 : F2 := .fn H235 true
theorem fe235 : feE Tryz.prog ann 235 2 [.cl, .j [7]] = some F235 := by kernel_rfl
/- daguerre/op.known -/
def H236 : F2C := fun c _ v s K =>
pop v fun x0 v =>
endE v (
c (.mk .d0 .d3 .d2 .d3) [x0, (ci 1), (ci 61)] s fun x1 s =>
K x1 s)
def F236 : F2 := .fn H236 true
theorem fe236 : feE Tryz.prog ann 236 1 [] = some F236 := by kernel_rfl
/- daguerre/op.Get$2 -/
def H240 : F2C := fun c _ v s K =>
pop v fun x0 v =>
pop v fun x1 v =>
endE v (
fa1 x1 0 fun x2 =>
ldA x2 take1 s fun x3 s =>
c (.mk .d0 .d3 .d6 .d1) [x3, x0] s fun x4 s =>
K x4 s)
def F240 : F2 := .fn H240 true
theorem fe240 : feE Tryz.prog ann 240 2 [] = some F240 := by kernel_rfl
/- (*daguerre/op.reader).text -/
def H239 : F2C := fun c _ v s K =>
pop v fun x0 v =>
pop v fun x1 v =>
endE v (
vChk x0 fun x2 =>
fa1 x2 2 fun x3 =>
ldA x3 take1 s fun x4 s =>
bEqT x4 (ci 0) fun x5 =>
cnd x5 (none)
(lgE qNoE (zK x0) s fun x6 e7 s =>
lgE qNoE (zV (vChk x6)) s fun x8 e9 s =>
lgE qNoE (zV (fa1 x8 0)) s fun x10 e11 s =>
lgE (qLdE x10 1) (ldA x10 take1) s fun x12 e13 s =>
lgE qNoE (zK x0) s fun x14 e15 s =>
lgE qNoE (zV (vChk x14)) s fun x16 e17 s =>
lgE qNoE (zV (fa1 x16 1)) s fun x18 e19 s =>
lgE (qLdE x18 1) (ldA x18 take1) s fun x20 e21 s =>
lgE qNoE (zV (vSlt x12 (eX x20) eN 1)) s fun x22 e23 s =>
lgE qNoE (c (.mk .d0 .d2 .d7 .d6) [x22]) s fun x24 e25 s =>
lgE qNoE (zK x24) s fun x26 e27 s =>
lgE qNoE (zV (vExt x26 0)) s fun x28 e29 s =>
lgE qNoE (zV (vExt x26 1)) s fun x30 e31 s =>
lgE qNoE (zV (vExt x26 2)) s fun x32 e33 s =>
lgE qNoE (zK x28) s fun x34 e35 s =>
lgE qNoE (zK x30) s fun x36 e37 s =>
lgE qNoE (zK x32) s fun x38 e39 s =>
calmE [(3, 7)] [e7, e9, e11, e13, e15, e17, e19, e21, e23, e25, e27, e29, e31, e33, e35, e37, e39] (fun s =>
bEqF x38 (ci 0) fun x40 =>
gK x40 true x1 fun x41 =>
gK x40 true x34 fun x42 =>
gH x40 true (zCallV c x41 [x42]) s fun x43 s =>
gV x40 true (vGen (.un .not (.c x43))) fun x44 =>
vPick x40 x44 cf fun x45 =>
cnd x45 (none)
(vChk x0 fun x46 =>
fa1 x46 1 fun x47 =>
ldA x47 take1 s fun x48 s =>
bAdd x48 x36 fun x49 =>
vChk x0 fun x50 =>
fa1 x50 1 fun x51 =>
zSt x51 x49 1 s fun _ s =>
vChk x0 fun x53 =>
fa1 x53 2 fun x54 =>
zSt x54 x38 1 s fun _ s =>
K x34 s)) s))
def F239 : F2 := .fn H239 true
theorem fe239 : feE Tryz.prog ann 239 2 [.cl, .cl] = some F239 := by kernel_rfl
/- daguerre/op.Get$3 -/
def H242 : F2C := fun c _ v s K =>
pop v fun x0 v =>
pop v fun x1 v =>
endE v (
fa1 x1 0 fun x2 =>
ldA x2 take1 s fun x3 s =>
c (.mk .d0 .d3 .d6 .d3) [x3, x0] s fun x4 s =>
K x4 s)
def F242 : F2 := .fn H242 true
theorem fe242 : feE Tryz.prog ann 242 2 [] = some F242 := by kernel_rfl
/- daguerre/daguerrelaw3.begun -/
def H244 : F2C := fun c _ v s K =>
endE v (
c (.mk .d0 .d3 .d7 .d1) [(.str [91, 91, 65, 98])] s fun x0 s =>
vExt x0 0 fun x1 =>
vExt x0 1 fun x2 =>
c (.mk .d0 .d3 .d7 .d1) [(.str [65, 98])] s fun x3 s =>
vExt x3 0 fun _ =>
vExt x3 1 fun x5 =>
c (.mk .d0 .d3 .d6 .d7) [(.str [65, 98])] s fun x6 s =>
gH x6 true (c (.mk .d0 .d3 .d6 .d7) [(.str [65])]) s fun x7 s =>
gV x6 true (vGen (.un .not (.c x7))) fun x8 =>
vPick x6 x8 cf fun x9 =>
gH x9 true (c (.mk .d0 .d3 .d7 .d0) [(.str [97, 98])]) s fun x10 s =>
vPick x9 x10 cf fun x11 =>
gH x11 true (c (.mk .d0 .d3 .d7 .d0) [(.str [36, 105, 110, 105, 116])]) s fun x12 s =>
vPick x11 x12 cf fun x13 =>
gH x13 true (c (.mk .d0 .d3 .d7 .d0) [(.str [65, 98])]) s fun x14 s =>
gV x13 true (vGen (.un .not (.c x14))) fun x15 =>
vPick x13 x15 cf fun x16 =>
gH x16 true (c (.mk .d0 .d3 .d7 .d2) [(.str [91, 91, 73])]) s fun x17 s =>
vPick x16 x17 cf fun x18 =>
gH x18 true (c (.mk .d0 .d3 .d7 .d2) [(.str [91, 91, 91, 73])]) s fun x19 s =>
gV x18 true (vGen (.un .not (.c x19))) fun x20 =>
vPick x18 x20 cf fun x21 =>
gH x21 true (c (.mk .d0 .d3 .d7 .d3) [(.str [86])]) s fun x22 s =>
vPick x21 x22 cf fun x23 =>
gH x23 true (c (.mk .d0 .d3 .d7 .d2) [(.str [86])]) s fun x24 s =>
gV x23 true (vGen (.un .not (.c x24))) fun x25 =>
vPick x23 x25 cf fun x26 =>
gH x26 true (c (.mk .d0 .d3 .d6 .d6) [(.str [91, 73])]) s fun x27 s =>
vPick x26 x27 cf fun x28 =>
gH x28 true (c (.mk .d0 .d3 .d6 .d6) [(.str [73])]) s fun x29 s =>
gV x28 true (vGen (.un .not (.c x29))) fun x30 =>
vPick x28 x30 cf fun x31 =>
gK x31 true x1 fun x32 =>
gV x31 true (bEqF x32 (.str [91, 65, 98])) fun x33 =>
vPick x31 x33 cf fun x34 =>
gK x34 true x2 fun x35 =>
vPick x34 x35 cf fun x36 =>
gK x36 true x5 fun x37 =>
gV x36 true (vGen (.un .not (.c x37))) fun x38 =>
vPick x36 x38 cf fun x39 =>
gH x39 true (c (.mk .d0 .d3 .d7 .d4) [(.str [73])]) s fun x40 s =>
gV x39 true (bEqF x40 (.str [91, 73])) fun x41 =>
vPick x39 x41 cf fun x42 =>
gH x42 true (c (.mk .d0 .d3 .d7 .d4) [(.str [91, 91, 73])]) s fun x43 s =>
gV x42 true (bEqF x43 (.str [])) fun x44 =>
vPick x42 x44 cf fun x45 =>
K x45 s)
def F244 : F2 := .pur H244 true mNo
theorem fe244 : feE Tryz.prog ann 244 0 [] = some F244 := by kernel_rfl
def M244 (k : Nat) : F2 := .pur H244 true (Bool.rec mNo (mVal (.bool true)) (Nat.ble 3 k))
/- daguerre/op.mayA -/
def H238 : F2C := fun c _ v s K =>
pop v fun x0 v =>
pop v fun x1 v =>
endE v (
jn (fun _ s =>
bEqF x1 (ci 0) fun x3 =>
K x3 s) fun K2 =>
bEqF x0 (ci 1) fun x4 =>
cnd x4 (none)
(bEqF x0 (ci 3) fun x5 =>
gK x5 false x0 fun x6 =>
gV x5 false (bEqF x6 (ci 4)) fun x7 =>
vPick x5 ct x7 fun x8 =>
cnd x8 (none)
(c (.mk .d0 .d3 .d1 .d1) [x0] s fun x9 s =>
cnd x9 (none)
(K2 [] s))))
def F238 : F2 := .fn H238 true
theorem fe238 : feE Tryz.prog ann 238 2 [.j [], .cl, .cl, .cl] = some F238 := by kernel_rfl
/- daguerre/op.mayC -/
def H241 : F2C := fun c _ v s K =>
pop v fun x0 v =>
pop v fun x1 v =>
endE v (
jn (fun _ s =>
bEqF x1 (.str []) fun x3 =>
K x3 s) fun _ =>
c (.mk .d0 .d3 .d6 .d5) [x0] s fun x4 s =>
cnd x4 (none)
(c (.mk .d0 .d3 .d5 .d1) [x0] s fun x5 s =>
cnd x5 (c (.mk .d0 .d3 .d6 .d7) [x1] s fun x6 s =>
K x6 s)
(none)))
def F241 : F2 := .fn H241 true
theorem fe241 : feE Tryz.prog ann 241 2 [.j [], .cl, .cr] = some F241 := by kernel_rfl
/- daguerre/op.mayM -/
def H243 : F2C := fun c _ v s K =>
pop v fun x0 v =>
pop v fun x1 v =>
endE v (
c (.mk .d0 .d3 .d5 .d2) [x0] s fun x2 s =>
cnd x2 (c (.mk .d0 .d3 .d7 .d0) [x1] s fun x3 s =>
gK x3 true x1 fun x4 =>
gV x3 true (bEqT x4 (.str [36, 105, 110, 105, 116])) fun x5 =>
vPick x3 x5 cf fun x6 =>
K x6 s)
(none))
def F243 : F2 := .fn H243 true
theorem fe243 : feE Tryz.prog ann 243 2 [.cr] = some F243 := by kernel_rfl
/- daguerre/op.typed -/
def H245 : F2C := fun _ _ v s K =>
pop v fun x0 v =>
endE v (
bEqF x0 (ci 50) fun x1 =>
gK x1 false x0 fun x2 =>
gV x1 false (bEqF x2 (ci 56)) fun x3 =>
vPick x1 ct x3 fun x4 =>
gK x4 false x0 fun x5 =>
gV x4 false (bEqF x5 (ci 57)) fun x6 =>
vPick x4 ct x6 fun x7 =>
K x7 s)
def F245 : F2 := .fn H245 true
theorem fe245 : feE Tryz.prog ann 245 1 [] = some F245 := by kernel_rfl
/- daguerre/kind.Elem -/
def H249 : F2C := fun c _ v s K =>
pop v fun x0 v =>
endE v (
c (.mk .d0 .d3 .d7 .d2) [x0] s fun x1 s =>
vGen (.un .not (.c x1)) fun x2 =>
gK x2 false x0 fun x3 =>
gV x2 false (vIxs x3 (ci 0)) fun x4 =>
gV x2 false (bEqT x4 (cu 91)) fun x5 =>
vPick x2 ct x5 fun x6 =>
cnd x6 (K (.tup [(.str []), cf]) s)
(vGen (.sls (.c x0) (some (.c (ci 1))) none) fun x7 =>
K (.tup [x7, ct]) s))
def F249 : F2 := .fn H249 true
theorem fe249 : feE Tryz.prog ann 249 1 [.j []] = some F249 := by kernel_rfl
end
end Go.Proofs.SlimCode
