/- Code for the evaluator, part 2. -/
import Derived.Test.YtinkmbejinemaaaGreatEwC1
open Go Go.Abs
namespace Go.Proofs.SlimCode
set_option maxRecDepth 100000
noncomputable section
/- daguerre/daguerreref3.eqMethod -/
def H254 : F2C := fun c k v s K =>
pop v fun x0 v =>
pop v fun x1 v =>
endE v (
zTbox x0 s fun x2 s =>
zTbox x1 s fun x3 s =>
fa1 x2 0 fun x4 =>
ldA x4 take1 s fun x5 s =>
fa1 x3 0 fun x6 =>
ldA x6 take1 s fun x7 s =>
bEqT x5 x7 fun x8 =>
gV x8 false (fa1 x2 1) fun x9 =>
gH x8 false (ldA x9 take1) s fun x10 s =>
gV x8 false (fa1 x3 1) fun x11 =>
gH x8 false (ldA x11 take1) s fun x12 s =>
gH x8 false (c (.mk .d0 .d0 .d2 .d4) [x10, x12]) s fun x13 s =>
gV x8 false (vGen (.un .not (.c x13))) fun x14 =>
vPick x8 ct x14 fun x15 =>
gV x15 false (fa1 x2 2) fun x16 =>
gH x15 false (ldA x16 take1) s fun x17 s =>
gV x15 false (fa1 x3 2) fun x18 =>
gH x15 false (ldA x18 take1) s fun x19 s =>
gV x15 false (bEqT x17 x19) fun x20 =>
vPick x15 ct x20 fun x21 =>
gV x21 false (fa1 x2 3) fun x22 =>
gH x21 false (ldA x22 take1) s fun x23 s =>
gV x21 false (fa1 x3 3) fun x24 =>
gH x21 false (ldA x24 take1) s fun x25 s =>
gV x21 false (vBeq true x23 x25) fun x26 =>
vPick x21 ct x26 fun x27 =>
gV x27 false (fa1 x2 4) fun x28 =>
gH x27 false (ldA x28 take1) s fun x29 s =>
gV x27 false (fa1 x3 4) fun x30 =>
gH x27 false (ldA x30 take1) s fun x31 s =>
gV x27 false (vBeq true x29 x31) fun x32 =>
vPick x27 ct x32 fun x33 =>
gV x33 false (fa1 x2 5) fun x34 =>
gH x33 false (ldA x34 take1) s fun x35 s =>
gV x33 false (fa1 x3 5) fun x36 =>
gH x33 false (ldA x36 take1) s fun x37 s =>
gV x33 false (bEqT x35 x37) fun x38 =>
vPick x33 ct x38 fun x39 =>
gV x39 false (fa1 x2 6) fun x40 =>
gH x39 false (ldA x40 take1) s fun x41 s =>
gV x39 false (fa1 x3 6) fun x42 =>
gH x39 false (ldA x42 take1) s fun x43 s =>
gV x39 false (bEqT x41 x43) fun x44 =>
vPick x39 ct x44 fun x45 =>
gV x45 false (fa1 x2 7) fun x46 =>
gH x45 false (ldA x46 take1) s fun x47 s =>
gV x45 false (vLenS x47) fun x48 =>
gV x45 false (fa1 x3 7) fun x49 =>
gH x45 false (ldA x49 take1) s fun x50 s =>
gV x45 false (vLenS x50) fun x51 =>
gV x45 false (bEqT x48 x51) fun x52 =>
vPick x45 ct x52 fun x53 =>
gV x53 false (fa1 x2 8) fun x54 =>
gH x53 false (ldA x54 take1) s fun x55 s =>
gV x53 false (vLenS x55) fun x56 =>
gV x53 false (fa1 x3 8) fun x57 =>
gH x53 false (ldA x57 take1) s fun x58 s =>
gV x53 false (vLenS x58) fun x59 =>
gV x53 false (bEqT x56 x59) fun x60 =>
vPick x53 ct x60 fun x61 =>
gV x61 false (fa1 x2 9) fun x62 =>
gH x61 false (ldA x62 take1) s fun x63 s =>
gV x61 false (vLenS x63) fun x64 =>
gV x61 false (fa1 x3 9) fun x65 =>
gH x61 false (ldA x65 take1) s fun x66 s =>
gV x61 false (vLenS x66) fun x67 =>
gV x61 false (bEqT x64 x67) fun x68 =>
vPick x61 ct x68 fun x69 =>
cnd x69 (none)
(jn (fun _ s =>
jn (fun _ s =>
jn (fun _ s =>
K ct s) fun K72 =>
loopE k (fun _ v s =>
pop v fun x74 _ =>
fa1 x2 9 fun x75 =>
ldA x75 take1 s fun x76 s =>
vLenS x76 fun x77 =>
bLt x74 x77 fun x78 =>
cnd x78 (none)
(K72 [] s)) [(ci 0)] s) fun K71 =>
loopE k (fun _ v s =>
pop v fun x80 _ =>
fa1 x2 8 fun x81 =>
ldA x81 take1 s fun x82 s =>
vLenS x82 fun x83 =>
bLt x80 x83 fun x84 =>
cnd x84 (none)
(K71 [] s)) [(ci 0)] s) fun K70 =>
loopE k (fun K85 v s =>
pop v fun x86 _ =>
fa1 x2 7 fun x87 =>
ldA x87 take1 s fun x88 s =>
vLenS x88 fun x89 =>
bLt x86 x89 fun x90 =>
cnd x90 (jn (fun _ s =>
bAdd x86 (ci 1) fun x92 =>
K85 [x92] s) fun K91 =>
lgE qNoE (zV (fa1 x2 7)) s fun x93 e94 s =>
lgE (qLdE x93 1) (ldA x93 take1) s fun x95 e96 s =>
lgE qNoE (zK x86) s fun x97 e98 s =>
lgE qNoE (zV (vIaS x95 x97 4)) s fun x99 e100 s =>
lgE (qLdE x99 4) (ldA x99 (takeN 4)) s fun x101 e102 s =>
lgE qNoE (zV (fa1 x3 7)) s fun x103 e104 s =>
lgE (qLdE x103 1) (ldA x103 take1) s fun x105 e106 s =>
lgE qNoE (zK x86) s fun x107 e108 s =>
lgE qNoE (zV (vIaS x105 x107 4)) s fun x109 e110 s =>
lgE (qLdE x109 4) (ldA x109 (takeN 4)) s fun x111 e112 s =>
lgE qNoE (c (.mk .d0 .d4 .d2 .d1) [x101, x111]) s fun x113 e114 s =>
lgE qNoE (zV (vGen (.un .not (.c x113)))) s fun x115 e116 s =>
calmE [(1, 6), (4, 6), (1, 9), (4, 9)] [e94, e96, e98, e100, e102, e104, e106, e108, e110, e112, e114, e116] (fun s =>
cnd x115 (none)
(K91 [] s)) s)
(K70 [] s)) [(ci 0)] s))
def F254 : F2 := .fn H254 true
theorem fe254 : feE Tryz.prog ann 254 2 [.cl, .j [], .j [5], .j [], .j [], .cl, .j [], .j [6], .cl, .j [], .ch, .j [], .j [9], .cl, .j [], .ch] = some F254 := by kernel_rfl
/- (*daguerre/file.writer).num -/
def H255 : F2C := fun c _ v s K =>
pop v fun x0 v =>
pop v fun x1 v =>
endE v (
vChk x0 fun x2 =>
fa1 x2 1 fun x3 =>
ldA x3 take1 s fun x4 s =>
c (.mk .d0 .d3 .d6 .d1) [x4, x1] s fun x5 s =>
vChk x0 fun x6 =>
fa1 x6 1 fun x7 =>
zSt x7 x5 1 s fun _ s =>
K (.tup []) s)
def F255 : F2 := .fn H255 true
theorem fe255 : feE Tryz.prog ann 255 2 [] = some F255 := by kernel_rfl
/- (*daguerre/file.writer).ins -/
def H257 : F2C := fun c _ v s K =>
pop v fun x0 v =>
pop v fun x1 v =>
endE v (
zTbox x1 s fun x2 s =>
fa1 x2 0 fun x3 =>
ldA x3 take1 s fun x4 s =>
c (.mk .d0 .d3 .d7 .d7) [x0, x4] s fun _ s =>
fa1 x2 1 fun x6 =>
ldA x6 take1 s fun x7 s =>
c (.mk .d0 .d3 .d7 .d7) [x0, x7] s fun _ s =>
fa1 x2 2 fun x9 =>
ldA x9 take1 s fun x10 s =>
c (.mk .d0 .d3 .d5 .d2) [x0, x10] s fun _ s =>
fa1 x2 3 fun x12 =>
ldA x12 take1 s fun x13 s =>
c (.mk .d0 .d3 .d5 .d2) [x0, x13] s fun _ s =>
K (.tup []) s)
def F257 : F2 := .fn H257 true
theorem fe257 : feE Tryz.prog ann 257 2 [] = some F257 := by kernel_rfl
/- daguerre/file.list[daguerre/api.Ins] -/
def H256 : F2C := fun c k v s K =>
pop v fun x0 v =>
pop v fun x1 v =>
pop v fun x2 v =>
endE v (
vLenS x1 fun x3 =>
c (.mk .d0 .d3 .d7 .d7) [x0, x3] s fun _ s =>
vLenS x1 fun x5 =>
jn (fun _ s =>
K (.tup []) s) fun K6 =>
loopE k (fun K7 v s =>
pop v fun x8 _ =>
bLt x8 x5 fun x9 =>
cnd x9 (jn (fun _ s =>
bAdd x8 (ci 1) fun x11 =>
K7 [x11] s) fun K10 =>
vIaS x1 x8 4 fun x12 =>
ldA x12 (takeN 4) s fun x13 s =>
boxD false [.int .i64 0, .int .i64 0, .str [], .str []] s fun x14 s =>
zSt x14 x13 4 s fun _ s =>
ldA x14 (takeN 4) s fun x16 s =>
zCallV c x2 [x16] s fun _ s =>
K10 [] s)
(K6 [] s)) [(ci 0)] s)
def F256 : F2 := .fn H256 true
theorem fe256 : feE Tryz.prog ann 256 3 [.j [], .j [14], .j [], .j []] = some F256 := by kernel_rfl
/- daguerre/file.list[daguerre/api.Map] -/
def H258 : F2C := fun c k v s K =>
pop v fun x0 v =>
pop v fun x1 v =>
pop v fun _ v =>
endE v (
vLenS x1 fun x3 =>
c (.mk .d0 .d3 .d7 .d7) [x0, x3] s fun _ s =>
vLenS x1 fun x5 =>
jn (fun _ s =>
K (.tup []) s) fun K6 =>
loopE k (fun _ v s =>
pop v fun x8 _ =>
bLt x8 x5 fun x9 =>
cnd x9 (none)
(K6 [] s)) [(ci 0)] s)
def F258 : F2 := .fn H258 true
theorem fe258 : feE Tryz.prog ann 258 3 [.j [], .j [14], .cl, .j []] = some F258 := by kernel_rfl
/- daguerre/file.list[daguerre/api.Trap] -/
def H260 : F2C := fun c k v s K =>
pop v fun x0 v =>
pop v fun x1 v =>
pop v fun _ v =>
endE v (
vLenS x1 fun x3 =>
c (.mk .d0 .d3 .d7 .d7) [x0, x3] s fun _ s =>
vLenS x1 fun x5 =>
jn (fun _ s =>
K (.tup []) s) fun K6 =>
loopE k (fun _ v s =>
pop v fun x8 _ =>
bLt x8 x5 fun x9 =>
cnd x9 (none)
(K6 [] s)) [(ci 0)] s)
def F260 : F2 := .fn H260 true
theorem fe260 : feE Tryz.prog ann 260 3 [.j [], .j [14], .cl, .j []] = some F260 := by kernel_rfl
/- daguerre/num.GetText -/
def H263 : F2C := fun c _ v s K =>
pop v fun x0 v =>
endE v (
c (.mk .d0 .d4 .d2 .d2) [x0] s fun x1 s =>
vExt x1 0 fun x2 =>
vExt x1 1 fun x3 =>
vExt x1 2 fun x4 =>
jn (fun _ s =>
bAdd x3 x2 fun x6 =>
vSlt x0 (eX x3) (eX x6) 1 fun x7 =>
b2sA x7 s fun x8 s =>
bAdd x3 x2 fun x9 =>
K (.tup [x8, x9, (ci 0)]) s) fun K5 =>
bEqT x4 (ci 0) fun x10 =>
cnd x10 (none)
(bLt x2 (ci 0) fun x11 =>
gK x11 false x2 fun x12 =>
gV x11 false (bGt x12 (ci 1048576)) fun x13 =>
vPick x11 ct x13 fun x14 =>
cnd x14 (none)
(vLenS x0 fun x15 =>
bSub x15 x3 fun x16 =>
bGt x2 x16 fun x17 =>
cnd x17 (none)
(K5 [] s))))
def F263 : F2 := .fn H263 true
theorem fe263 : feE Tryz.prog ann 263 1 [.j [], .cl, .cl, .cl] = some F263 := by kernel_rfl
/- (*daguerre/file.reader).skip -/
def H264 : F2C := fun _ _ v s K =>
pop v fun x0 v =>
pop v fun x1 v =>
pop v fun x2 v =>
endE v (
vChk x0 fun x3 =>
fa1 x3 2 fun x4 =>
ldA x4 take1 s fun x5 s =>
gK x5 false x2 fun x6 =>
gV x5 false (bEqT x6 (ci 0)) fun x7 =>
vPick x5 ct x7 fun x8 =>
vChk x0 fun x9 =>
fa1 x9 2 fun x10 =>
zSt x10 x8 1 s fun _ s =>
vChk x0 fun x12 =>
fa1 x12 2 fun x13 =>
ldA x13 take1 s fun x14 s =>
vGen (.un .not (.c x14)) fun x15 =>
cnd x15 (vChk x0 fun x16 =>
fa1 x16 1 fun x17 =>
ldA x17 take1 s fun x18 s =>
vSlt x18 (eX x1) eN 1 fun x19 =>
vChk x0 fun x20 =>
fa1 x20 1 fun x21 =>
zSt x21 x19 1 s fun _ s =>
K (.tup []) s)
(none))
def F264 : F2 := .fn H264 true
theorem fe264 : feE Tryz.prog ann 264 3 [.cr] = some F264 := by kernel_rfl
/- (*daguerre/file.reader).num -/
def H262 : F2C := fun c _ v s K =>
pop v fun x0 v =>
endE v (
vChk x0 fun x1 =>
fa1 x1 1 fun x2 =>
ldA x2 take1 s fun x3 s =>
c (.mk .d0 .d4 .d2 .d2) [x3] s fun x4 s =>
vExt x4 0 fun x5 =>
vExt x4 1 fun x6 =>
vExt x4 2 fun x7 =>
c (.mk .d0 .d4 .d1 .d0) [x0, x6, x7] s fun _ s =>
vChk x0 fun x9 =>
fa1 x9 2 fun x10 =>
ldA x10 take1 s fun x11 s =>
cnd x11 (none)
(K x5 s))
def F262 : F2 := .fn H262 true
theorem fe262 : feE Tryz.prog ann 262 1 [.cl] = some F262 := by kernel_rfl
/- (*daguerre/file.reader).ins -/
def H266 : F2C := fun c _ v s K =>
pop v fun x0 v =>
endE v (
boxD false [.int .i64 0, .int .i64 0, .str [], .str []] s fun x1 s =>
c (.mk .d0 .d4 .d0 .d6) [x0] s fun x2 s =>
c (.mk .d0 .d4 .d0 .d6) [x0] s fun x3 s =>
c (.mk .d0 .d3 .d6 .d6) [x0] s fun x4 s =>
c (.mk .d0 .d3 .d6 .d6) [x0] s fun x5 s =>
vBld [.int .i64 0, .int .i64 0, .str [], .str []] (eCons 0 1 x2 (eCons 1 1 x3 (eCons 2 1 x4 (eCons 3 1 x5 eNil)))) fun x6 =>
zSt x1 x6 4 s fun _ s =>
ldA x1 (takeN 4) s K)
def F266 : F2 := .fn H266 true
theorem fe266 : feE Tryz.prog ann 266 1 [] = some F266 := by kernel_rfl
/- daguerre/file.read[daguerre/api.Ins] -/
def H265 : F2C := fun c k v s K =>
pop v fun x0 v =>
pop v fun x1 v =>
endE v (
c (.mk .d0 .d4 .d0 .d6) [x0] s fun x2 s =>
jn (fun v s =>
pop v fun x4 _ =>
K x4 s) fun K3 =>
loopE k (fun K5 v s =>
pop v fun x6 v =>
pop v fun x7 _ =>
bGt x6 (ci 0) fun x8 =>
gK x8 true x0 fun x9 =>
gV x8 true (vChk x9) fun x10 =>
gV x8 true (fa1 x10 2) fun x11 =>
gH x8 true (ldA x11 take1) s fun x12 s =>
gV x8 true (vGen (.un .not (.c x12))) fun x13 =>
vPick x8 x13 cf fun x14 =>
cnd x14 (jn (fun v s =>
pop v fun x16 _ =>
bSub x6 (ci 1) fun x17 =>
K5 [x17, x16] s) fun K15 =>
zCallV c x1 [] s fun x18 s =>
zBsl [.int .i64 0, .int .i64 0, .str [], .str []] 4 1 (eCons 0 4 x18 eNil) s fun x19 s =>
appB 4 48 x7 x19 s fun x20 s =>
K15 [x20] s)
(K3 [x7] s)) [x2, (.nil .sl)] s)
def F265 : F2 := .fn H265 true
theorem fe265 : feE Tryz.prog ann 265 2 [.j [5], .j [6, 5], .j [], .j [5]] = some F265 := by kernel_rfl
/- daguerre/file.read[daguerre/api.Map] -/
def H267 : F2C := fun c k v s K =>
pop v fun x0 v =>
pop v fun _ v =>
endE v (
c (.mk .d0 .d4 .d0 .d6) [x0] s fun x2 s =>
jn (fun v s =>
pop v fun x4 _ =>
K x4 s) fun K3 =>
loopE k (fun _ v s =>
pop v fun x6 v =>
pop v fun x7 _ =>
bGt x6 (ci 0) fun x8 =>
gK x8 true x0 fun x9 =>
gV x8 true (vChk x9) fun x10 =>
gV x8 true (fa1 x10 2) fun x11 =>
gH x8 true (ldA x11 take1) s fun x12 s =>
gV x8 true (vGen (.un .not (.c x12))) fun x13 =>
vPick x8 x13 cf fun x14 =>
cnd x14 (none)
(K3 [x7] s)) [x2, (.nil .sl)] s)
def F267 : F2 := .fn H267 true
theorem fe267 : feE Tryz.prog ann 267 2 [.j [5], .j [6, 5], .cl, .j [5]] = some F267 := by kernel_rfl
/- daguerre/file.read[daguerre/api.Trap] -/
def H269 : F2C := fun c k v s K =>
pop v fun x0 v =>
pop v fun _ v =>
endE v (
c (.mk .d0 .d4 .d0 .d6) [x0] s fun x2 s =>
jn (fun v s =>
pop v fun x4 _ =>
K x4 s) fun K3 =>
loopE k (fun _ v s =>
pop v fun x6 v =>
pop v fun x7 _ =>
bGt x6 (ci 0) fun x8 =>
gK x8 true x0 fun x9 =>
gV x8 true (vChk x9) fun x10 =>
gV x8 true (fa1 x10 2) fun x11 =>
gH x8 true (ldA x11 take1) s fun x12 s =>
gV x8 true (vGen (.un .not (.c x12))) fun x13 =>
vPick x8 x13 cf fun x14 =>
cnd x14 (none)
(K3 [x7] s)) [x2, (.nil .sl)] s)
def F269 : F2 := .fn H269 true
theorem fe269 : feE Tryz.prog ann 269 2 [.j [5], .j [6, 5], .cl, .j [5]] = some F269 := by kernel_rfl
/- daguerre/daguerrelaw4.Begun -/
def H271 : F2C := fun c _ v s K =>
endE v (
c (.mk .d0 .d4 .d2 .d3) [] s fun x0 s =>
K x0 s)
def F271 : F2 := .pur H271 true mNo
theorem fe271 : feE Tryz.prog ann 271 0 [] = some F271 := by kernel_rfl
def M271 (k : Nat) : F2 := .pur H271 true (Bool.rec mNo (mVal (.bool true)) (Nat.ble 2 k))
/- daguerre/class.Eq -/
def H272 : F2C := fun c _ v s K =>
pop v fun x0 v =>
pop v fun x1 v =>
endE v (
zTbox x0 s fun x2 s =>
zTbox x1 s fun x3 s =>
fa1 x2 0 fun x4 =>
ldA x4 take1 s fun x5 s =>
fa1 x3 0 fun x6 =>
ldA x6 take1 s fun x7 s =>
bEqF x5 x7 fun x8 =>
gV x8 true (fa1 x2 1) fun x9 =>
gH x8 true (ldA x9 take1) s fun x10 s =>
gV x8 true (fa1 x3 1) fun x11 =>
gH x8 true (ldA x11 take1) s fun x12 s =>
gV x8 true (bEqF x10 x12) fun x13 =>
vPick x8 x13 cf fun x14 =>
gV x14 true (fa1 x2 2) fun x15 =>
gH x14 true (ldA x15 take1) s fun x16 s =>
gV x14 true (fa1 x3 2) fun x17 =>
gH x14 true (ldA x17 take1) s fun x18 s =>
gV x14 true (vBeq false x16 x18) fun x19 =>
vPick x14 x19 cf fun x20 =>
gV x20 true (fa1 x2 3) fun x21 =>
gH x20 true (ldA x21 take1) s fun x22 s =>
gV x20 true (fa1 x3 3) fun x23 =>
gH x20 true (ldA x23 take1) s fun x24 s =>
gH x20 true (c (.mk .d0 .d2 .d4 .d2) [x22, x24]) s fun x25 s =>
vPick x20 x25 cf fun x26 =>
gV x26 true (fa1 x2 4) fun x27 =>
gH x26 true (ldA x27 take1) s fun x28 s =>
gV x26 true (fa1 x3 4) fun x29 =>
gH x26 true (ldA x29 take1) s fun x30 s =>
gH x26 true (c (.mk .d0 .d4 .d2 .d4) [x28, x30]) s fun x31 s =>
vPick x26 x31 cf fun x32 =>
gV x32 true (fa1 x2 5) fun x33 =>
gH x32 true (ldA x33 take1) s fun x34 s =>
gV x32 true (fa1 x3 5) fun x35 =>
gH x32 true (ldA x35 take1) s fun x36 s =>
gH x32 true (c (.mk .d0 .d4 .d2 .d5) [x34, x36, (.fn 278 [] [])]) s fun x37 s =>
vPick x32 x37 cf fun x38 =>
K x38 s)
def F272 : F2 := .fn H272 true
theorem fe272 : feE Tryz.prog ann 272 2 [] = some F272 := by kernel_rfl
/- daguerre/daguerreref3.EqIns -/
def H273 : F2C := fun _ _ v s K =>
pop v fun x0 v =>
pop v fun x1 v =>
endE v (
zTbox x0 s fun x2 s =>
zTbox x1 s fun x3 s =>
fa1 x2 0 fun x4 =>
ldA x4 take1 s fun x5 s =>
fa1 x3 0 fun x6 =>
ldA x6 take1 s fun x7 s =>
bEqF x5 x7 fun x8 =>
gV x8 true (fa1 x2 1) fun x9 =>
gH x8 true (ldA x9 take1) s fun x10 s =>
gV x8 true (fa1 x3 1) fun x11 =>
gH x8 true (ldA x11 take1) s fun x12 s =>
gV x8 true (bEqF x10 x12) fun x13 =>
vPick x8 x13 cf fun x14 =>
gV x14 true (fa1 x2 2) fun x15 =>
gH x14 true (ldA x15 take1) s fun x16 s =>
gV x14 true (fa1 x3 2) fun x17 =>
gH x14 true (ldA x17 take1) s fun x18 s =>
gV x14 true (bEqF x16 x18) fun x19 =>
vPick x14 x19 cf fun x20 =>
gV x20 true (fa1 x2 3) fun x21 =>
gH x20 true (ldA x21 take1) s fun x22 s =>
gV x20 true (fa1 x3 3) fun x23 =>
gH x20 true (ldA x23 take1) s fun x24 s =>
gV x20 true (bEqF x22 x24) fun x25 =>
vPick x20 x25 cf fun x26 =>
K x26 s)
def F273 : F2 := .fn H273 true
theorem fe273 : feE Tryz.prog ann 273 2 [] = some F273 := by kernel_rfl
/- daguerre/num.Get -/
def H274 : F2C := fun _ k v s K =>
pop v fun x0 v =>
endE v (
vLenS x0 fun x1 =>
jn (fun _ s =>
K (.tup [(ci 0), (ci 0), (ci 2)]) s) fun K2 =>
loopE k (fun K3 v s =>
pop v fun x4 v =>
pop v fun x5 _ =>
bLt x4 x1 fun x6 =>
cnd x6 (jn (fun v s =>
pop v fun x8 _ =>
bAdd x4 (ci 1) fun x9 =>
K3 [x9, x8] s) fun _ =>
vIaS x0 x4 1 fun x10 =>
ldA x10 take1 s fun x11 s =>
bEqF x4 (ci 9) fun x12 =>
gK x12 true x11 fun x13 =>
gV x12 true (bGt x13 (cu 1)) fun x14 =>
vPick x12 x14 cf fun x15 =>
cnd x15 (none)
(bAnd x11 (cu 127) fun x16 =>
vCv .u64 x16 fun x17 =>
bMul (ci 7) x4 fun x18 =>
bShl x17 x18 fun x19 =>
bOr x5 x19 fun x20 =>
bGt x11 (cu 127) fun x21 =>
cnd x21 (none)
(bGt x4 (ci 0) fun x22 =>
gK x22 true x11 fun x23 =>
gV x22 true (bEqF x23 (cu 0)) fun x24 =>
vPick x22 x24 cf fun x25 =>
cnd x25 (none)
(bShr x20 (.int .u64 1) fun x26 =>
vCv .i64 x26 fun x27 =>
bAnd x20 (.int .u64 1) fun x28 =>
bEqF x28 (.int .u64 1) fun x29 =>
cnd x29 (none)
(bAdd x4 (ci 1) fun x30 =>
K (.tup [x27, x30, (ci 0)]) s)))))
(K2 [] s)) [(ci 0), (.int .u64 0)] s)
def F274 : F2 := .fn H274 true
theorem fe274 : feE Tryz.prog ann 274 1 [.j [], .j [11, 5], .j [], .j [5], .cl, .cl, .cl, .cl] = some F274 := by kernel_rfl
/- daguerre/daguerrelaw4.begun -/
def H275 : F2C := fun c _ v s K =>
endE v (
vBld [.int .i64 0, .int .i64 0, .str [], .str []] (eCons 0 1 (ci 43) (eCons 2 1 (.str [65, 98]) (eCons 3 1 (.str [102]) eNil))) fun x0 =>
boxD false [.int .i64 0, .int .i64 0, .str [], .str []] s fun x1 s =>
zSt x1 x0 4 s fun _ s =>
ldA x1 (takeN 4) s fun x3 s =>
c (.mk .d0 .d4 .d2 .d7) [(.nil .sl), x3] s fun x4 s =>
appB 1 1 (.nil .sl) x4 s fun x5 s =>
zBsl [.int .u8 0] 1 1 (eCons 0 1 (cu 1) eNil) s fun x6 s =>
zTree (appB 1 1 x5 x6) s fun x7 s =>
c (.mk .d0 .d4 .d3 .d0) [x7] s fun x8 s =>
vExt x8 0 fun x9 =>
vExt x8 1 fun x10 =>
vExt x8 2 fun x11 =>
boxD false [.int .i64 0, .int .i64 0, .str [], .str []] s fun x12 s =>
zSt x12 x9 4 s fun _ s =>
c (.mk .d0 .d4 .d3 .d0) [(.nil .sl)] s fun x14 s =>
vExt x14 0 fun x15 =>
vExt x14 1 fun _ =>
vExt x14 2 fun x17 =>
boxD false [.int .i64 0, .int .i64 0, .str [], .str []] s fun x18 s =>
zSt x18 x15 4 s fun _ s =>
zBsl [.int .u8 0] 1 1 (eCons 0 1 (cu 0) eNil) s fun x20 s =>
c (.mk .d0 .d4 .d3 .d0) [x20] s fun x21 s =>
vExt x21 0 fun x22 =>
vExt x21 1 fun _ =>
vExt x21 2 fun x24 =>
boxD false [.int .i64 0, .int .i64 0, .str [], .str []] s fun x25 s =>
zSt x25 x22 4 s fun _ s =>
c (.mk .d0 .d4 .d3 .d1) [] s fun x27 s =>
gH x27 true (ldA x1 (takeN 4)) s fun x28 s =>
gH x27 true (c (.mk .d0 .d2 .d7 .d0) [x28]) s fun x29 s =>
vPick x27 x29 cf fun x30 =>
gV x30 true (vBld [.int .i64 0, .int .i64 0, .str [], .str []] (eCons 0 1 (ci 43) eNil)) fun x31 =>
gH x30 true (c (.mk .d0 .d2 .d7 .d0) [x31]) s fun x32 s =>
gV x30 true (vGen (.un .not (.c x32))) fun x33 =>
vPick x30 x33 cf fun x34 =>
gH x34 true (c (.mk .d0 .d1 .d0 .d6) [(ci 20)]) s fun x35 s =>
vPick x34 x35 cf fun x36 =>
gH x36 true (c (.mk .d0 .d1 .d0 .d6) [(ci 37)]) s fun x37 s =>
gV x36 true (vGen (.un .not (.c x37))) fun x38 =>
vPick x36 x38 cf fun x39 =>
gH x39 true (c (.mk .d0 .d1 .d1 .d0) [(ci 46)]) s fun x40 s =>
vPick x39 x40 cf fun x41 =>
gH x41 true (c (.mk .d0 .d1 .d1 .d0) [(ci 8)]) s fun x42 s =>
gV x41 true (vGen (.un .not (.c x42))) fun x43 =>
vPick x41 x43 cf fun x44 =>
gK x44 true x4 fun x45 =>
gV x44 true (vLenS x45) fun x46 =>
gV x44 true (bGt x46 (ci 4)) fun x47 =>
vPick x44 x47 cf fun x48 =>
gK x48 true x11 fun x49 =>
gV x48 true (bEqF x49 (ci 0)) fun x50 =>
vPick x48 x50 cf fun x51 =>
gK x51 true x10 fun x52 =>
gK x51 true x4 fun x53 =>
gV x51 true (vLenS x53) fun x54 =>
gV x51 true (bEqF x52 x54) fun x55 =>
vPick x51 x55 cf fun x56 =>
gH x56 true (ldA x1 (takeN 4)) s fun x57 s =>
gH x56 true (ldA x12 (takeN 4)) s fun x58 s =>
gH x56 true (c (.mk .d0 .d4 .d2 .d1) [x57, x58]) s fun x59 s =>
vPick x56 x59 cf fun x60 =>
gK x60 true x17 fun x61 =>
gV x60 true (bEqF x61 (ci 2)) fun x62 =>
vPick x60 x62 cf fun x63 =>
gK x63 true x24 fun x64 =>
gV x63 true (bEqF x64 (ci 1)) fun x65 =>
vPick x63 x65 cf fun x66 =>
K x66 s)
def F275 : F2 := .pur H275 true mNo
theorem fe275 : feE Tryz.prog ann 275 0 [] = some F275 := by kernel_rfl
/- slices.Equal[[]daguerre/api.Field,daguerre/api.Field] -/
def H276 : F2C := fun _ k v s K =>
pop v fun x0 v =>
pop v fun x1 v =>
endE v (
vLenS x0 fun x2 =>
vLenS x1 fun x3 =>
bEqT x2 x3 fun x4 =>
cnd x4 (none)
(vLenS x0 fun x5 =>
jn (fun _ s =>
K ct s) fun K6 =>
loopE k (fun K7 v s =>
pop v fun x8 _ =>
bLt x8 x5 fun x9 =>
cnd x9 (jn (fun _ s =>
bAdd x8 (ci 1) fun x11 =>
K7 [x11] s) fun K10 =>
lgE qNoE (zK x0) s fun x12 e13 s =>
lgE qNoE (zK x8) s fun x14 e15 s =>
lgE qNoE (zV (vIaS x12 x14 3)) s fun x16 e17 s =>
lgE (qLdE x16 3) (ldA x16 (takeN 3)) s fun x18 e19 s =>
lgE qNoE (zK x1) s fun x20 e21 s =>
lgE qNoE (zK x8) s fun x22 e23 s =>
lgE qNoE (zV (vIaS x20 x22 3)) s fun x24 e25 s =>
lgE (qLdE x24 3) (ldA x24 (takeN 3)) s fun x26 e27 s =>
lgE qNoE (zV (vGen (.eqs true [(0, 1), (1, 1), (2, 2)] (.c x18) (.c x26)))) s fun x28 e29 s =>
calmE [(3, 7)] [e13, e15, e17, e19, e21, e23, e25, e27, e29] (fun s =>
cnd x28 (none)
(K10 [] s)) s)
(K6 [] s)) [(ci 0)] s))
def F276 : F2 := .fn H276 true
theorem fe276 : feE Tryz.prog ann 276 2 [.cl, .j [], .j [13], .j [], .j [], .cl] = some F276 := by kernel_rfl
/- slices.EqualFunc[[]daguerre/api.Method,[]daguerre/api.Method,daguerre/api.Method,daguerre/api.Method] -/
def H277 : F2C := fun c k v s K =>
pop v fun x0 v =>
pop v fun x1 v =>
pop v fun x2 v =>
endE v (
vLenS x0 fun x3 =>
vLenS x1 fun x4 =>
bEqT x3 x4 fun x5 =>
cnd x5 (none)
(vLenS x0 fun x6 =>
jn (fun _ s =>
K ct s) fun K7 =>
loopE k (fun K8 v s =>
pop v fun x9 _ =>
bLt x9 x6 fun x10 =>
cnd x10 (jn (fun _ s =>
bAdd x9 (ci 1) fun x12 =>
K8 [x12] s) fun K11 =>
vIaS x0 x9 10 fun x13 =>
ldA x13 (takeN 10) s fun x14 s =>
boxD false [.str [], .nil .sl, .str [], .bool false, .bool false, .int .i64 0, .int .i64 0, .nil .sl, .nil .sl, .nil .sl] s fun x15 s =>
zSt x15 x14 10 s fun _ s =>
vIaS x1 x9 10 fun x17 =>
ldA x17 (takeN 10) s fun x18 s =>
boxD false [.str [], .nil .sl, .str [], .bool false, .bool false, .int .i64 0, .int .i64 0, .nil .sl, .nil .sl, .nil .sl] s fun x19 s =>
zSt x19 x18 10 s fun _ s =>
ldA x15 (takeN 10) s fun x21 s =>
ldA x19 (takeN 10) s fun x22 s =>
zCallV c x2 [x21, x22] s fun x23 s =>
vGen (.un .not (.c x23)) fun x24 =>
cnd x24 (K cf s)
(K11 [] s))
(K7 [] s)) [(ci 0)] s))
def F277 : F2 := .fn H277 true
theorem fe277 : feE Tryz.prog ann 277 3 [.cl, .j [], .j [17], .j [], .j [], .j []] = some F277 := by kernel_rfl
/- daguerre/class.eqMethod -/
def H278 : F2C := fun c _ v s K =>
pop v fun x0 v =>
pop v fun x1 v =>
endE v (
zTbox x0 s fun x2 s =>
zTbox x1 s fun x3 s =>
fa1 x2 8 fun x4 =>
ldA x4 take1 s fun x5 s =>
fa1 x3 8 fun x6 =>
ldA x6 take1 s fun x7 s =>
c (.mk .d0 .d4 .d3 .d2) [x5, x7, (.fn 283 [] [])] s fun x8 s =>
fa1 x2 0 fun x9 =>
ldA x9 take1 s fun x10 s =>
fa1 x3 0 fun x11 =>
ldA x11 take1 s fun x12 s =>
bEqF x10 x12 fun x13 =>
gV x13 true (fa1 x2 1) fun x14 =>
gH x13 true (ldA x14 take1) s fun x15 s =>
gV x13 true (fa1 x3 1) fun x16 =>
gH x13 true (ldA x16 take1) s fun x17 s =>
gH x13 true (c (.mk .d0 .d2 .d4 .d2) [x15, x17]) s fun x18 s =>
vPick x13 x18 cf fun x19 =>
gV x19 true (fa1 x2 2) fun x20 =>
gH x19 true (ldA x20 take1) s fun x21 s =>
gV x19 true (fa1 x3 2) fun x22 =>
gH x19 true (ldA x22 take1) s fun x23 s =>
gV x19 true (bEqF x21 x23) fun x24 =>
vPick x19 x24 cf fun x25 =>
gV x25 true (fa1 x2 3) fun x26 =>
gH x25 true (ldA x26 take1) s fun x27 s =>
gV x25 true (fa1 x3 3) fun x28 =>
gH x25 true (ldA x28 take1) s fun x29 s =>
gV x25 true (vBeq false x27 x29) fun x30 =>
vPick x25 x30 cf fun x31 =>
gV x31 true (fa1 x2 4) fun x32 =>
gH x31 true (ldA x32 take1) s fun x33 s =>
gV x31 true (fa1 x3 4) fun x34 =>
gH x31 true (ldA x34 take1) s fun x35 s =>
gV x31 true (vBeq false x33 x35) fun x36 =>
vPick x31 x36 cf fun x37 =>
gK x8 true x37 fun x38 =>
vPick x8 x38 cf fun x39 =>
gV x39 true (fa1 x2 5) fun x40 =>
gH x39 true (ldA x40 take1) s fun x41 s =>
gV x39 true (fa1 x3 5) fun x42 =>
gH x39 true (ldA x42 take1) s fun x43 s =>
gV x39 true (bEqF x41 x43) fun x44 =>
vPick x39 x44 cf fun x45 =>
gV x45 true (fa1 x2 6) fun x46 =>
gH x45 true (ldA x46 take1) s fun x47 s =>
gV x45 true (fa1 x3 6) fun x48 =>
gH x45 true (ldA x48 take1) s fun x49 s =>
gV x45 true (bEqF x47 x49) fun x50 =>
vPick x45 x50 cf fun x51 =>
gV x51 true (fa1 x2 7) fun x52 =>
gH x51 true (ldA x52 take1) s fun x53 s =>
gV x51 true (fa1 x3 7) fun x54 =>
gH x51 true (ldA x54 take1) s fun x55 s =>
gH x51 true (c (.mk .d0 .d4 .d3 .d4) [x53, x55]) s fun x56 s =>
vPick x51 x56 cf fun x57 =>
gV x57 true (fa1 x2 9) fun x58 =>
gH x57 true (ldA x58 take1) s fun x59 s =>
gV x57 true (fa1 x3 9) fun x60 =>
gH x57 true (ldA x60 take1) s fun x61 s =>
gH x57 true (c (.mk .d0 .d4 .d3 .d5) [x59, x61]) s fun x62 s =>
vPick x57 x62 cf fun x63 =>
K x63 s)
def F278 : F2 := .fn H278 true
theorem fe278 : feE Tryz.prog ann 278 2 [] = some F278 := by kernel_rfl
/- daguerre/op.Put -/
def H279 : F2C := fun c _ v s K =>
pop v fun x0 v =>
pop v fun x1 v =>
endE v (
zTbox x1 s fun x2 s =>
fa1 x2 0 fun x3 =>
ldA x3 take1 s fun x4 s =>
c (.mk .d0 .d3 .d6 .d1) [x0, x4] s fun x5 s =>
fa1 x2 0 fun x6 =>
ldA x6 take1 s fun x7 s =>
c (.mk .d0 .d4 .d3 .d6) [x7] s fun x8 s =>
cnd x8 (none)
(fa1 x2 0 fun x9 =>
ldA x9 take1 s fun x10 s =>
c (.mk .d0 .d3 .d3 .d0) [x10] s fun x11 s =>
cnd x11 (fa1 x2 2 fun x12 =>
ldA x12 take1 s fun x13 s =>
c (.mk .d0 .d3 .d6 .d2) [x5, x13] s fun x14 s =>
fa1 x2 0 fun x15 =>
ldA x15 take1 s fun x16 s =>
c (.mk .d0 .d3 .d3 .d1) [x16] s fun x17 s =>
cnd x17 (fa1 x2 3 fun x18 =>
ldA x18 take1 s fun x19 s =>
c (.mk .d0 .d3 .d6 .d2) [x14, x19] s fun x20 s =>
K x20 s)
(none))
(none)))
def F279 : F2 := .fn H279 true
theorem fe279 : feE Tryz.prog ann 279 2 [.cl, .cr, .cr] = some F279 := by kernel_rfl
/- daguerre/op.Get -/
def H280 : F2C := fun c _ v s K =>
pop v fun x0 v =>
endE v (
boxD false [.int .i64 0, .int .i64 0, .str [], .str []] s fun x1 s =>
vBld [.nil .sl, .int .i64 0, .int .i64 0] (eCons 0 1 x0 eNil) fun x2 =>
zBox false x2 s fun x3 s =>
c (.mk .d0 .d4 .d3 .d7) [x3, (.fn 197 [] [])] s fun x4 s =>
vBld [.int .i64 0, .int .i64 0, .str [], .str []] (eCons 0 1 x4 eNil) fun x5 =>
boxD false [.int .i64 0, .int .i64 0, .str [], .str []] s fun x6 s =>
zSt x6 x5 4 s fun _ s =>
fa1 x6 0 fun x8 =>
ldA x8 take1 s fun x9 s =>
c (.mk .d0 .d4 .d3 .d6) [x9] s fun x10 s =>
cnd x10 (none)
(fa1 x6 0 fun x11 =>
ldA x11 take1 s fun x12 s =>
c (.mk .d0 .d3 .d3 .d0) [x12] s fun x13 s =>
jn (fun _ s =>
fa1 x6 0 fun x15 =>
ldA x15 take1 s fun x16 s =>
c (.mk .d0 .d3 .d3 .d1) [x16] s fun x17 s =>
jn (fun _ s =>
vChk x3 fun x19 =>
fa1 x19 2 fun x20 =>
ldA x20 take1 s fun x21 s =>
bEqT x21 (ci 0) fun x22 =>
cnd x22 (lgE qNoE (zV (vBld [.int .i64 0, .int .i64 0, .str [], .str []] eNil)) s fun x23 e24 s =>
lgE qNoE (zK x3) s fun x25 e26 s =>
lgE qNoE (zV (vChk x25)) s fun x27 e28 s =>
lgE qNoE (zV (fa1 x27 2)) s fun x29 e30 s =>
lgE (qLdE x29 1) (ldA x29 take1) s fun x31 e32 s =>
lgE qNoE (zSt x1 x23 4) s fun _ e34 s =>
lgE qNoE (zK (ci 0)) s fun x35 e36 s =>
lgE qNoE (zK x31) s fun x37 e38 s =>
calmE [(0, 4), (4, 5)] [e24, e26, e28, e30, e32, e34, e36, e38] (fun s =>
ldA x1 (takeN 4) s fun x39 s => K (.tup [x39, x35, x37]) s) s)
(lgE (qLdE x6 4) (ldA x6 (takeN 4)) s fun x40 e41 s =>
lgE qNoE (zK x3) s fun x42 e43 s =>
lgE qNoE (zV (vChk x42)) s fun x44 e45 s =>
lgE qNoE (zV (fa1 x44 1)) s fun x46 e47 s =>
lgE (qLdE x46 1) (ldA x46 take1) s fun x48 e49 s =>
lgE qNoE (zSt x1 x40 4) s fun _ e51 s =>
lgE qNoE (zK x48) s fun x52 e53 s =>
lgE qNoE (zK (ci 0)) s fun x54 e55 s =>
calmE [(0, 4), (4, 5)] [e41, e43, e45, e47, e49, e51, e53, e55] (fun s =>
ldA x1 (takeN 4) s fun x56 s => K (.tup [x56, x52, x54]) s) s)) fun K18 =>
cnd x17 (vGen (.mkf 291 [] [(.c x6)]) fun x57 =>
c (.mk .d0 .d4 .d4 .d1) [x3, x57] s fun x58 s =>
fa1 x6 3 fun x59 =>
zSt x59 x58 1 s fun _ s =>
K18 [] s)
(K18 [] s)) fun K14 =>
cnd x13 (vGen (.mkf 290 [] [(.c x6)]) fun x61 =>
c (.mk .d0 .d4 .d4 .d1) [x3, x61] s fun x62 s =>
fa1 x6 2 fun x63 =>
zSt x63 x62 1 s fun _ s =>
K14 [] s)
(K14 [] s)))
def F280 : F2 := .fn H280 true
theorem fe280 : feE Tryz.prog ann 280 1 [.cl, .j [], .j [], .j []] = some F280 := by kernel_rfl
/- daguerre/daguerrelaw3.Begun -/
def H281 : F2C := fun c _ v s K =>
endE v (
c (.mk .d0 .d4 .d4 .d4) [] s fun x0 s =>
K x0 s)
def F281 : F2 := .pur H281 true mNo
theorem fe281 : feE Tryz.prog ann 281 0 [] = some F281 := by kernel_rfl
def M281 (k : Nat) : F2 := .pur H281 true (Bool.rec mNo (mVal (.bool true)) (Nat.ble 1 k))
/- slices.EqualFunc[[]daguerre/api.Map,[]daguerre/api.Map,daguerre/api.Map,daguerre/api.Map] -/
def H282 : F2C := fun _ k v s K =>
pop v fun x0 v =>
pop v fun x1 v =>
pop v fun _ v =>
endE v (
vLenS x0 fun x3 =>
vLenS x1 fun x4 =>
bEqT x3 x4 fun x5 =>
cnd x5 (none)
(vLenS x0 fun x6 =>
jn (fun _ s =>
K ct s) fun K7 =>
loopE k (fun _ v s =>
pop v fun x9 _ =>
bLt x9 x6 fun x10 =>
cnd x10 (none)
(K7 [] s)) [(ci 0)] s))
def F282 : F2 := .fn H282 true
theorem fe282 : feE Tryz.prog ann 282 3 [.cl, .j [], .j [17], .cl, .j [], .ch] = some F282 := by kernel_rfl
/- slices.Equal[[]daguerre/api.Ins,daguerre/api.Ins] -/
def H284 : F2C := fun _ k v s K =>
pop v fun x0 v =>
pop v fun x1 v =>
endE v (
vLenS x0 fun x2 =>
vLenS x1 fun x3 =>
bEqT x2 x3 fun x4 =>
cnd x4 (none)
(vLenS x0 fun x5 =>
jn (fun _ s =>
K ct s) fun K6 =>
loopE k (fun K7 v s =>
pop v fun x8 _ =>
bLt x8 x5 fun x9 =>
cnd x9 (jn (fun _ s =>
bAdd x8 (ci 1) fun x11 =>
K7 [x11] s) fun K10 =>
lgE qNoE (zK x0) s fun x12 e13 s =>
lgE qNoE (zK x8) s fun x14 e15 s =>
lgE qNoE (zV (vIaS x12 x14 4)) s fun x16 e17 s =>
lgE (qLdE x16 4) (ldA x16 (takeN 4)) s fun x18 e19 s =>
lgE qNoE (zK x1) s fun x20 e21 s =>
lgE qNoE (zK x8) s fun x22 e23 s =>
lgE qNoE (zV (vIaS x20 x22 4)) s fun x24 e25 s =>
lgE (qLdE x24 4) (ldA x24 (takeN 4)) s fun x26 e27 s =>
lgE qNoE (zV (vGen (.eqs true [(0, 0), (1, 0), (2, 1), (3, 1)] (.c x18) (.c x26)))) s fun x28 e29 s =>
calmE [(3, 7)] [e13, e15, e17, e19, e21, e23, e25, e27, e29] (fun s =>
cnd x28 (none)
(K10 [] s)) s)
(K6 [] s)) [(ci 0)] s))
def F284 : F2 := .fn H284 true
theorem fe284 : feE Tryz.prog ann 284 2 [.cl, .j [], .j [13], .j [], .j [], .cl] = some F284 := by kernel_rfl
/- slices.Equal[[]daguerre/api.Trap,daguerre/api.Trap] -/
def H285 : F2C := fun _ k v s K =>
pop v fun x0 v =>
pop v fun x1 v =>
endE v (
vLenS x0 fun x2 =>
vLenS x1 fun x3 =>
bEqT x2 x3 fun x4 =>
cnd x4 (none)
(vLenS x0 fun x5 =>
jn (fun _ s =>
K ct s) fun K6 =>
loopE k (fun _ v s =>
pop v fun x8 _ =>
bLt x8 x5 fun x9 =>
cnd x9 (none)
(K6 [] s)) [(ci 0)] s))
def F285 : F2 := .fn H285 true
theorem fe285 : feE Tryz.prog ann 285 2 [.cl, .j [], .j [13], .cl, .j [], .ch] = some F285 := by kernel_rfl
/- daguerre/op.a -/
def H286 : F2C := fun c _ v s K =>
pop v fun x0 v =>
endE v (
bEqF x0 (ci 1) fun x1 =>
gK x1 false x0 fun x2 =>
gV x1 false (bEqF x2 (ci 3)) fun x3 =>
vPick x1 ct x3 fun x4 =>
gK x4 false x0 fun x5 =>
gV x4 false (bEqF x5 (ci 4)) fun x6 =>
vPick x4 ct x6 fun x7 =>
gK x7 false x0 fun x8 =>
gH x7 false (c (.mk .d0 .d1 .d0 .d6) [x8]) s fun x9 s =>
vPick x7 ct x9 fun x10 =>
K x10 s)
def F286 : F2 := .fn H286 true
theorem fe286 : feE Tryz.prog ann 286 1 [] = some F286 := by kernel_rfl
/- (*daguerre/op.reader).num -/
def H287 : F2C := fun c _ v s K =>
pop v fun x0 v =>
pop v fun x1 v =>
endE v (
vChk x0 fun x2 =>
fa1 x2 2 fun x3 =>
ldA x3 take1 s fun x4 s =>
bEqT x4 (ci 0) fun x5 =>
cnd x5 (none)
(lgE qNoE (zK x0) s fun x6 e7 s =>
lgE qNoE (zV (vChk x6)) s fun x8 e9 s =>
lgE qNoE (zV (fa1 x8 0)) s fun x10 e11 s =>
lgE (qLdE x10 1) (ldA x10 take1) s fun x12 e13 s =>
lgE qNoE (zK x0) s fun x14 e15 s =>
lgE qNoE (zV (vChk x14)) s fun x16 e17 s =>
lgE qNoE (zV (fa1 x16 1)) s fun x18 e19 s =>
lgE (qLdE x18 1) (ldA x18 take1) s fun x20 e21 s =>
lgE qNoE (zV (vSlt x12 (eX x20) eN 1)) s fun x22 e23 s =>
lgE qNoE (c (.mk .d0 .d4 .d2 .d2) [x22]) s fun x24 e25 s =>
lgE qNoE (zK x24) s fun x26 e27 s =>
lgE qNoE (zV (vExt x26 0)) s fun x28 e29 s =>
lgE qNoE (zV (vExt x26 1)) s fun x30 e31 s =>
lgE qNoE (zV (vExt x26 2)) s fun x32 e33 s =>
lgE qNoE (zK x28) s fun x34 e35 s =>
lgE qNoE (zK x30) s fun x36 e37 s =>
lgE qNoE (zK x32) s fun x38 e39 s =>
calmE [(3, 7)] [e7, e9, e11, e13, e15, e17, e19, e21, e23, e25, e27, e29, e31, e33, e35, e37, e39] (fun s =>
bEqF x38 (ci 0) fun x40 =>
gK x40 true x1 fun x41 =>
gK x40 true x34 fun x42 =>
gH x40 true (zCallV c x41 [x42]) s fun x43 s =>
gV x40 true (vGen (.un .not (.c x43))) fun x44 =>
vPick x40 x44 cf fun x45 =>
jn (fun v s =>
pop v fun x47 _ =>
vChk x0 fun x48 =>
fa1 x48 1 fun x49 =>
ldA x49 take1 s fun x50 s =>
bAdd x50 x36 fun x51 =>
vChk x0 fun x52 =>
fa1 x52 1 fun x53 =>
zSt x53 x51 1 s fun _ s =>
vChk x0 fun x55 =>
fa1 x55 2 fun x56 =>
zSt x56 x47 1 s fun _ s =>
K x34 s) fun K46 =>
cnd x45 (K46 [(ci 1)] s)
(K46 [x38] s)) s))
def F287 : F2 := .fn H287 true
theorem fe287 : feE Tryz.prog ann 287 2 [.cl, .j [7]] = some F287 := by kernel_rfl
/- daguerre/op.Get$2 -/
def H290 : F2C := fun c _ v s K =>
pop v fun x0 v =>
pop v fun x1 v =>
endE v (
fa1 x1 0 fun x2 =>
ldA x2 take1 s fun x3 s =>
c (.mk .d0 .d3 .d0 .d7) [x3, x0] s fun x4 s =>
K x4 s)
def F290 : F2 := .fn H290 true
theorem fe290 : feE Tryz.prog ann 290 2 [] = some F290 := by kernel_rfl
/- (*daguerre/op.reader).text -/
def H289 : F2C := fun c _ v s K =>
pop v fun x0 v =>
pop v fun x1 v =>
endE v (
vChk x0 fun x2 =>
fa1 x2 2 fun x3 =>
ldA x3 take1 s fun x4 s =>
bEqT x4 (ci 0) fun x5 =>
cnd x5 (none)
(lgE qNoE (zK x0) s fun x6 e7 s =>
lgE qNoE (zV (vChk x6)) s fun x8 e9 s =>
lgE qNoE (zV (fa1 x8 0)) s fun x10 e11 s =>
lgE (qLdE x10 1) (ldA x10 take1) s fun x12 e13 s =>
lgE qNoE (zK x0) s fun x14 e15 s =>
lgE qNoE (zV (vChk x14)) s fun x16 e17 s =>
lgE qNoE (zV (fa1 x16 1)) s fun x18 e19 s =>
lgE (qLdE x18 1) (ldA x18 take1) s fun x20 e21 s =>
lgE qNoE (zV (vSlt x12 (eX x20) eN 1)) s fun x22 e23 s =>
lgE qNoE (c (.mk .d0 .d4 .d0 .d7) [x22]) s fun x24 e25 s =>
lgE qNoE (zK x24) s fun x26 e27 s =>
lgE qNoE (zV (vExt x26 0)) s fun x28 e29 s =>
lgE qNoE (zV (vExt x26 1)) s fun x30 e31 s =>
lgE qNoE (zV (vExt x26 2)) s fun x32 e33 s =>
lgE qNoE (zK x28) s fun x34 e35 s =>
lgE qNoE (zK x30) s fun x36 e37 s =>
lgE qNoE (zK x32) s fun x38 e39 s =>
calmE [(3, 7)] [e7, e9, e11, e13, e15, e17, e19, e21, e23, e25, e27, e29, e31, e33, e35, e37, e39] (fun s =>
bEqF x38 (ci 0) fun x40 =>
gK x40 true x1 fun x41 =>
gK x40 true x34 fun x42 =>
gH x40 true (zCallV c x41 [x42]) s fun x43 s =>
gV x40 true (vGen (.un .not (.c x43))) fun x44 =>
vPick x40 x44 cf fun x45 =>
cnd x45 (none)
(vChk x0 fun x46 =>
fa1 x46 1 fun x47 =>
ldA x47 take1 s fun x48 s =>
bAdd x48 x36 fun x49 =>
vChk x0 fun x50 =>
fa1 x50 1 fun x51 =>
zSt x51 x49 1 s fun _ s =>
vChk x0 fun x53 =>
fa1 x53 2 fun x54 =>
zSt x54 x38 1 s fun _ s =>
K x34 s)) s))
def F289 : F2 := .fn H289 true
theorem fe289 : feE Tryz.prog ann 289 2 [.cl, .cl] = some F289 := by kernel_rfl
/- daguerre/op.Get$3 -/
def H291 : F2C := fun c _ v s K =>
pop v fun x0 v =>
pop v fun x1 v =>
endE v (
fa1 x1 0 fun x2 =>
ldA x2 take1 s fun x3 s =>
c (.mk .d0 .d3 .d1 .d0) [x3, x0] s fun x4 s =>
K x4 s)
def F291 : F2 := .fn H291 true
theorem fe291 : feE Tryz.prog ann 291 2 [] = some F291 := by kernel_rfl
/- daguerre/daguerrelaw3.begun -/
def H292 : F2C := fun c _ v s K =>
endE v (
c (.mk .d0 .d1 .d7 .d1) [(.str [91, 91, 65, 98])] s fun x0 s =>
vExt x0 0 fun x1 =>
vExt x0 1 fun x2 =>
c (.mk .d0 .d1 .d7 .d1) [(.str [65, 98])] s fun x3 s =>
vExt x3 0 fun _ =>
vExt x3 1 fun x5 =>
c (.mk .d0 .d1 .d4 .d3) [(.str [65, 98])] s fun x6 s =>
gH x6 true (c (.mk .d0 .d1 .d4 .d3) [(.str [65])]) s fun x7 s =>
gV x6 true (vGen (.un .not (.c x7))) fun x8 =>
vPick x6 x8 cf fun x9 =>
gH x9 true (c (.mk .d0 .d1 .d3 .d5) [(.str [97, 98])]) s fun x10 s =>
vPick x9 x10 cf fun x11 =>
gH x11 true (c (.mk .d0 .d1 .d3 .d5) [(.str [36, 105, 110, 105, 116])]) s fun x12 s =>
vPick x11 x12 cf fun x13 =>
gH x13 true (c (.mk .d0 .d1 .d3 .d5) [(.str [65, 98])]) s fun x14 s =>
gV x13 true (vGen (.un .not (.c x14))) fun x15 =>
vPick x13 x15 cf fun x16 =>
gH x16 true (c (.mk .d0 .d1 .d3 .d6) [(.str [91, 91, 73])]) s fun x17 s =>
vPick x16 x17 cf fun x18 =>
gH x18 true (c (.mk .d0 .d1 .d3 .d6) [(.str [91, 91, 91, 73])]) s fun x19 s =>
gV x18 true (vGen (.un .not (.c x19))) fun x20 =>
vPick x18 x20 cf fun x21 =>
gH x21 true (c (.mk .d0 .d2 .d2 .d7) [(.str [86])]) s fun x22 s =>
vPick x21 x22 cf fun x23 =>
gH x23 true (c (.mk .d0 .d1 .d3 .d6) [(.str [86])]) s fun x24 s =>
gV x23 true (vGen (.un .not (.c x24))) fun x25 =>
vPick x23 x25 cf fun x26 =>
gH x26 true (c (.mk .d0 .d2 .d5 .d2) [(.str [91, 73])]) s fun x27 s =>
vPick x26 x27 cf fun x28 =>
gH x28 true (c (.mk .d0 .d2 .d5 .d2) [(.str [73])]) s fun x29 s =>
gV x28 true (vGen (.un .not (.c x29))) fun x30 =>
vPick x28 x30 cf fun x31 =>
gK x31 true x1 fun x32 =>
gV x31 true (bEqF x32 (.str [91, 65, 98])) fun x33 =>
vPick x31 x33 cf fun x34 =>
gK x34 true x2 fun x35 =>
vPick x34 x35 cf fun x36 =>
gK x36 true x5 fun x37 =>
gV x36 true (vGen (.un .not (.c x37))) fun x38 =>
vPick x36 x38 cf fun x39 =>
gH x39 true (c (.mk .d0 .d2 .d5 .d3) [(.str [73])]) s fun x40 s =>
gV x39 true (bEqF x40 (.str [91, 73])) fun x41 =>
vPick x39 x41 cf fun x42 =>
gH x42 true (c (.mk .d0 .d2 .d5 .d3) [(.str [91, 91, 73])]) s fun x43 s =>
gV x42 true (bEqF x43 (.str [])) fun x44 =>
vPick x42 x44 cf fun x45 =>
K x45 s)
def F292 : F2 := .pur H292 true mNo
theorem fe292 : feE Tryz.prog ann 292 0 [] = some F292 := by kernel_rfl
/- daguerre/kind.Ref -/
def H170 : F2C := fun c _ v s K =>
pop v fun x0 v =>
endE v (
bEqT x0 (.str [73]) fun x1 =>
gK x1 true x0 fun x2 =>
gH x1 true (c (.mk .d0 .d1 .d3 .d6) [x2]) s fun x3 s =>
vPick x1 x3 cf fun x4 =>
K x4 s)
def F170 : F2 := .fn H170 true
theorem fe170 : feE Tryz.prog ann 170 1 [] = some F170 := by kernel_rfl
/- daguerre/kind.Array -/
def H171 : F2C := fun c _ v s K =>
pop v fun x0 v =>
endE v (
c (.mk .d0 .d1 .d3 .d6) [x0] s fun x1 s =>
vGen (.un .not (.c x1)) fun x2 =>
gK x2 false x0 fun x3 =>
gV x2 false (bAdd (.str [91]) x3) fun x4 =>
gH x2 false (c (.mk .d0 .d1 .d3 .d6) [x4]) s fun x5 s =>
gV x2 false (vGen (.un .not (.c x5))) fun x6 =>
vPick x2 ct x6 fun x7 =>
cnd x7 (K (.str []) s)
(bAdd (.str [91]) x0 fun x8 =>
K x8 s))
def F171 : F2 := .fn H171 true
theorem fe171 : feE Tryz.prog ann 171 1 [.j []] = some F171 := by kernel_rfl
structure Hy (k : Nat) : Prop where
  h281 : 1 ≤ k → PureC Tryz.prog ann 281 [] (.bool true)
  h271 : 2 ≤ k → PureC Tryz.prog ann 271 [] (.bool true)
  h232 : 3 ≤ k → PureC Tryz.prog ann 232 [] (.bool true)
  h228 : 4 ≤ k → PureC Tryz.prog ann 228 [] (.bool true)
  h226 : 5 ≤ k → PureC Tryz.prog ann 226 [] (.bool true)
  h214 : 6 ≤ k → PureC Tryz.prog ann 214 [] (.bool true)
  h179 : 7 ≤ k → PureC Tryz.prog ann 179 [] (.bool true)
  h88 : 8 ≤ k → PureC Tryz.prog ann 88 [] (.bool true)
  h18 : 9 ≤ k → PureC Tryz.prog ann 18 [] (.bool true)
  h19 : 10 ≤ k → PureC Tryz.prog ann 19 [] (.bool true)
  h24 : 11 ≤ k → PureC Tryz.prog ann 24 [] (.bool true)
  h11 : 12 ≤ k → PureC Tryz.prog ann 11 [] (.bool true)
  h7 : 13 ≤ k → PureC Tryz.prog ann 7 [] (.bool true)
theorem fm281 (k : Nat) (h : 1 ≤ k → PureC Tryz.prog ann 281 [] (.bool true)) : F2ok Tryz.prog ann 281 (M281 k) := by
  have h0 : F2ok Tryz.prog ann 281 (.pur H281 true mNo) := fe2_of fe281
  unfold M281
  cases hb : Nat.ble 1 k with
  | true => exact fe2_memo h0 (h (Nat.le_of_ble_eq_true hb))
  | false => exact h0
theorem fm271 (k : Nat) (h : 2 ≤ k → PureC Tryz.prog ann 271 [] (.bool true)) : F2ok Tryz.prog ann 271 (M271 k) := by
  have h0 : F2ok Tryz.prog ann 271 (.pur H271 true mNo) := fe2_of fe271
  unfold M271
  cases hb : Nat.ble 2 k with
  | true => exact fe2_memo h0 (h (Nat.le_of_ble_eq_true hb))
  | false => exact h0
theorem fm232 (k : Nat) (h : 3 ≤ k → PureC Tryz.prog ann 232 [] (.bool true)) : F2ok Tryz.prog ann 232 (M232 k) := by
  have h0 : F2ok Tryz.prog ann 232 (.pur H232 true mNo) := fe2_of fe232
  unfold M232
  cases hb : Nat.ble 3 k with
  | true => exact fe2_memo h0 (h (Nat.le_of_ble_eq_true hb))
  | false => exact h0
theorem fm228 (k : Nat) (h : 4 ≤ k → PureC Tryz.prog ann 228 [] (.bool true)) : F2ok Tryz.prog ann 228 (M228 k) := by
  have h0 : F2ok Tryz.prog ann 228 (.pur H228 true mNo) := fe2_of fe228
  unfold M228
  cases hb : Nat.ble 4 k with
  | true => exact fe2_memo h0 (h (Nat.le_of_ble_eq_true hb))
  | false => exact h0
theorem fm226 (k : Nat) (h : 5 ≤ k → PureC Tryz.prog ann 226 [] (.bool true)) : F2ok Tryz.prog ann 226 (M226 k) := by
  have h0 : F2ok Tryz.prog ann 226 (.pur H226 true mNo) := fe2_of fe226
  unfold M226
  cases hb : Nat.ble 5 k with
  | true => exact fe2_memo h0 (h (Nat.le_of_ble_eq_true hb))
  | false => exact h0
theorem fm214 (k : Nat) (h : 6 ≤ k → PureC Tryz.prog ann 214 [] (.bool true)) : F2ok Tryz.prog ann 214 (M214 k) := by
  have h0 : F2ok Tryz.prog ann 214 (.pur H214 true mNo) := fe2_of fe214
  unfold M214
  cases hb : Nat.ble 6 k with
  | true => exact fe2_memo h0 (h (Nat.le_of_ble_eq_true hb))
  | false => exact h0
theorem fm179 (k : Nat) (h : 7 ≤ k → PureC Tryz.prog ann 179 [] (.bool true)) : F2ok Tryz.prog ann 179 (M179 k) := by
  have h0 : F2ok Tryz.prog ann 179 (.pur H179 true mNo) := fe2_of fe179
  unfold M179
  cases hb : Nat.ble 7 k with
  | true => exact fe2_memo h0 (h (Nat.le_of_ble_eq_true hb))
  | false => exact h0
theorem fm88 (k : Nat) (h : 8 ≤ k → PureC Tryz.prog ann 88 [] (.bool true)) : F2ok Tryz.prog ann 88 (M88 k) := by
  have h0 : F2ok Tryz.prog ann 88 (.pur H88 true mNo) := fe2_of fe88
  unfold M88
  cases hb : Nat.ble 8 k with
  | true => exact fe2_memo h0 (h (Nat.le_of_ble_eq_true hb))
  | false => exact h0
theorem fm18 (k : Nat) (h : 9 ≤ k → PureC Tryz.prog ann 18 [] (.bool true)) : F2ok Tryz.prog ann 18 (M18 k) := by
  have h0 : F2ok Tryz.prog ann 18 (.pur H18 true mNo) := fe2_of fe18
  unfold M18
  cases hb : Nat.ble 9 k with
  | true => exact fe2_memo h0 (h (Nat.le_of_ble_eq_true hb))
  | false => exact h0
theorem fm19 (k : Nat) (h : 10 ≤ k → PureC Tryz.prog ann 19 [] (.bool true)) : F2ok Tryz.prog ann 19 (M19 k) := by
  have h0 : F2ok Tryz.prog ann 19 (.pur H19 true mNo) := fe2_of fe19
  unfold M19
  cases hb : Nat.ble 10 k with
  | true => exact fe2_memo h0 (h (Nat.le_of_ble_eq_true hb))
  | false => exact h0
theorem fm24 (k : Nat) (h : 11 ≤ k → PureC Tryz.prog ann 24 [] (.bool true)) : F2ok Tryz.prog ann 24 (M24 k) := by
  have h0 : F2ok Tryz.prog ann 24 (.pur H24 true mNo) := fe2_of fe24
  unfold M24
  cases hb : Nat.ble 11 k with
  | true => exact fe2_memo h0 (h (Nat.le_of_ble_eq_true hb))
  | false => exact h0
theorem fm11 (k : Nat) (h : 12 ≤ k → PureC Tryz.prog ann 11 [] (.bool true)) : F2ok Tryz.prog ann 11 (M11 k) := by
  have h0 : F2ok Tryz.prog ann 11 (.pur H11 true mNo) := fe2_of fe11
  unfold M11
  cases hb : Nat.ble 12 k with
  | true => exact fe2_memo h0 (h (Nat.le_of_ble_eq_true hb))
  | false => exact h0
theorem fm7 (k : Nat) (h : 13 ≤ k → PureC Tryz.prog ann 7 [] (.bool true)) : F2ok Tryz.prog ann 7 (M7 k) := by
  have h0 : F2ok Tryz.prog ann 7 (.pur H7 true mNo) := fe2_of fe7
  unfold M7
  cases hb : Nat.ble 13 k with
  | true => exact fe2_memo h0 (h (Nat.le_of_ble_eq_true hb))
  | false => exact h0
def tbN : N8 (Option F2) := ⟨none, none, none, none, none, none, none, none⟩
def tbNN : N8 (N8 (Option F2)) := ⟨tbN, tbN, tbN, tbN, tbN, tbN, tbN, tbN⟩
def tbNNN : N8 (N8 (N8 (Option F2))) := ⟨tbNN, tbNN, tbNN, tbNN, tbNN, tbNN, tbNN, tbNN⟩
theorem zN (b : Nat) : Lf Tryz.prog ann b tbN := ⟨trivial, trivial, trivial, trivial, trivial, trivial, trivial, trivial⟩
theorem zNN (b : Nat) : Lg Tryz.prog ann b tbNN := ⟨zN _, zN _, zN _, zN _, zN _, zN _, zN _, zN _⟩
theorem zNNN (b : Nat) : Lh Tryz.prog ann b tbNNN := ⟨zNN _, zNN _, zNN _, zNN _, zNN _, zNN _, zNN _, zNN _⟩
def tb0_0_0 (_k : Nat) : N8 (Option F2) := ⟨none, none, none, some F3, some F4, some F5, some F6, some (M7 _k)⟩
theorem l0_0_0 (_k : Nat) (_h : Hy _k) : Lf Tryz.prog ann 0 (tb0_0_0 _k) := ⟨trivial, trivial, trivial, (fe2_of fe3), (fe2_of fe4), (fe2_of fe5), (fe2_of fe6), (fm7 _k _h.h7)⟩
def tb0_0_1 (_k : Nat) : N8 (Option F2) := ⟨some F8, some F9, some F10, some (M11 _k), some F12, some F13, some F14, some F15⟩
theorem l0_0_1 (_k : Nat) (_h : Hy _k) : Lf Tryz.prog ann 8 (tb0_0_1 _k) := ⟨(fe2_of fe8), (fe2_of fe9), (fe2_of fe10), (fm11 _k _h.h11), (fe2_of fe12), (fe2_of fe13), (fe2_of fe14), (fe2_of fe15)⟩
def tb0_0_2 (_k : Nat) : N8 (Option F2) := ⟨some F16, some F17, some (M18 _k), some (M19 _k), some F20, some F21, some F22, some F23⟩
theorem l0_0_2 (_k : Nat) (_h : Hy _k) : Lf Tryz.prog ann 16 (tb0_0_2 _k) := ⟨(fe2_of fe16), (fe2_of fe17), (fm18 _k _h.h18), (fm19 _k _h.h19), (fe2_of fe20), (fe2_of fe21), (fe2_of fe22), (fe2_of fe23)⟩
def tb0_0_3 (_k : Nat) : N8 (Option F2) := ⟨some (M24 _k), some F25, some F26, some F27, some F28, some F29, some F30, some F31⟩
theorem l0_0_3 (_k : Nat) (_h : Hy _k) : Lf Tryz.prog ann 24 (tb0_0_3 _k) := ⟨(fm24 _k _h.h24), (fe2_of fe25), (fe2_of fe26), (fe2_of fe27), (fe2_of fe28), (fe2_of fe29), (fe2_of fe30), (fe2_of fe31)⟩
def tb0_0_4 (_k : Nat) : N8 (Option F2) := ⟨some F32, some F33, some F34, some F35, some F36, some F37, some F38, some F39⟩
theorem l0_0_4 (_k : Nat) (_h : Hy _k) : Lf Tryz.prog ann 32 (tb0_0_4 _k) := ⟨(fe2_of fe32), (fe2_of fe33), (fe2_of fe34), (fe2_of fe35), (fe2_of fe36), (fe2_of fe37), (fe2_of fe38), (fe2_of fe39)⟩
def tb0_0_5 (_k : Nat) : N8 (Option F2) := ⟨some F40, some F41, some F42, some F43, some F44, some F45, some F46, some F47⟩
theorem l0_0_5 (_k : Nat) (_h : Hy _k) : Lf Tryz.prog ann 40 (tb0_0_5 _k) := ⟨(fe2_of fe40), (fe2_of fe41), (fe2_of fe42), (fe2_of fe43), (fe2_of fe44), (fe2_of fe45), (fe2_of fe46), (fe2_of fe47)⟩
def tb0_0_6 (_k : Nat) : N8 (Option F2) := ⟨some F48, some F49, some F50, some F51, some F52, some F53, some F54, some F55⟩
theorem l0_0_6 (_k : Nat) (_h : Hy _k) : Lf Tryz.prog ann 48 (tb0_0_6 _k) := ⟨(fe2_of fe48), (fe2_of fe49), (fe2_of fe50), (fe2_of fe51), (fe2_of fe52), (fe2_of fe53), (fe2_of fe54), (fe2_of fe55)⟩
def tb0_0_7 (_k : Nat) : N8 (Option F2) := ⟨some F56, some F57, some F58, some F59, some F60, none, some F62, some F63⟩
theorem l0_0_7 (_k : Nat) (_h : Hy _k) : Lf Tryz.prog ann 56 (tb0_0_7 _k) := ⟨(fe2_of fe56), (fe2_of fe57), (fe2_of fe58), (fe2_of fe59), (fe2_of fe60), trivial, (fe2_of fe62), (fe2_of fe63)⟩
def tb0_0 (_k : Nat) : N8 (N8 (Option F2)) := ⟨tb0_0_0 _k, tb0_0_1 _k, tb0_0_2 _k, tb0_0_3 _k, tb0_0_4 _k, tb0_0_5 _k, tb0_0_6 _k, tb0_0_7 _k⟩
theorem l0_0 (_k : Nat) (_h : Hy _k) : Lg Tryz.prog ann 0 (tb0_0 _k) := ⟨l0_0_0 _k _h, l0_0_1 _k _h, l0_0_2 _k _h, l0_0_3 _k _h, l0_0_4 _k _h, l0_0_5 _k _h, l0_0_6 _k _h, l0_0_7 _k _h⟩
def tb0_1_0 (_k : Nat) : N8 (Option F2) := ⟨some F64, some F65, none, some F67, some F68, some F69, some F70, none⟩
theorem l0_1_0 (_k : Nat) (_h : Hy _k) : Lf Tryz.prog ann 64 (tb0_1_0 _k) := ⟨(fe2_of fe64), (fe2_of fe65), trivial, (fe2_of fe67), (fe2_of fe68), (fe2_of fe69), (fe2_of fe70), trivial⟩
def tb0_1_1 (_k : Nat) : N8 (Option F2) := ⟨some F72, some F73, some F74, some F75, some F76, some F77, some F78, some F79⟩
theorem l0_1_1 (_k : Nat) (_h : Hy _k) : Lf Tryz.prog ann 72 (tb0_1_1 _k) := ⟨(fe2_of fe72), (fe2_of fe73), (fe2_of fe74), (fe2_of fe75), (fe2_of fe76), (fe2_of fe77), (fe2_of fe78), (fe2_of fe79)⟩
def tb0_1_2 (_k : Nat) : N8 (Option F2) := ⟨some F80, some F81, some F82, some F83, some F84, some F85, some F86, some F87⟩
theorem l0_1_2 (_k : Nat) (_h : Hy _k) : Lf Tryz.prog ann 80 (tb0_1_2 _k) := ⟨(fe2_of fe80), (fe2_of fe81), (fe2_of fe82), (fe2_of fe83), (fe2_of fe84), (fe2_of fe85), (fe2_of fe86), (fe2_of fe87)⟩
def tb0_1_3 (_k : Nat) : N8 (Option F2) := ⟨some (M88 _k), some F89, some F90, some F91, some F92, some F93, some F94, some F95⟩
theorem l0_1_3 (_k : Nat) (_h : Hy _k) : Lf Tryz.prog ann 88 (tb0_1_3 _k) := ⟨(fm88 _k _h.h88), (fe2_of fe89), (fe2_of fe90), (fe2_of fe91), (fe2_of fe92), (fe2_of fe93), (fe2_of fe94), (fe2_of fe95)⟩
def tb0_1_4 (_k : Nat) : N8 (Option F2) := ⟨some F96, some F97, some F98, some F99, some F100, none, some F102, some F103⟩
theorem l0_1_4 (_k : Nat) (_h : Hy _k) : Lf Tryz.prog ann 96 (tb0_1_4 _k) := ⟨(fe2_of fe96), (fe2_of fe97), (fe2_of fe98), (fe2_of fe99), (fe2_of fe100), trivial, (fe2_of fe102), (fe2_of fe103)⟩
def tb0_1_5 (_k : Nat) : N8 (Option F2) := ⟨some F104, some F105, some F106, some F107, some F108, none, some F110, some F111⟩
theorem l0_1_5 (_k : Nat) (_h : Hy _k) : Lf Tryz.prog ann 104 (tb0_1_5 _k) := ⟨(fe2_of fe104), (fe2_of fe105), (fe2_of fe106), (fe2_of fe107), (fe2_of fe108), trivial, (fe2_of fe110), (fe2_of fe111)⟩
def tb0_1_6 (_k : Nat) : N8 (Option F2) := ⟨some F112, some F113, some F114, some F115, none, some F117, some F118, none⟩
theorem l0_1_6 (_k : Nat) (_h : Hy _k) : Lf Tryz.prog ann 112 (tb0_1_6 _k) := ⟨(fe2_of fe112), (fe2_of fe113), (fe2_of fe114), (fe2_of fe115), trivial, (fe2_of fe117), (fe2_of fe118), trivial⟩
def tb0_1_7 (_k : Nat) : N8 (Option F2) := ⟨some F120, some F121, some F122, none, some F124, some F125, some F126, some F127⟩
theorem l0_1_7 (_k : Nat) (_h : Hy _k) : Lf Tryz.prog ann 120 (tb0_1_7 _k) := ⟨(fe2_of fe120), (fe2_of fe121), (fe2_of fe122), trivial, (fe2_of fe124), (fe2_of fe125), (fe2_of fe126), (fe2_of fe127)⟩
def tb0_1 (_k : Nat) : N8 (N8 (Option F2)) := ⟨tb0_1_0 _k, tb0_1_1 _k, tb0_1_2 _k, tb0_1_3 _k, tb0_1_4 _k, tb0_1_5 _k, tb0_1_6 _k, tb0_1_7 _k⟩
theorem l0_1 (_k : Nat) (_h : Hy _k) : Lg Tryz.prog ann 64 (tb0_1 _k) := ⟨l0_1_0 _k _h, l0_1_1 _k _h, l0_1_2 _k _h, l0_1_3 _k _h, l0_1_4 _k _h, l0_1_5 _k _h, l0_1_6 _k _h, l0_1_7 _k _h⟩
def tb0_2_0 (_k : Nat) : N8 (Option F2) := ⟨none, some F129, some F130, some F131, none, some F133, some F134, some F135⟩
theorem l0_2_0 (_k : Nat) (_h : Hy _k) : Lf Tryz.prog ann 128 (tb0_2_0 _k) := ⟨trivial, (fe2_of fe129), (fe2_of fe130), (fe2_of fe131), trivial, (fe2_of fe133), (fe2_of fe134), (fe2_of fe135)⟩
def tb0_2_1 (_k : Nat) : N8 (Option F2) := ⟨some F136, some F137, some F138, none, some F140, some F141, none, some F143⟩
theorem l0_2_1 (_k : Nat) (_h : Hy _k) : Lf Tryz.prog ann 136 (tb0_2_1 _k) := ⟨(fe2_of fe136), (fe2_of fe137), (fe2_of fe138), trivial, (fe2_of fe140), (fe2_of fe141), trivial, (fe2_of fe143)⟩
def tb0_2_2 (_k : Nat) : N8 (Option F2) := ⟨some F144, some F145, some F146, some F147, some F148, some F149, some F150, some F151⟩
theorem l0_2_2 (_k : Nat) (_h : Hy _k) : Lf Tryz.prog ann 144 (tb0_2_2 _k) := ⟨(fe2_of fe144), (fe2_of fe145), (fe2_of fe146), (fe2_of fe147), (fe2_of fe148), (fe2_of fe149), (fe2_of fe150), (fe2_of fe151)⟩
def tb0_2_3 (_k : Nat) : N8 (Option F2) := ⟨some F152, some F153, some F154, some F155, some F156, some F157, some F158, none⟩
theorem l0_2_3 (_k : Nat) (_h : Hy _k) : Lf Tryz.prog ann 152 (tb0_2_3 _k) := ⟨(fe2_of fe152), (fe2_of fe153), (fe2_of fe154), (fe2_of fe155), (fe2_of fe156), (fe2_of fe157), (fe2_of fe158), trivial⟩
def tb0_2_4 (_k : Nat) : N8 (Option F2) := ⟨some F160, some F161, some F162, some F163, some F164, some F165, some F166, none⟩
theorem l0_2_4 (_k : Nat) (_h : Hy _k) : Lf Tryz.prog ann 160 (tb0_2_4 _k) := ⟨(fe2_of fe160), (fe2_of fe161), (fe2_of fe162), (fe2_of fe163), (fe2_of fe164), (fe2_of fe165), (fe2_of fe166), trivial⟩
def tb0_2_5 (_k : Nat) : N8 (Option F2) := ⟨some F168, some F169, some F170, some F171, none, some F173, some F174, some F175⟩
theorem l0_2_5 (_k : Nat) (_h : Hy _k) : Lf Tryz.prog ann 168 (tb0_2_5 _k) := ⟨(fe2_of fe168), (fe2_of fe169), (fe2_of fe170), (fe2_of fe171), trivial, (fe2_of fe173), (fe2_of fe174), (fe2_of fe175)⟩
def tb0_2_6 (_k : Nat) : N8 (Option F2) := ⟨some F176, none, some F178, some (M179 _k), some F180, some F181, none, some F183⟩
theorem l0_2_6 (_k : Nat) (_h : Hy _k) : Lf Tryz.prog ann 176 (tb0_2_6 _k) := ⟨(fe2_of fe176), trivial, (fe2_of fe178), (fm179 _k _h.h179), (fe2_of fe180), (fe2_of fe181), trivial, (fe2_of fe183)⟩
def tb0_2_7 (_k : Nat) : N8 (Option F2) := ⟨some F184, none, none, some F187, some F188, some F189, some F190, some F191⟩
theorem l0_2_7 (_k : Nat) (_h : Hy _k) : Lf Tryz.prog ann 184 (tb0_2_7 _k) := ⟨(fe2_of fe184), trivial, trivial, (fe2_of fe187), (fe2_of fe188), (fe2_of fe189), (fe2_of fe190), (fe2_of fe191)⟩
def tb0_2 (_k : Nat) : N8 (N8 (Option F2)) := ⟨tb0_2_0 _k, tb0_2_1 _k, tb0_2_2 _k, tb0_2_3 _k, tb0_2_4 _k, tb0_2_5 _k, tb0_2_6 _k, tb0_2_7 _k⟩
theorem l0_2 (_k : Nat) (_h : Hy _k) : Lg Tryz.prog ann 128 (tb0_2 _k) := ⟨l0_2_0 _k _h, l0_2_1 _k _h, l0_2_2 _k _h, l0_2_3 _k _h, l0_2_4 _k _h, l0_2_5 _k _h, l0_2_6 _k _h, l0_2_7 _k _h⟩
def tb0_3_0 (_k : Nat) : N8 (Option F2) := ⟨none, none, none, some F195, some F196, some F197, some F198, some F199⟩
theorem l0_3_0 (_k : Nat) (_h : Hy _k) : Lf Tryz.prog ann 192 (tb0_3_0 _k) := ⟨trivial, trivial, trivial, (fe2_of fe195), (fe2_of fe196), (fe2_of fe197), (fe2_of fe198), (fe2_of fe199)⟩
def tb0_3_1 (_k : Nat) : N8 (Option F2) := ⟨some F200, some F201, none, none, none, none, none, none⟩
theorem l0_3_1 (_k : Nat) (_h : Hy _k) : Lf Tryz.prog ann 200 (tb0_3_1 _k) := ⟨(fe2_of fe200), (fe2_of fe201), trivial, trivial, trivial, trivial, trivial, trivial⟩
def tb0_3_2 (_k : Nat) : N8 (Option F2) := ⟨none, none, none, some F211, some H212, none, some (M214 _k), some F215⟩
theorem l0_3_2 (_k : Nat) (_h : Hy _k) : Lf Tryz.prog ann 208 (tb0_3_2 _k) := ⟨trivial, trivial, trivial, (fe2_of fe211), ok212, trivial, (fm214 _k _h.h214), (fe2_of fe215)⟩
def tb0_3_3 (_k : Nat) : N8 (Option F2) := ⟨some F216, some F217, none, none, none, none, none, none⟩
theorem l0_3_3 (_k : Nat) (_h : Hy _k) : Lf Tryz.prog ann 216 (tb0_3_3 _k) := ⟨(fe2_of fe216), (fe2_of fe217), trivial, trivial, trivial, trivial, trivial, trivial⟩
def tb0_3_4 (_k : Nat) : N8 (Option F2) := ⟨some F224, none, some (M226 _k), some F227, some (M228 _k), some F229, some F230, some F231⟩
theorem l0_3_4 (_k : Nat) (_h : Hy _k) : Lf Tryz.prog ann 224 (tb0_3_4 _k) := ⟨(fe2_of fe224), trivial, (fm226 _k _h.h226), (fe2_of fe227), (fm228 _k _h.h228), (fe2_of fe229), (fe2_of fe230), (fe2_of fe231)⟩
def tb0_3_5 (_k : Nat) : N8 (Option F2) := ⟨some (M232 _k), some F233, some F234, some F235, some F236, some F237, some F238, some F239⟩
theorem l0_3_5 (_k : Nat) (_h : Hy _k) : Lf Tryz.prog ann 232 (tb0_3_5 _k) := ⟨(fm232 _k _h.h232), (fe2_of fe233), (fe2_of fe234), (fe2_of fe235), (fe2_of fe236), (fe2_of fe237), (fe2_of fe238), (fe2_of fe239)⟩
def tb0_3_6 (_k : Nat) : N8 (Option F2) := ⟨some F240, some F241, some F242, some F243, some F244, some F245, some F246, some F247⟩
theorem l0_3_6 (_k : Nat) (_h : Hy _k) : Lf Tryz.prog ann 240 (tb0_3_6 _k) := ⟨(fe2_of fe240), (fe2_of fe241), (fe2_of fe242), (fe2_of fe243), (fe2_of fe244), (fe2_of fe245), (fe2_of fe246), (fe2_of fe247)⟩
def tb0_3_7 (_k : Nat) : N8 (Option F2) := ⟨some F248, some F249, some F250, some F251, some F252, some F253, some F254, some F255⟩
theorem l0_3_7 (_k : Nat) (_h : Hy _k) : Lf Tryz.prog ann 248 (tb0_3_7 _k) := ⟨(fe2_of fe248), (fe2_of fe249), (fe2_of fe250), (fe2_of fe251), (fe2_of fe252), (fe2_of fe253), (fe2_of fe254), (fe2_of fe255)⟩
def tb0_3 (_k : Nat) : N8 (N8 (Option F2)) := ⟨tb0_3_0 _k, tb0_3_1 _k, tb0_3_2 _k, tb0_3_3 _k, tb0_3_4 _k, tb0_3_5 _k, tb0_3_6 _k, tb0_3_7 _k⟩
theorem l0_3 (_k : Nat) (_h : Hy _k) : Lg Tryz.prog ann 192 (tb0_3 _k) := ⟨l0_3_0 _k _h, l0_3_1 _k _h, l0_3_2 _k _h, l0_3_3 _k _h, l0_3_4 _k _h, l0_3_5 _k _h, l0_3_6 _k _h, l0_3_7 _k _h⟩
def tb0_4_0 (_k : Nat) : N8 (Option F2) := ⟨some F256, some F257, some F258, none, some F260, none, some F262, some F263⟩
theorem l0_4_0 (_k : Nat) (_h : Hy _k) : Lf Tryz.prog ann 256 (tb0_4_0 _k) := ⟨(fe2_of fe256), (fe2_of fe257), (fe2_of fe258), trivial, (fe2_of fe260), trivial, (fe2_of fe262), (fe2_of fe263)⟩
def tb0_4_1 (_k : Nat) : N8 (Option F2) := ⟨some F264, some F265, some F266, some F267, none, some F269, none, some (M271 _k)⟩
theorem l0_4_1 (_k : Nat) (_h : Hy _k) : Lf Tryz.prog ann 264 (tb0_4_1 _k) := ⟨(fe2_of fe264), (fe2_of fe265), (fe2_of fe266), (fe2_of fe267), trivial, (fe2_of fe269), trivial, (fm271 _k _h.h271)⟩
def tb0_4_2 (_k : Nat) : N8 (Option F2) := ⟨some F272, some F273, some F274, some F275, some F276, some F277, some F278, some F279⟩
theorem l0_4_2 (_k : Nat) (_h : Hy _k) : Lf Tryz.prog ann 272 (tb0_4_2 _k) := ⟨(fe2_of fe272), (fe2_of fe273), (fe2_of fe274), (fe2_of fe275), (fe2_of fe276), (fe2_of fe277), (fe2_of fe278), (fe2_of fe279)⟩
def tb0_4_3 (_k : Nat) : N8 (Option F2) := ⟨some F280, some (M281 _k), some F282, none, some F284, some F285, some F286, some F287⟩
theorem l0_4_3 (_k : Nat) (_h : Hy _k) : Lf Tryz.prog ann 280 (tb0_4_3 _k) := ⟨(fe2_of fe280), (fm281 _k _h.h281), (fe2_of fe282), trivial, (fe2_of fe284), (fe2_of fe285), (fe2_of fe286), (fe2_of fe287)⟩
def tb0_4_4 (_k : Nat) : N8 (Option F2) := ⟨none, some F289, some F290, some F291, some F292, none, none, none⟩
theorem l0_4_4 (_k : Nat) (_h : Hy _k) : Lf Tryz.prog ann 288 (tb0_4_4 _k) := ⟨trivial, (fe2_of fe289), (fe2_of fe290), (fe2_of fe291), (fe2_of fe292), trivial, trivial, trivial⟩
def tb0_4_6 (_k : Nat) : N8 (Option F2) := ⟨none, none, none, none, none, some F309, some F310, some F311⟩
theorem l0_4_6 (_k : Nat) (_h : Hy _k) : Lf Tryz.prog ann 304 (tb0_4_6 _k) := ⟨trivial, trivial, trivial, trivial, trivial, (fe2_of fe309), (fe2_of fe310), (fe2_of fe311)⟩
def tb0_4_7 (_k : Nat) : N8 (Option F2) := ⟨some F312, some F313, none, none, none, none, none, none⟩
theorem l0_4_7 (_k : Nat) (_h : Hy _k) : Lf Tryz.prog ann 312 (tb0_4_7 _k) := ⟨(fe2_of fe312), (fe2_of fe313), trivial, trivial, trivial, trivial, trivial, trivial⟩
def tb0_4 (_k : Nat) : N8 (N8 (Option F2)) := ⟨tb0_4_0 _k, tb0_4_1 _k, tb0_4_2 _k, tb0_4_3 _k, tb0_4_4 _k, tbN, tb0_4_6 _k, tb0_4_7 _k⟩
theorem l0_4 (_k : Nat) (_h : Hy _k) : Lg Tryz.prog ann 256 (tb0_4 _k) := ⟨l0_4_0 _k _h, l0_4_1 _k _h, l0_4_2 _k _h, l0_4_3 _k _h, l0_4_4 _k _h, zN _, l0_4_6 _k _h, l0_4_7 _k _h⟩
def tb0 (_k : Nat) : N8 (N8 (N8 (Option F2))) := ⟨tb0_0 _k, tb0_1 _k, tb0_2 _k, tb0_3 _k, tb0_4 _k, tbNN, tbNN, tbNN⟩
theorem l0 (_k : Nat) (_h : Hy _k) : Lh Tryz.prog ann 0 (tb0 _k) := ⟨l0_0 _k _h, l0_1 _k _h, l0_2 _k _h, l0_3 _k _h, l0_4 _k _h, zNN _, zNN _, zNN _⟩
def tb (_k : Nat) : TB2 := ⟨tb0 _k, tbNNN, tbNNN, tbNNN, tbNNN, tbNNN, tbNNN, tbNNN⟩
theorem tbok (_k : Nat) (_h : Hy _k) : TBok2 Tryz.prog ann (tb _k) := tb2_ok ⟨l0 _k _h, zNNN _, zNNN _, zNNN _, zNNN _, zNNN _, zNNN _, zNNN _⟩
end
end Go.Proofs.SlimCode
