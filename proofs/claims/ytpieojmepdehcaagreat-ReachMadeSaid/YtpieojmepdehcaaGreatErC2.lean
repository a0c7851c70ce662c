/- Code for the evaluator, part 2. -/
import Derived.Test.YtpieojmepdehcaaGreatErC1
open Go Go.Abs
namespace Go.Proofs.SlimCode
set_option maxRecDepth 100000
noncomputable section
/- (*daguerre/verify.checker).rest -/
def H210 : F2C := fun c _ v s K =>
pop v fun x0 v =>
pop v fun x1 v =>
endE v (
zTbox x1 s fun x2 s =>
fa1 x2 0 fun x3 =>
ldA x3 take1 s fun x4 s =>
jn (fun _ s =>
K (.tup []) s) fun K5 =>
bEqF x4 (ci 56) fun x6 =>
cnd x6 (none)
(bEqF x4 (ci 57) fun x7 =>
cnd x7 (none)
(bEqF x4 (ci 58) fun x8 =>
cnd x8 (none)
(bEqF x4 (ci 59) fun x9 =>
jn (fun _ s =>
K5 [] s) fun K10 =>
cnd x9 (c (.mk .d0 .d3 .d1 .d4) [x0, (.str [73])] s fun _ s =>
K10 [] s)
(zBsl [.str []] 1 1 (eCons 0 1 (.str [73]) eNil) s fun x12 s =>
c (.mk .d0 .d3 .d1 .d3) [x0, x12] s fun _ s =>
K10 [] s)))))
def F210 : F2 := .fn H210 true
theorem fe210 : feE Tryz.prog ann 210 2 [.j [], .cl, .cl, .cl, .j []] = some F210 := by kernel_rfl
/- daguerre/op.between -/
def H211 : F2C := fun _ _ v s K =>
pop v fun x0 v =>
pop v fun x1 v =>
pop v fun x2 v =>
endE v (
bGe x0 x1 fun x3 =>
gK x3 true x0 fun x4 =>
gK x3 true x2 fun x5 =>
gV x3 true (bLe x4 x5) fun x6 =>
vPick x3 x6 cf fun x7 =>
K x7 s)
def F211 : F2 := .fn H211 true
theorem fe211 : feE Tryz.prog ann 211 3 [] = some F211 := by kernel_rfl
/- daguerre/types.Goes -/
def H212 : F2C := fun c _ v s K =>
pop v fun x0 v =>
pop v fun x1 v =>
pop v fun x2 v =>
pop v fun x3 v =>
endE v (
zTbox x1 s fun x4 s =>
fa1 x4 1 fun x5 =>
ldA x5 take1 s fun x6 s =>
c (.mk .d0 .d4 .d4 .d1) [x0, x2, x6] s fun x7 s =>
gK x7 true x0 fun x8 =>
gK x7 true x3 fun x9 =>
gV x7 true (fa1 x4 2) fun x10 =>
gH x7 true (ldA x10 take1) s fun x11 s =>
gH x7 true (c (.mk .d0 .d4 .d4 .d1) [x8, x9, x11]) s fun x12 s =>
vPick x7 x12 cf fun x13 =>
K x13 s)
def F212 : F2 := .fn H212 true
theorem fe212 : feE Tryz.prog ann 212 4 [] = some F212 := by kernel_rfl
/- (*daguerre/reach.Reach).chosen -/
def H213 : F2C := fun c _ v s K =>
pop v fun x0 v =>
pop v fun x1 v =>
pop v fun x2 v =>
endE v (
zTbox x2 s fun x3 s =>
lgE qNoE (zK x0) s fun x4 e5 s =>
lgE qNoE (zV (vChk x4)) s fun x6 e7 s =>
lgE qNoE (zV (fa1 x6 0)) s fun x8 e9 s =>
lgE (qLdE x8 1) (ldA x8 take1) s fun x10 e11 s =>
lgE qNoE (zK x1) s fun x12 e13 s =>
lgE qNoE (zV (fa1 x3 0)) s fun x14 e15 s =>
lgE (qLdE x14 1) (ldA x14 take1) s fun x16 e17 s =>
lgE qNoE (c (.mk .d0 .d1 .d4 .d2) [x10, x12, x16]) s fun x18 e19 s =>
lgE qNoE (zV (vGen (.un .not (.c x18)))) s fun x20 e21 s =>
calmE [(3, 6)] [e5, e7, e9, e11, e13, e15, e17, e19, e21] (fun s =>
cnd x20 (K (.tup []) s)
(lgE qNoE (zK x0) s fun x22 e23 s =>
lgE qNoE (zV (vChk x22)) s fun x24 e25 s =>
lgE qNoE (zV (fa1 x24 0)) s fun x26 e27 s =>
lgE (qLdE x26 1) (ldA x26 take1) s fun x28 e29 s =>
lgE qNoE (zK x1) s fun x30 e31 s =>
lgE qNoE (zV (fa1 x3 1)) s fun x32 e33 s =>
lgE (qLdE x32 1) (ldA x32 take1) s fun x34 e35 s =>
lgE qNoE (c (.mk .d0 .d4 .d3 .d2) [x28, x30, x34]) s fun x36 e37 s =>
lgE qNoE (zK x36) s fun x38 e39 s =>
lgE qNoE (zV (vExt x38 0)) s fun x40 e41 s =>
lgE qNoE (zV (vExt x38 1)) s fun x42 e43 s =>
lgE qNoE (zK x40) s fun x44 e45 s =>
lgE qNoE (zK x42) s fun x46 e47 s =>
calmE [(3, 6)] [e23, e25, e27, e29, e31, e33, e35, e37, e39, e41, e43, e45, e47] (fun s =>
cnd x46 (fa1 x3 1 fun x48 =>
ldA x48 take1 s fun x49 s =>
c (.mk .d0 .d0 .d5 .d1) [x0, x44, x49] s fun _ s =>
K (.tup []) s)
(none)) s)) s)
def F213 : F2 := .fn H213 true
theorem fe213 : feE Tryz.prog ann 213 3 [.j [], .cr] = some F213 := by kernel_rfl
/- container/heap.Push -/
def H214 : F2C := fun c _ v s K =>
pop v fun x0 v =>
pop v fun x1 v =>
endE v (
zInv [(108, 146, none), (216, 445, none)] x0 [x1] c s fun _ s =>
zInv [(17, 438, none), (64, 246, none), (90, 166, none), (216, 441, some none)] x0 [] c s fun x3 s =>
bSub x3 (ci 1) fun x4 =>
c (.mk .d0 .d4 .d4 .d2) [x0, x4] s fun _ s =>
K (.tup []) s)
def F214 : F2 := .fn H214 true
theorem fe214 : feE Tryz.prog ann 214 2 [] = some F214 := by kernel_rfl
/- container/heap.Pop -/
def H215 : F2C := fun c _ v s K =>
pop v fun x0 v =>
endE v (
zInv [(17, 438, none), (64, 246, none), (90, 166, none), (216, 441, some none)] x0 [] c s fun x1 s =>
bSub x1 (ci 1) fun x2 =>
zInv [(216, 443, some none)] x0 [(ci 0), x2] c s fun _ s =>
c (.mk .d0 .d4 .d4 .d3) [x0, (ci 0), x2] s fun _ s =>
zInv [(108, 300, none), (216, 444, none)] x0 [] c s fun x5 s =>
K x5 s)
def F215 : F2 := .fn H215 true
theorem fe215 : feE Tryz.prog ann 215 1 [] = some F215 := by kernel_rfl
/- daguerre/class.Method$1 -/
def H217 : F2C := fun _ _ v s K =>
pop v fun x0 v =>
pop v fun x1 v =>
endE v (
zTbox x0 s fun x2 s =>
fa1 x2 0 fun x3 =>
ldA x3 take1 s fun x4 s =>
ldA x1 take1 s fun x5 s =>
bEqF x4 x5 fun x6 =>
K x6 s)
def F217 : F2 := .fn H217 true
theorem fe217 : feE Tryz.prog ann 217 2 [] = some F217 := by kernel_rfl
/- slices.IndexFunc[[]daguerre/api.Method,daguerre/api.Method] -/
def H216 : F2C := fun c k v s K =>
pop v fun x0 v =>
pop v fun x1 v =>
endE v (
vLenS x0 fun x2 =>
jn (fun _ s =>
K (.int .i64 (-1)) s) fun K3 =>
loopE k (fun K4 v s =>
pop v fun x5 _ =>
bLt x5 x2 fun x6 =>
cnd x6 (jn (fun _ s =>
bAdd x5 (ci 1) fun x8 =>
K4 [x8] s) fun K7 =>
vIaS x0 x5 10 fun x9 =>
ldA x9 (takeN 10) s fun x10 s =>
zCallV c x1 [x10] s fun x11 s =>
cnd x11 (K x5 s)
(K7 [] s))
(K3 [] s)) [(ci 0)] s)
def F216 : F2 := .fn H216 true
theorem fe216 : feE Tryz.prog ann 216 2 [.j [], .j [8], .j [], .j [], .j []] = some F216 := by kernel_rfl
/- daguerre/link.Field -/
def H218 : F2C := fun c k v s K =>
pop v fun x0 v =>
pop v fun x1 v =>
pop v fun x2 v =>
endE v (
boxD false [.str [], .str [], .bool false] s fun x3 s =>
c (.mk .d0 .d1 .d3 .d4) [x0, x1] s fun x4 s =>
vLenS x4 fun x5 =>
jn (fun _ s =>
vBld [.str [], .str [], .bool false] eNil fun x7 =>
zSt x3 x7 3 s fun _ s =>
ldA x3 (takeN 3) s fun x9 s => K (.tup [(.str []), x9, cf]) s) fun _ =>
loopE k (fun K10 v s =>
pop v fun x11 _ =>
bLt x11 x5 fun x12 =>
cnd x12 (jn (fun _ s =>
bAdd x11 (ci 1) fun x14 =>
K10 [x14] s) fun K13 =>
vIaS x4 x11 1 fun x15 =>
ldA x15 take1 s fun x16 s =>
c (.mk .d0 .d0 .d6 .d7) [x0, x16] s fun x17 s =>
vExt x17 0 fun x18 =>
vExt x17 1 fun _ =>
boxD false [.str [], .str [], .bool false, .nil .sl, .nil .sl, .nil .sl] s fun x20 s =>
zSt x20 x18 6 s fun _ s =>
ldA x20 (takeN 6) s fun x22 s =>
c (.mk .d0 .d4 .d4 .d4) [x22, x2] s fun x23 s =>
bGe x23 (ci 0) fun x24 =>
cnd x24 (fa1 x20 4 fun x25 =>
ldA x25 take1 s fun x26 s =>
vIaS x26 x23 3 fun x27 =>
ldA x27 (takeN 3) s fun x28 s =>
zSt x3 x28 3 s fun _ s =>
ldA x3 (takeN 3) s fun x30 s => K (.tup [x16, x30, ct]) s)
(K13 [] s))
(none)) [(ci 0)] s)
def F218 : F2 := .fn H218 true
theorem fe218 : feE Tryz.prog ann 218 3 [.j [], .j [18], .cr, .j [], .j []] = some F218 := by kernel_rfl
/- (*daguerre/reach.Reach).call -/
def H219 : F2C := fun c k v s K =>
pop v fun x0 v =>
pop v fun x1 v =>
endE v (
zTbox x1 s fun x2 s =>
lgE qNoE (zK x0) s fun x3 e4 s =>
lgE qNoE (zV (vChk x3)) s fun x5 e6 s =>
lgE qNoE (zV (fa1 x5 7)) s fun x7 e8 s =>
lgE (qLdE x7 1) (ldA x7 take1) s fun x9 e10 s =>
lgE (qLdE x2 2) (ldA x2 (takeN 2)) s fun x11 e12 s =>
lgE qNoE (c (.mk .d0 .d4 .d4 .d5) [x9, x11]) s fun x13 e14 s =>
calmE [(3, 4)] [e4, e6, e8, e10, e12, e14] (fun s =>
cnd x13 (none)
(lgE qNoE (zK x0) s fun x15 e16 s =>
lgE qNoE (zK x0) s fun x17 e18 s =>
lgE qNoE (zV (vChk x17)) s fun x19 e20 s =>
lgE qNoE (zV (fa1 x19 7)) s fun x21 e22 s =>
lgE (qLdE x21 1) (ldA x21 take1) s fun x23 e24 s =>
lgE (qLdE x2 2) (ldA x2 (takeN 2)) s fun x25 e26 s =>
lgE qNoE (zBsl [.str [], .str []] 2 1 (eCons 0 2 x25 eNil)) s fun x27 e28 s =>
lgE qNoE (appB 2 32 x23 x27) s fun x29 e30 s =>
lgE qNoE (zV (vChk x15)) s fun x31 e32 s =>
lgE qNoE (zV (fa1 x31 7)) s fun x33 e34 s =>
lgE qNoE (zSt x33 x29 1) s fun _ e36 s =>
calmE [(4, 5), (4, 6)] [e16, e18, e20, e22, e24, e26, e28, e30, e32, e34, e36] (fun s =>
vChk x0 fun x37 =>
fa1 x37 0 fun x38 =>
ldA x38 take1 s fun x39 s =>
c (.mk .d0 .d1 .d2 .d7) [x39] s fun x40 s =>
vLenS x40 fun x41 =>
jn (fun _ s =>
K (.tup []) s) fun K42 =>
loopE k (fun K43 v s =>
pop v fun x44 _ =>
bLt x44 x41 fun x45 =>
cnd x45 (jn (fun _ s =>
bAdd x44 (ci 1) fun x47 =>
K43 [x47] s) fun K46 =>
vIaS x40 x44 1 fun x48 =>
ldA x48 take1 s fun x49 s =>
vChk x0 fun x50 =>
fa1 x50 5 fun x51 =>
ldA x51 take1 s fun x52 s =>
zLku .str (.bool false) x52 x49 false s fun x53 s =>
jn (fun _ s =>
K46 [] s) fun K54 =>
cnd x53 (ldA x2 (takeN 2) s fun x55 s =>
c (.mk .d0 .d3 .d2 .d5) [x0, x49, x55] s fun _ s =>
K54 [] s)
(K54 [] s))
(K42 [] s)) [(ci 0)] s) s)) s)
def F219 : F2 := .fn H219 true
theorem fe219 : feE Tryz.prog ann 219 2 [.cl, .j [], .j [28], .j [], .j [], .j []] = some F219 := by kernel_rfl
/- daguerre/ints.Two -/
def H221 : F2C := fun c _ v s K =>
pop v fun x0 v =>
pop v fun x1 v =>
pop v fun x2 v =>
endE v (
jn (fun _ s =>
K (.tup [(cj 0), cf]) s) fun _ =>
bEqF x0 (ci 8) fun x4 =>
cnd x4 (bAdd x1 x2 fun x5 =>
K (.tup [x5, ct]) s)
(bEqF x0 (ci 9) fun x6 =>
cnd x6 (bSub x1 x2 fun x7 =>
K (.tup [x7, ct]) s)
(bEqF x0 (ci 10) fun x8 =>
cnd x8 (none)
(bEqF x0 (ci 11) fun x9 =>
cnd x9 (cnd x9 (c (.mk .d0 .d4 .d4 .d7) [x0, x1, x2] s fun x10 s =>
vExt x10 0 fun x11 =>
vExt x10 1 fun x12 =>
K (.tup [x11, x12]) s)
(none))
(none)))))
def F221 : F2 := .fn H221 true
theorem fe221 : feE Tryz.prog ann 221 3 [.j [], .j [], .j [], .cl, .cr, .cr] = some F221 := by kernel_rfl
/- daguerre/ints.One -/
def H222 : F2C := fun _ _ v s K =>
pop v fun x0 v =>
pop v fun x1 v =>
endE v (
bEqT x0 (ci 13) fun x2 =>
cnd x2 (none)
(vGen (.un .neg (.c x1)) fun x3 =>
K x3 s))
def F222 : F2 := .fn H222 true
theorem fe222 : feE Tryz.prog ann 222 2 [.cl] = some F222 := by kernel_rfl
/- daguerre/ints.Goes -/
def H223 : F2C := fun _ _ v s K =>
pop v fun x0 v =>
pop v fun x1 v =>
pop v fun x2 v =>
endE v (
bGe x0 (ci 21) fun x3 =>
gK x3 true x0 fun x4 =>
gV x3 true (bLe x4 (ci 26)) fun x5 =>
vPick x3 x5 cf fun x6 =>
jn (fun v s =>
pop v fun x8 v =>
pop v fun x9 _ =>
jn (fun _ s =>
K cf s) fun _ =>
bEqF x8 (ci 27) fun x11 =>
cnd x11 (bEqF x1 x9 fun x12 =>
K x12 s)
(bEqF x8 (ci 28) fun x13 =>
cnd x13 (none)
(bEqF x8 (ci 29) fun x14 =>
cnd x14 (bLt x1 x9 fun x15 =>
K x15 s)
(none)))) fun K7 =>
cnd x6 (bSub x0 (ci 21) fun x16 =>
bAdd x16 (ci 27) fun x17 =>
K7 [x17, (cj 0)] s)
(K7 [x0, x2] s))
def F223 : F2 := .fn H223 true
theorem fe223 : feE Tryz.prog ann 223 3 [.j [0, 2], .j [], .j [], .cl, .cr] = some F223 := by kernel_rfl
/- (*daguerre/heap.Heap).Make -/
def H224 : F2C := fun c _ v s K =>
pop v fun x0 v =>
pop v fun x1 v =>
pop v fun x2 v =>
endE v (
lgE qNoE (zK x0) s fun x3 e4 s =>
lgE qNoE (zV (vNil false .ptr x3)) s fun x5 e6 s =>
lgE qNoE (zK x5) s fun x7 e8 s =>
lgE (qGE x7 false qNoE) (zG x7 false (zK x1)) s fun x9 e10 s =>
lgE (qGE x7 false qNoE) (zG x7 false (zK x2)) s fun x11 e12 s =>
lgE (qGE x7 false qNoE) (zG x7 false (c (.mk .d0 .d2 .d3 .d4) [x9, x11])) s fun x13 e14 s =>
lgE (qGE x7 false qNoE) (zG x7 false (zV (vGen (.un .not (.c x13))))) s fun x15 e16 s =>
lgE qNoE (zV (vPick x7 ct x15)) s fun x17 e18 s =>
lgE qNoE (zK x17) s fun x19 e20 s =>
lgE (qGE x19 false qNoE) (zG x19 false (zK x2)) s fun x21 e22 s =>
lgE (qGE x19 false qNoE) (zG x19 false (zV (bAdd x21 (ci 2)))) s fun x23 e24 s =>
lgE (qGE x19 false qNoE) (zG x19 false (zK x0)) s fun x25 e26 s =>
lgE (qGE x19 false qNoE) (zG x19 false (zV (vChk x25))) s fun x27 e28 s =>
lgE (qGE x19 false qNoE) (zG x19 false (zV (fa1 x27 0))) s fun x29 e30 s =>
lgE (qGE x19 false (qLdE x29 1)) (zG x19 false (ldA x29 take1)) s fun x31 e32 s =>
lgE (qGE x19 false qNoE) (zG x19 false (zK x0)) s fun x33 e34 s =>
lgE (qGE x19 false qNoE) (zG x19 false (zV (vChk x33))) s fun x35 e36 s =>
lgE (qGE x19 false qNoE) (zG x19 false (zV (fa1 x35 1))) s fun x37 e38 s =>
lgE (qGE x19 false (qLdE x37 1)) (zG x19 false (ldA x37 take1)) s fun x39 e40 s =>
lgE (qGE x19 false qNoE) (zG x19 false (zV (vLenS x39))) s fun x41 e42 s =>
lgE (qGE x19 false qNoE) (zG x19 false (zV (bSub x31 x41))) s fun x43 e44 s =>
lgE (qGE x19 false qNoE) (zG x19 false (zV (bGt x23 x43))) s fun x45 e46 s =>
lgE qNoE (zV (vPick x19 ct x45)) s fun x47 e48 s =>
calmE [(14, 18), (14, 19)] [e4, e6, e8, e10, e12, e14, e16, e18, e20, e22, e24, e26, e28, e30, e32, e34, e36, e38, e40, e42, e44, e46, e48] (fun s =>
cnd x47 (K (.tup [(.int .i64 (-1)), cf]) s)
(vChk x0 fun x49 =>
fa1 x49 1 fun x50 =>
ldA x50 take1 s fun x51 s =>
vLenS x51 fun x52 =>
vChk x0 fun x53 =>
fa1 x53 1 fun x54 =>
ldA x54 take1 s fun x55 s =>
vCv .i32 x1 fun x56 =>
vCv .i32 x2 fun x57 =>
zBsl [.int .i32 0, .int .i32 0] 1 2 (eCons 0 1 x56 (eCons 1 1 x57 eNil)) s fun x58 s =>
appB 1 4 x55 x58 s fun x59 s =>
zApz 1 4 [.int .i32 0] x59 x2 s fun x60 s =>
vChk x0 fun x61 =>
fa1 x61 1 fun x62 =>
zSt x62 x60 1 s fun _ s =>
vChk x0 fun x64 =>
fa1 x64 2 fun x65 =>
ldA x65 take1 s fun x66 s =>
zBsl [.bool false] 1 1 (eCons 0 1 ct eNil) s fun x67 s =>
appB 1 1 x66 x67 s fun x68 s =>
bAdd x2 (ci 1) fun x69 =>
zApz 1 1 [.bool false] x68 x69 s fun x70 s =>
vChk x0 fun x71 =>
fa1 x71 2 fun x72 =>
zSt x72 x70 1 s fun _ s =>
K (.tup [x52, ct]) s)) s)
def F224 : F2 := .fn H224 true
theorem fe224 : feE Tryz.prog ann 224 3 [.j []] = some F224 := by kernel_rfl
/- (*daguerre/heap.Heap).Put -/
def H225 : F2C := fun c _ v s K =>
pop v fun x0 v =>
pop v fun x1 v =>
pop v fun x2 v =>
pop v fun x3 v =>
endE v (
bLt x2 (ci 0) fun x4 =>
gK x4 false x2 fun x5 =>
gK x4 false x0 fun x6 =>
gK x4 false x1 fun x7 =>
gH x4 false (c (.mk .d0 .d3 .d6 .d6) [x6, x7]) s fun x8 s =>
gV x4 false (bGe x5 x8) fun x9 =>
vPick x4 ct x9 fun x10 =>
cnd x10 (none)
(vChk x0 fun x11 =>
fa1 x11 1 fun x12 =>
ldA x12 take1 s fun x13 s =>
bAdd x1 (ci 2) fun x14 =>
bAdd x14 x2 fun x15 =>
vIaS x13 x15 1 fun x16 =>
zSt x16 x3 1 s fun _ s =>
K ct s))
def F225 : F2 := .fn H225 true
theorem fe225 : feE Tryz.prog ann 225 4 [.cl] = some F225 := by kernel_rfl
/- daguerre/daguerrelaw14.refs -/
def H226 : F2C := fun c _ v s K =>
pop v fun x0 v =>
pop v fun x1 v =>
endE v (
c .rem [x0, (ci 2), (ci 5)] s fun x2 s =>
bEqF x2 (ci 0) fun x3 =>
gK x3 false x1 fun x4 =>
gV x3 false (bEqF x4 (ci 0)) fun x5 =>
vPick x3 ct x5 fun x6 =>
K x6 s)
def F226 : F2 := .fn H226 true
theorem fe226 : feE Tryz.prog ann 226 2 [] = some F226 := by kernel_rfl
/- daguerre/daguerrelaw13.Begun -/
def H227 : F2C := fun c _ v s K =>
endE v (
c (.mk .d0 .d4 .d5 .d0) [] s fun x0 s =>
K x0 s)
def F227 : F2 := .pur H227 true mNo
theorem fe227 : feE Tryz.prog ann 227 0 [] = some F227 := by kernel_rfl
/- (*daguerre/heap.Heap).Kind -/
def H228 : F2C := fun c _ v s K =>
pop v fun x0 v =>
pop v fun x1 v =>
endE v (
c (.mk .d0 .d4 .d5 .d1) [x0, x1] s fun x2 s =>
vGen (.un .not (.c x2)) fun x3 =>
cnd x3 (none)
(vChk x0 fun x4 =>
fa1 x4 1 fun x5 =>
ldA x5 take1 s fun x6 s =>
vIaS x6 x1 1 fun x7 =>
ldA x7 take1 s fun x8 s =>
vCv .i64 x8 fun x9 =>
K x9 s))
def F228 : F2 := .fn H228 true
theorem fe228 : feE Tryz.prog ann 228 2 [.cl] = some F228 := by kernel_rfl
/- (*daguerre/heap.Heap).Get -/
def H229 : F2C := fun c _ v s K =>
pop v fun x0 v =>
pop v fun x1 v =>
pop v fun x2 v =>
endE v (
bLt x2 (ci 0) fun x3 =>
gK x3 false x2 fun x4 =>
gK x3 false x0 fun x5 =>
gK x3 false x1 fun x6 =>
gH x3 false (c (.mk .d0 .d3 .d6 .d6) [x5, x6]) s fun x7 s =>
gV x3 false (bGe x4 x7) fun x8 =>
vPick x3 ct x8 fun x9 =>
cnd x9 (none)
(vChk x0 fun x10 =>
fa1 x10 1 fun x11 =>
ldA x11 take1 s fun x12 s =>
bAdd x1 (ci 2) fun x13 =>
bAdd x13 x2 fun x14 =>
vIaS x12 x14 1 fun x15 =>
ldA x15 take1 s fun x16 s =>
K x16 s))
def F229 : F2 := .fn H229 true
theorem fe229 : feE Tryz.prog ann 229 3 [.cl] = some F229 := by kernel_rfl
/- (*daguerre/state.State).Put -/
def H230 : F2C := fun c _ v s K =>
pop v fun x0 v =>
pop v fun x1 v =>
pop v fun x2 v =>
pop v fun x3 v =>
endE v (
zTbox x3 s fun x4 s =>
c (.mk .d0 .d0 .d3 .d4) [x0, x1, x2] s fun x5 s =>
vExt x5 0 fun x6 =>
vExt x5 1 fun x7 =>
boxD false [.bool false, .int .i32 0] s fun x8 s =>
zSt x8 x6 2 s fun _ s =>
vGen (.un .not (.c x7)) fun x10 =>
gV x10 false (fa1 x8 0) fun x11 =>
gH x10 false (ldA x11 take1) s fun x12 s =>
gV x10 false (fa1 x4 0) fun x13 =>
gH x10 false (ldA x13 take1) s fun x14 s =>
gV x10 false (vBeq true x12 x14) fun x15 =>
vPick x10 ct x15 fun x16 =>
cnd x16 (K cf s)
(lgE qNoE (zK x0) s fun x17 e18 s =>
lgE qNoE (zV (vChk x17)) s fun x19 e20 s =>
lgE qNoE (zV (fa1 x19 2)) s fun x21 e22 s =>
lgE (qLdE x21 1) (ldA x21 take1) s fun x23 e24 s =>
lgE qNoE (zK x1) s fun x25 e26 s =>
lgE qNoE (zK x2) s fun x27 e28 s =>
lgE qNoE (c (.mk .d0 .d1 .d1 .d4) [x25, x27]) s fun x29 e30 s =>
lgE (qLdE x4 2) (ldA x4 (takeN 2)) s fun x31 e32 s =>
lgE qNoE (zMup .str x23 x29 x31) s fun _ e34 s =>
calmE [(3, 6), (3, 7), (6, 7)] [e18, e20, e22, e24, e26, e28, e30, e32, e34] (fun s =>
K ct s) s))
def F230 : F2 := .fn H230 true
theorem fe230 : feE Tryz.prog ann 230 4 [.j []] = some F230 := by kernel_rfl
/- daguerre/daguerrelaw8.Begun -/
def H231 : F2C := fun c _ v s K =>
endE v (
c (.mk .d0 .d4 .d5 .d2) [] s fun x0 s =>
K x0 s)
def F231 : F2 := .pur H231 true mNo
theorem fe231 : feE Tryz.prog ann 231 0 [] = some F231 := by kernel_rfl
/- daguerre/daguerrelaw15.Begun -/
def H232 : F2C := fun c _ v s K =>
endE v (
c (.mk .d0 .d4 .d5 .d3) [] s fun x0 s =>
K x0 s)
def F232 : F2 := .pur H232 true mNo
theorem fe232 : feE Tryz.prog ann 232 0 [] = some F232 := by kernel_rfl
/- daguerre/kind.May -/
def H172 : F2C := fun c _ v s K =>
pop v fun x0 v =>
endE v (
c (.mk .d0 .d4 .d1 .d1) [x0, (.str [91])] s fun x1 s =>
c (.mk .d0 .d4 .d1 .d1) [x1, (.str [91])] s fun x2 s =>
bEqF x2 (.str [73]) fun x3 =>
gK x3 false x2 fun x4 =>
gH x3 false (c (.mk .d0 .d2 .d6 .d1) [x4]) s fun x5 s =>
vPick x3 ct x5 fun x6 =>
K x6 s)
def F172 : F2 := .fn H172 true
theorem fe172 : feE Tryz.prog ann 172 1 [] = some F172 := by kernel_rfl
/- (*daguerre/lazy.act).peek -/
def H233 : F2C := fun c _ v s K =>
pop v fun x0 v =>
pop v fun x1 v =>
endE v (
vChk x0 fun x2 =>
fa1 x2 0 fun x3 =>
ldA x3 take1 s fun x4 s =>
c (.mk .d0 .d4 .d5 .d4) [x4, x1] s fun x5 s =>
vExt x5 0 fun x6 =>
vExt x5 1 fun _ =>
vChk x0 fun x8 =>
fa1 x8 0 fun x9 =>
ldA x9 take1 s fun x10 s =>
c (.mk .d0 .d2 .d2 .d2) [x10, x6] s fun _ s =>
K x6 s)
def F233 : F2 := .fn H233 true
theorem fe233 : feE Tryz.prog ann 233 2 [] = some F233 := by kernel_rfl
/- (*daguerre/lazy.Machine).raise -/
def H143 : F2C := fun c _ v s K =>
pop v fun x0 v =>
pop v fun x1 v =>
endE v (
c (.mk .d0 .d3 .d5 .d6) [x0, x1, (ci 0)] s fun x2 s =>
vExt x2 0 fun x3 =>
vExt x2 1 fun x4 =>
cnd x4 (c (.mk .d0 .d3 .d7 .d1) [x0, x3] s fun _ s =>
K (.tup []) s)
(none))
def F143 : F2 := .fn H143 true
theorem fe143 : feE Tryz.prog ann 143 2 [.cr] = some F143 := by kernel_rfl
/- daguerre/lazy.number -/
def H235 : F2C := fun _ _ v s K =>
pop v fun x0 v =>
endE v (
boxD false [.bool false, .int .i32 0] s fun x1 s =>
vBld [.bool false, .int .i32 0] (eCons 1 1 x0 eNil) fun x2 =>
zSt x1 x2 2 s fun _ s =>
ldA x1 (takeN 2) s K)
def F235 : F2 := .fn H235 true
theorem fe235 : feE Tryz.prog ann 235 1 [] = some F235 := by kernel_rfl
/- (*daguerre/lazy.act).swap -/
def H234 : F2C := fun c _ v s K =>
pop v fun x0 v =>
pop v fun x1 v =>
pop v fun x2 v =>
endE v (
vChk x0 fun x3 =>
fa1 x3 0 fun x4 =>
ldA x4 take1 s fun x5 s =>
c (.mk .d0 .d4 .d5 .d4) [x5, x1] s fun _ s =>
vChk x0 fun x7 =>
fa1 x7 0 fun x8 =>
ldA x8 take1 s fun x9 s =>
c (.mk .d0 .d2 .d2 .d2) [x9, x2] s fun _ s =>
c (.mk .d0 .d3 .d7 .d0) [x0] s fun _ s =>
K (.tup []) s)
def F234 : F2 := .fn H234 true
theorem fe234 : feE Tryz.prog ann 234 3 [] = some F234 := by kernel_rfl
/- (*daguerre/frame.Frame).Load -/
def H236 : F2C := fun c _ v s K =>
pop v fun x0 v =>
pop v fun x1 v =>
endE v (
boxD false [.bool false, .int .i32 0] s fun x2 s =>
c (.mk .d0 .d4 .d5 .d5) [x0, x1] s fun x3 s =>
vGen (.un .not (.c x3)) fun x4 =>
cnd x4 (none)
(vChk x0 fun x5 =>
fa1 x5 3 fun x6 =>
ldA x6 take1 s fun x7 s =>
vIaS x7 x1 2 fun x8 =>
ldA x8 (takeN 2) s fun x9 s =>
zSt x2 x9 2 s fun _ s =>
ldA x2 (takeN 2) s fun x11 s => K (.tup [x11, ct]) s))
def F236 : F2 := .fn H236 true
theorem fe236 : feE Tryz.prog ann 236 2 [.cl] = some F236 := by kernel_rfl
/- (*daguerre/lazy.Machine).make -/
def H238 : F2C := fun c _ v s K =>
pop v fun x0 v =>
pop v fun x1 v =>
pop v fun x2 v =>
endE v (
c (.mk .d0 .d4 .d5 .d6) [x0, x1] s fun x3 s =>
vChk x0 fun x4 =>
fa1 x4 2 fun x5 =>
ldA x5 take1 s fun x6 s =>
c (.mk .d0 .d3 .d4 .d0) [x6, x3, x2] s fun x7 s =>
vExt x7 0 fun x8 =>
vExt x7 1 fun x9 =>
vGen (.un .not (.c x9)) fun x10 =>
cnd x10 (none)
(vGen (.un .not (.c x9)) fun x11 =>
cnd x11 (none)
(K (.tup [x8, x9]) s)))
def F238 : F2 := .fn H238 true
theorem fe238 : feE Tryz.prog ann 238 3 [.cl, .cl] = some F238 := by kernel_rfl
/- (*daguerre/lazy.Machine).call -/
def H242 : F2C := fun c _ v s K =>
pop v fun x0 v =>
pop v fun x1 v =>
pop v fun x2 v =>
pop v fun x3 v =>
endE v (
zTbox x3 s fun x4 s =>
fa1 x4 1 fun x5 =>
ldA x5 take1 s fun x6 s =>
vLenS x6 fun x7 =>
fa1 x4 3 fun x8 =>
ldA x8 take1 s fun x9 s =>
vGen (.un .not (.c x9)) fun x10 =>
cnd x10 (none)
(lgE qNoE (zK x0) s fun x11 e12 s =>
lgE qNoE (zK x2) s fun x13 e14 s =>
lgE (qLdE x4 10) (ldA x4 (takeN 10)) s fun x15 e16 s =>
lgE qNoE (zK x1) s fun x17 e18 s =>
lgE qNoE (zK x7) s fun x19 e20 s =>
lgE qNoE (c (.mk .d0 .d3 .d5 .d1) [x17, x19]) s fun x21 e22 s =>
lgE qNoE (c (.mk .d0 .d2 .d2 .d0) [x11, x13, x15, cf, x21]) s fun x23 e24 s =>
calmE [(2, 5)] [e12, e14, e16, e18, e20, e22, e24] (fun s =>
jn (fun _ s =>
K (.tup []) s) fun K25 =>
cnd x23 (vChk x1 fun x26 =>
fa1 x26 0 fun x27 =>
ldA x27 take1 s fun x28 s =>
c (.mk .d0 .d4 .d5 .d4) [x28, x7] s fun _ s =>
K25 [] s)
(K25 [] s)) s))
def F242 : F2 := .fn H242 true
theorem fe242 : feE Tryz.prog ann 242 4 [.cl, .j []] = some F242 := by kernel_rfl
/- (*daguerre/state.State).refs -/
def H252 : F2C := fun _ k v s K =>
pop v fun x0 v =>
endE v (
vNil false .ptr x0 fun x1 =>
cnd x1 (none)
(vChk x0 fun x2 =>
fa1 x2 3 fun x3 =>
ldA x3 take1 s fun x4 s =>
vLenS x4 fun x5 =>
jn (fun _ s =>
K (.nil .sl) s) fun K6 =>
loopE k (fun K7 v s =>
pop v fun x8 _ =>
bLt x8 x5 fun x9 =>
cnd x9 (jn (fun _ s =>
bAdd x8 (ci 1) fun x11 =>
K7 [x11] s) fun K10 =>
vIaS x4 x8 1 fun x12 =>
ldA x12 take1 s fun x13 s =>
vChk x0 fun x14 =>
fa1 x14 2 fun x15 =>
ldA x15 take1 s fun x16 s =>
zLku .str (.agg [.bool false, .int .i32 0]) x16 x13 false s fun x17 s =>
vFld x17 0 take1 fun x18 =>
cnd x18 (none)
(K10 [] s))
(K6 [] s)) [(ci 0)] s))
def F252 : F2 := .fn H252 true
theorem fe252 : feE Tryz.prog ann 252 1 [.cl, .j [], .j [13], .j [], .j [], .cl] = some F252 := by kernel_rfl
/- (*daguerre/frame.Frame).each -/
def H253 : F2C := fun _ k v s K =>
pop v fun x0 v =>
endE v (
vNil false .ptr x0 fun x1 =>
cnd x1 (none)
(lgE qNoE (zK x0) s fun x2 e3 s =>
lgE qNoE (zV (vChk x2)) s fun x4 e5 s =>
lgE qNoE (zV (fa1 x4 3)) s fun x6 e7 s =>
lgE (qLdE x6 1) (ldA x6 take1) s fun x8 e9 s =>
lgE qNoE (zK x0) s fun x10 e11 s =>
lgE qNoE (zV (vChk x10)) s fun x12 e13 s =>
lgE qNoE (zV (fa1 x12 4)) s fun x14 e15 s =>
lgE (qLdE x14 1) (ldA x14 take1) s fun x16 e17 s =>
lgE qNoE (zV (vBld [.nil .sl, .nil .sl] (eCons 0 1 x8 (eCons 1 1 x16 eNil)))) s fun x18 e19 s =>
lgE qNoE (zK (ci 0)) s fun x20 e21 s =>
calmE [(3, 7)] [e3, e5, e7, e9, e11, e13, e15, e17, e19, e21] (fun s =>
jn (fun v s =>
pop v fun x23 _ =>
K x23 s) fun K22 =>
loopE k (fun K24 v s =>
pop v fun x25 v =>
pop v fun x26 _ =>
bLt x25 (ci 2) fun x27 =>
cnd x27 (jn (fun v s =>
pop v fun x29 _ =>
bAdd x25 (ci 1) fun x30 =>
K24 [x30, x29] s) fun K28 =>
vGen (.ixa (.c x18) (.c x25) 2 1 none) fun x31 =>
vLenS x31 fun x32 =>
jn (fun v s =>
pop v fun x34 _ =>
K28 [x34] s) fun K33 =>
loopE k (fun K35 v s =>
pop v fun x36 v =>
pop v fun x37 _ =>
bLt x36 x32 fun x38 =>
cnd x38 (jn (fun v s =>
pop v fun x40 _ =>
bAdd x36 (ci 1) fun x41 =>
K35 [x41, x40] s) fun K39 =>
vIaS x31 x36 2 fun x42 =>
fa1 x42 0 fun x43 =>
ldA x43 take1 s fun x44 s =>
jn (fun v s =>
pop v fun x46 _ =>
K39 [x46] s) fun K45 =>
cnd x44 (vIaS x31 x36 2 fun x47 =>
zBsl [.nil .ptr] 1 1 (eCons 0 1 x47 eNil) s fun x48 s =>
appB 1 8 x37 x48 s fun x49 s =>
K45 [x49] s)
(K45 [x37] s))
(K33 [x37] s)) [(ci 0), x26] s)
(K22 [x26] s)) [x20, (.nil .sl)] s) s))
def F253 : F2 := .fn H253 true
theorem fe253 : feE Tryz.prog ann 253 1 [.cl, .j [3], .j [18, 3], .j [], .j [3], .j [3], .j [23, 3], .j [], .j [3], .j [3]] = some F253 := by kernel_rfl
/- (*daguerre/collect.copier).place -/
def H250 : F2C := fun c _ v s K =>
pop v fun x0 v =>
pop v fun x1 v =>
endE v (
vChk x0 fun x2 =>
fa1 x2 0 fun x3 =>
ldA x3 take1 s fun x4 s =>
c (.mk .d0 .d4 .d5 .d1) [x4, x1] s fun x5 s =>
vGen (.un .not (.c x5)) fun x6 =>
cnd x6 (K (.int .i64 (-1)) s)
(vChk x0 fun x7 =>
fa1 x7 2 fun x8 =>
ldA x8 take1 s fun x9 s =>
zLku (.int .i64) (.int .i64 0) x9 x1 true s fun x10 s =>
vExt x10 0 fun x11 =>
vExt x10 1 fun x12 =>
cnd x12 (K x11 s)
(lgE qNoE (zK x0) s fun x13 e14 s =>
lgE qNoE (zV (vChk x13)) s fun x15 e16 s =>
lgE qNoE (zV (fa1 x15 1)) s fun x17 e18 s =>
lgE (qLdE x17 1) (ldA x17 take1) s fun x19 e20 s =>
lgE qNoE (zK x0) s fun x21 e22 s =>
lgE qNoE (zV (vChk x21)) s fun x23 e24 s =>
lgE qNoE (zV (fa1 x23 0)) s fun x25 e26 s =>
lgE (qLdE x25 1) (ldA x25 take1) s fun x27 e28 s =>
lgE qNoE (zK x1) s fun x29 e30 s =>
lgE qNoE (c (.mk .d0 .d3 .d4 .d4) [x27, x29]) s fun x31 e32 s =>
lgE qNoE (zK x0) s fun x33 e34 s =>
lgE qNoE (zV (vChk x33)) s fun x35 e36 s =>
lgE qNoE (zV (fa1 x35 0)) s fun x37 e38 s =>
lgE (qLdE x37 1) (ldA x37 take1) s fun x39 e40 s =>
lgE qNoE (zK x1) s fun x41 e42 s =>
lgE qNoE (c (.mk .d0 .d3 .d6 .d6) [x39, x41]) s fun x43 e44 s =>
lgE qNoE (c (.mk .d0 .d3 .d4 .d0) [x19, x31, x43]) s fun x45 e46 s =>
lgE qNoE (zK x45) s fun x47 e48 s =>
lgE qNoE (zV (vExt x47 0)) s fun x49 e50 s =>
lgE qNoE (zV (vExt x47 1)) s fun x51 e52 s =>
lgE qNoE (zK x49) s fun x53 e54 s =>
lgE qNoE (zK x51) s fun _ e56 s =>
calmE [(3, 7), (3, 9), (3, 13), (7, 13), (9, 13), (3, 15)] [e14, e16, e18, e20, e22, e24, e26, e28, e30, e32, e34, e36, e38, e40, e42, e44, e46, e48, e50, e52, e54, e56] (fun s =>
vChk x0 fun x57 =>
fa1 x57 2 fun x58 =>
ldA x58 take1 s fun x59 s =>
zMup (.int .i64) x59 x1 x53 s fun _ s =>
vChk x0 fun x61 =>
fa1 x61 3 fun x62 =>
ldA x62 take1 s fun x63 s =>
zBsl [.int .i64 0] 1 1 (eCons 0 1 x1 eNil) s fun x64 s =>
appB 1 8 x63 x64 s fun x65 s =>
vChk x0 fun x66 =>
fa1 x66 3 fun x67 =>
zSt x67 x65 1 s fun _ s =>
K x53 s) s)))
def F250 : F2 := .fn H250 true
theorem fe250 : feE Tryz.prog ann 250 2 [.j [], .j []] = some F250 := by kernel_rfl
/- (*daguerre/heap.Heap).Len -/
def H246 : F2C := fun c _ v s K =>
pop v fun x0 v =>
pop v fun x1 v =>
endE v (
c (.mk .d0 .d4 .d5 .d1) [x0, x1] s fun x2 s =>
vGen (.un .not (.c x2)) fun x3 =>
cnd x3 (none)
(vChk x0 fun x4 =>
fa1 x4 1 fun x5 =>
ldA x5 take1 s fun x6 s =>
bAdd x1 (ci 1) fun x7 =>
vIaS x6 x7 1 fun x8 =>
ldA x8 take1 s fun x9 s =>
vCv .i64 x9 fun x10 =>
K x10 s))
def F246 : F2 := .fn H246 true
theorem fe246 : feE Tryz.prog ann 246 2 [.cl] = some F246 := by kernel_rfl
/- maps.clone -/
def H254 : F2 := .ext .clone true
theorem ok254 : F2ok Tryz.prog ann 254 H254 := ⟨rfl, ⟨Tryz.f254, Tryz.func254, by kernel_rfl⟩, rfl, rfl⟩
/- daguerre/effect.Sees -/
def H255 : F2C := fun c k v s K =>
pop v fun x0 v =>
pop v fun x1 v =>
endE v (
c (.mk .d0 .d0 .d6 .d7) [x0, x1] s fun x2 s =>
vExt x2 0 fun x3 =>
vExt x2 1 fun _ =>
boxD false [.str [], .str [], .bool false, .nil .sl, .nil .sl, .nil .sl] s fun x5 s =>
zSt x5 x3 6 s fun _ s =>
ldA x5 (takeN 6) s fun x7 s =>
c (.mk .d0 .d1 .d6 .d0) [x7, (.str [36, 105, 110, 105, 116])] s fun x8 s =>
bLt x8 (ci 0) fun x9 =>
cnd x9 (K (.tup [cf, (.nil .sl), (.nil .sl)]) s)
(c (.mk .d0 .d0 .d3 .d7) [x0, x1, (.str [36, 105, 110, 105, 116])] s fun x10 s =>
zMkm s fun x11 s =>
boxD false [.nil .map] s fun x12 s =>
zSt x12 x11 1 s fun _ s =>
c (.mk .d0 .d0 .d1 .d3) [x10] s fun x14 s =>
vLenS x14 fun x15 =>
jn (fun v s =>
pop v fun x17 _ =>
c (.mk .d0 .d1 .d2 .d7) [x0] s fun x18 s =>
vGen (.mkf 306 [] [(.c x12)]) fun x19 =>
c (.mk .d0 .d2 .d4 .d0) [x18, x19] s fun x20 s =>
c (.mk .d0 .d0 .d4 .d3) [x10] s fun x21 s =>
K (.tup [x17, x20, x21]) s) fun K16 =>
loopE k (fun K22 v s =>
pop v fun x23 v =>
pop v fun x24 _ =>
bLt x23 x15 fun x25 =>
cnd x25 (jn (fun v s =>
pop v fun x27 _ =>
bAdd x23 (ci 1) fun x28 =>
K22 [x28, x27] s) fun K26 =>
vIaS x14 x23 1 fun x29 =>
ldA x29 take1 s fun x30 s =>
c (.mk .d0 .d4 .d6 .d1) [x0, x30] s fun x31 s =>
vFld x31 7 take1 fun x32 =>
vLenS x32 fun x33 =>
jn (fun v s =>
pop v fun x35 _ =>
K26 [x35] s) fun K34 =>
loopE k (fun K36 v s =>
pop v fun x37 v =>
pop v fun x38 _ =>
bLt x37 x33 fun x39 =>
cnd x39 (jn (fun v s =>
pop v fun x41 _ =>
bAdd x37 (ci 1) fun x42 =>
K36 [x42, x41] s) fun K40 =>
vIaS x32 x37 4 fun x43 =>
ldA x43 (takeN 4) s fun x44 s =>
boxD false [.int .i64 0, .int .i64 0, .str [], .str []] s fun x45 s =>
zSt x45 x44 4 s fun _ s =>
fa1 x45 0 fun x47 =>
ldA x47 take1 s fun x48 s =>
jn (fun v s =>
pop v fun x50 _ =>
K40 [x50] s) fun K49 =>
bEqF x48 (ci 59) fun x51 =>
cnd x51 (none)
(bEqF x48 (ci 60) fun x52 =>
jn (fun v s =>
pop v fun x54 _ =>
jn (fun v s =>
pop v fun x56 _ =>
K49 [x56] s) fun K55 =>
cnd x54 (K55 [ct] s)
(bEqF x48 (ci 40) fun x57 =>
cnd x57 (none)
(bEqF x48 (ci 41) fun x58 =>
jn (fun _ s =>
K55 [x38] s) fun K59 =>
cnd x58 (fa1 x45 2 fun x60 =>
ldA x60 take1 s fun x61 s =>
fa1 x45 3 fun x62 =>
ldA x62 take1 s fun x63 s =>
c (.mk .d0 .d3 .d3 .d2) [x0, x61, x63] s fun x64 s =>
vExt x64 0 fun x65 =>
vExt x64 1 fun x66 =>
vExt x64 2 fun _ =>
boxD false [.str [], .str [], .bool false] s fun x68 s =>
zSt x68 x66 3 s fun _ s =>
ldA x12 take1 s fun x70 s =>
zMup .str x70 x65 ct s fun _ s =>
K59 [] s)
(K59 [] s)))) fun K53 =>
cnd x52 (K53 [x52] s)
(bEqF x48 (ci 61) fun x72 =>
K53 [x72] s)))
(K34 [x38] s)) [(ci 0), x24] s)
(K16 [x24] s)) [(ci 0), cf] s))
def F255 : F2 := .fn H255 true
theorem fe255 : feE Tryz.prog ann 255 2 [.j [], .j [10], .j [36, 10], .j [], .j [10], .j [10], .j [45, 10], .j [], .j [10], .j [10], .cl, .j [51], .j [10], .cl, .j []] = some F255 := by kernel_rfl
/- daguerre/daguerrelaw19.Begun -/
def H256 : F2C := fun c _ v s K =>
endE v (
c (.mk .d0 .d0 .d0 .d7) [] s fun x0 s =>
K x0 s)
def F256 : F2 := .pur H256 true mNo
theorem fe256 : feE Tryz.prog ann 256 0 [] = some F256 := by kernel_rfl
/- daguerre/effect.movable$1 -/
def H257 : F2C := fun _ _ v s K =>
pop v fun x0 v =>
pop v fun x1 v =>
endE v (
ldA x1 take1 s fun x2 s =>
bEqT x0 x2 fun x3 =>
K x3 s)
def F257 : F2 := .fn H257 true
theorem fe257 : feE Tryz.prog ann 257 2 [] = some F257 := by kernel_rfl
/- daguerre/effect.movable$2 -/
def H258 : F2C := fun c _ v s K =>
pop v fun x0 v =>
pop v fun x1 v =>
pop v fun x2 v =>
endE v (
ldA x1 take1 s fun x3 s =>
bEqT x0 x3 fun x4 =>
gH x4 true (ldA x2 take1) s fun x5 s =>
gK x4 true x0 fun x6 =>
gH x4 true (c (.mk .d0 .d1 .d1 .d1) [x5, x6]) s fun x7 s =>
gV x4 true (vGen (.un .not (.c x7))) fun x8 =>
vPick x4 x8 cf fun x9 =>
K x9 s)
def F258 : F2 := .fn H258 true
theorem fe258 : feE Tryz.prog ann 258 3 [] = some F258 := by kernel_rfl
/- (*daguerre/state.State).SetRefs -/
def H259 : F2C := fun c k v s K =>
pop v fun x0 v =>
pop v fun x1 v =>
endE v (
c (.mk .d0 .d3 .d7 .d4) [x0] s fun x2 s =>
vLenS x2 fun x3 =>
vLenS x1 fun x4 =>
bEqT x3 x4 fun x5 =>
cnd x5 (none)
(vLenS x1 fun x6 =>
jn (fun _ s =>
K (.tup []) s) fun K7 =>
loopE k (fun _ v s =>
pop v fun x9 _ =>
bLt x9 x6 fun x10 =>
cnd x10 (none)
(K7 [] s)) [(ci 0)] s))
def F259 : F2 := .fn H259 true
theorem fe259 : feE Tryz.prog ann 259 2 [.cl, .j [], .j [16], .cl, .j []] = some F259 := by kernel_rfl
/- (*daguerre/frame.Frame).SetRefs -/
def H260 : F2C := fun c k v s K =>
pop v fun x0 v =>
pop v fun x1 v =>
endE v (
c (.mk .d0 .d3 .d7 .d5) [x0] s fun x2 s =>
vLenS x2 fun x3 =>
vLenS x1 fun x4 =>
bEqT x3 x4 fun x5 =>
cnd x5 (none)
(vLenS x1 fun x6 =>
jn (fun _ s =>
K (.tup []) s) fun K7 =>
loopE k (fun K8 v s =>
pop v fun x9 _ =>
bLt x9 x6 fun x10 =>
cnd x10 (jn (fun _ s =>
bAdd x9 (ci 1) fun x12 =>
K8 [x12] s) fun K11 =>
vIaS x1 x9 1 fun x13 =>
ldA x13 take1 s fun x14 s =>
vIaS x2 x9 1 fun x15 =>
ldA x15 take1 s fun x16 s =>
bAdd x14 (ci 1) fun x17 =>
vCv .i32 x17 fun x18 =>
vChk x16 fun x19 =>
fa1 x19 1 fun x20 =>
zSt x20 x18 1 s fun _ s =>
K11 [] s)
(K7 [] s)) [(ci 0)] s))
def F260 : F2 := .fn H260 true
theorem fe260 : feE Tryz.prog ann 260 2 [.cl, .j [], .j [16], .j [], .j []] = some F260 := by kernel_rfl
/- daguerre/daguerrelaw10.begun -/
def H261 : F2C := fun c _ v s K =>
endE v (
c (.mk .d0 .d0 .d3 .d6) [] s fun x0 s =>
c (.mk .d0 .d0 .d4 .d4) [x0] s fun x1 s =>
vExt x1 0 fun x2 =>
vExt x1 1 fun x3 =>
c (.mk .d0 .d0 .d3 .d6) [] s fun x4 s =>
vIaS x4 (ci 1) 6 fun x5 =>
fa1 x5 5 fun x6 =>
ldA x6 take1 s fun x7 s =>
vIaS x7 (ci 0) 10 fun x8 =>
fa1 x8 7 fun x9 =>
ldA x9 take1 s fun x10 s =>
vBld [.int .i64 0, .int .i64 0, .str [], .str []] (eCons 0 1 (ci 2) eNil) fun x11 =>
vIaS x10 (ci 0) 4 fun x12 =>
zSt x12 x11 4 s fun _ s =>
c (.mk .d0 .d0 .d4 .d4) [x4] s fun x14 s =>
vExt x14 0 fun x15 =>
vExt x14 1 fun x16 =>
bEqT x3 (ci 0) fun x17 =>
gK x17 false x16 fun x18 =>
gV x17 false (bEqT x18 (ci 0)) fun x19 =>
vPick x17 ct x19 fun x20 =>
cnd x20 (none)
(c (.mk .d0 .d4 .d6 .d3) [] s fun x21 s =>
gK x21 true x2 fun x22 =>
gH x21 true (c (.mk .d0 .d0 .d4 .d7) [x22, (.str [65, 97]), (ci 0)]) s fun x23 s =>
vPick x21 x23 cf fun x24 =>
gK x24 true x2 fun x25 =>
gH x24 true (c (.mk .d0 .d0 .d4 .d7) [x25, (.str [66, 98]), (ci 0)]) s fun x26 s =>
vPick x24 x26 cf fun x27 =>
gK x27 true x15 fun x28 =>
gH x27 true (c (.mk .d0 .d0 .d4 .d7) [x28, (.str [65, 97]), (ci 0)]) s fun x29 s =>
gV x27 true (vGen (.un .not (.c x29))) fun x30 =>
vPick x27 x30 cf fun x31 =>
gK x31 true x2 fun x32 =>
gH x31 true (c (.mk .d0 .d0 .d4 .d7) [x32, (.str [70, 97, 99, 101]), (ci 0)]) s fun x33 s =>
gV x31 true (vGen (.un .not (.c x33))) fun x34 =>
vPick x31 x34 cf fun x35 =>
gK x35 true x2 fun x36 =>
gH x35 true (c (.mk .d0 .d0 .d4 .d7) [x36, (.str [65, 97]), (ci 1)]) s fun x37 s =>
gV x35 true (vGen (.un .not (.c x37))) fun x38 =>
vPick x35 x38 cf fun x39 =>
gK x39 true x2 fun x40 =>
gH x39 true (c (.mk .d0 .d0 .d4 .d7) [x40, (.str [90, 122]), (ci 0)]) s fun x41 s =>
gV x39 true (vGen (.un .not (.c x41))) fun x42 =>
vPick x39 x42 cf fun x43 =>
K x43 s))
def F261 : F2 := .pur H261 true mNo
theorem fe261 : feE Tryz.prog ann 261 0 [.cl] = some F261 := by kernel_rfl
def M261 (k : Nat) : F2 := .pur H261 true (Bool.rec mNo (mVal (.bool true)) (Nat.ble 8 k))
/- daguerre/class.all[daguerre/api.Field]$1 -/
def H262 : F2C := fun c _ v s K =>
pop v fun x0 v =>
pop v fun x1 v =>
pop v fun x2 v =>
endE v (
zTbox x0 s fun x3 s =>
lgE (qLdE x1 1) (ldA x1 take1) s fun x4 e5 s =>
lgE (qLdE x2 3) (ldA x2 (takeN 3)) s fun x6 e7 s =>
lgE qNoE (zCallV c x4 [x6]) s fun x8 e9 s =>
lgE (qLdE x1 1) (ldA x1 take1) s fun x10 e11 s =>
lgE (qLdE x3 3) (ldA x3 (takeN 3)) s fun x12 e13 s =>
lgE qNoE (zCallV c x10 [x12]) s fun x14 e15 s =>
lgE qNoE (zV (bEqF x8 x14)) s fun x16 e17 s =>
lgE qNoE (zK x16) s fun x18 e19 s =>
calmE [(0, 1), (0, 3), (1, 3), (2, 3), (0, 4), (1, 4), (2, 4), (3, 4)] [e5, e7, e9, e11, e13, e15, e17, e19] (fun s =>
K x18 s) s)
def F262 : F2 := .fn H262 true
theorem fe262 : feE Tryz.prog ann 262 3 [] = some F262 := by kernel_rfl
/- daguerre/kind.Name -/
def H171 : F2C := fun c _ v s K =>
pop v fun x0 v =>
endE v (
bEqF x0 (.str [36, 105, 110, 105, 116]) fun x1 =>
gK x1 false x0 fun x2 =>
gH x1 false (c (.mk .d0 .d4 .d0 .d7) [x2]) s fun x3 s =>
gK x1 false x3 fun x4 =>
gK x4 true x0 fun x5 =>
gV x4 true (vIxs x5 (ci 0)) fun x6 =>
gH x4 true (c (.mk .d0 .d4 .d1 .d0) [x6]) s fun x7 s =>
gV x1 false (vPick x4 x7 cf) fun x8 =>
vPick x1 ct x8 fun x9 =>
K x9 s)
def F171 : F2 := .fn H171 true
theorem fe171 : feE Tryz.prog ann 171 1 [] = some F171 := by kernel_rfl
/- daguerre/class.method -/
def H176 : F2C := fun c _ v s K =>
pop v fun x0 v =>
endE v (
zTbox x0 s fun x1 s =>
fa1 x1 0 fun x2 =>
ldA x2 take1 s fun x3 s =>
c (.mk .d0 .d2 .d5 .d3) [x3] s fun x4 s =>
vGen (.un .not (.c x4)) fun x5 =>
gV x5 false (fa1 x1 1) fun x6 =>
gH x5 false (ldA x6 take1) s fun x7 s =>
gV x5 false (vLenS x7) fun x8 =>
gV x5 false (bGt x8 (ci 6)) fun x9 =>
vPick x5 ct x9 fun x10 =>
gV x10 false (fa1 x1 1) fun x11 =>
gH x10 false (ldA x11 take1) s fun x12 s =>
gH x10 false (c (.mk .d0 .d4 .d1 .d3) [x12, (.fn 172 [] [])]) s fun x13 s =>
gV x10 false (vGen (.un .not (.c x13))) fun x14 =>
vPick x10 ct x14 fun x15 =>
gV x15 false (fa1 x1 2) fun x16 =>
gH x15 false (ldA x16 take1) s fun x17 s =>
gH x15 false (c (.mk .d0 .d4 .d1 .d4) [x17]) s fun x18 s =>
gV x15 false (vGen (.un .not (.c x18))) fun x19 =>
vPick x15 ct x19 fun x20 =>
cnd x20 (none)
(fa1 x1 4 fun x21 =>
ldA x21 take1 s fun x22 s =>
cnd x22 (ldA x1 (takeN 10) s fun x23 s =>
c (.mk .d0 .d4 .d1 .d5) [x23] s fun x24 s =>
K x24 s)
(fa1 x1 0 fun x25 =>
ldA x25 take1 s fun x26 s =>
bEqF x26 (.str [36, 105, 110, 105, 116]) fun x27 =>
gV x27 true (fa1 x1 3) fun x28 =>
gH x27 true (ldA x28 take1) s fun x29 s =>
gV x27 true (vGen (.un .not (.c x29))) fun x30 =>
gK x27 true x30 fun x31 =>
gV x31 false (fa1 x1 1) fun x32 =>
gH x31 false (ldA x32 take1) s fun x33 s =>
gV x31 false (vLenS x33) fun x34 =>
gV x31 false (bGt x34 (ci 0)) fun x35 =>
gV x27 true (vPick x31 ct x35) fun x36 =>
gK x27 true x36 fun x37 =>
gV x37 false (fa1 x1 2) fun x38 =>
gH x37 false (ldA x38 take1) s fun x39 s =>
gV x37 false (bEqT x39 (.str [86])) fun x40 =>
gV x27 true (vPick x37 ct x40) fun x41 =>
vPick x27 x41 cf fun x42 =>
cnd x42 (none)
(lgE qNoE (zV (fa1 x1 5)) s fun x43 e44 s =>
lgE (qLdE x43 1) (ldA x43 take1) s fun x45 e46 s =>
lgE (qLdE x1 10) (ldA x1 (takeN 10)) s fun x47 e48 s =>
lgE qNoE (c (.mk .d0 .d4 .d1 .d7) [x47]) s fun x49 e50 s =>
lgE qNoE (c (.mk .d0 .d4 .d1 .d6) [x45, x49, (ci 16)]) s fun x51 e52 s =>
lgE qNoE (zK x51) s fun x53 e54 s =>
lgE (qGE x53 true qNoE) (zG x53 true (zV (fa1 x1 6))) s fun x55 e56 s =>
lgE (qGE x53 true (qLdE x55 1)) (zG x53 true (ldA x55 take1)) s fun x57 e58 s =>
lgE (qGE x53 true qNoE) (zG x53 true (c (.mk .d0 .d4 .d1 .d6) [x57, (ci 0), (ci 16)])) s fun x59 e60 s =>
lgE qNoE (zV (vPick x53 x59 cf)) s fun x61 e62 s =>
lgE qNoE (zK x61) s fun x63 e64 s =>
lgE (qGE x63 true (qLdE x1 10)) (zG x63 true (ldA x1 (takeN 10))) s fun x65 e66 s =>
lgE (qGE x63 true qNoE) (zG x63 true (c (.mk .d0 .d4 .d2 .d0) [x65])) s fun x67 e68 s =>
lgE qNoE (zV (vPick x63 x67 cf)) s fun x69 e70 s =>
lgE qNoE (zK x69) s fun x71 e72 s =>
lgE (qGE x71 true (qLdE x1 10)) (zG x71 true (ldA x1 (takeN 10))) s fun x73 e74 s =>
lgE (qGE x71 true qNoE) (zG x71 true (c (.mk .d0 .d4 .d2 .d1) [x73])) s fun x75 e76 s =>
lgE qNoE (zV (vPick x71 x75 cf)) s fun x77 e78 s =>
lgE qNoE (zK x77) s fun x79 e80 s =>
lgE (qGE x79 true (qLdE x1 10)) (zG x79 true (ldA x1 (takeN 10))) s fun x81 e82 s =>
lgE (qGE x79 true qNoE) (zG x79 true (c (.mk .d0 .d4 .d2 .d2) [x81])) s fun x83 e84 s =>
lgE qNoE (zV (vPick x79 x83 cf)) s fun x85 e86 s =>
lgE qNoE (zK x85) s fun x87 e88 s =>
calmE [(1, 2), (1, 3)] [e44, e46, e48, e50, e52, e54, e56, e58, e60, e62, e64, e66, e68, e70, e72, e74, e76, e78, e80, e82, e84, e86, e88] (fun s =>
K x87 s) s))))
def F176 : F2 := .fn H176 true
theorem fe176 : feE Tryz.prog ann 176 1 [.cl, .j [], .cl] = some F176 := by kernel_rfl
/- daguerre/class.all[daguerre/api.Method]$1 -/
def H266 : F2C := fun c _ v s K =>
pop v fun x0 v =>
pop v fun x1 v =>
pop v fun x2 v =>
endE v (
zTbox x0 s fun x3 s =>
lgE (qLdE x1 1) (ldA x1 take1) s fun x4 e5 s =>
lgE (qLdE x2 10) (ldA x2 (takeN 10)) s fun x6 e7 s =>
lgE qNoE (zCallV c x4 [x6]) s fun x8 e9 s =>
lgE (qLdE x1 1) (ldA x1 take1) s fun x10 e11 s =>
lgE (qLdE x3 10) (ldA x3 (takeN 10)) s fun x12 e13 s =>
lgE qNoE (zCallV c x10 [x12]) s fun x14 e15 s =>
lgE qNoE (zV (bEqF x8 x14)) s fun x16 e17 s =>
lgE qNoE (zK x16) s fun x18 e19 s =>
calmE [(0, 1), (0, 3), (1, 3), (2, 3), (0, 4), (1, 4), (2, 4), (3, 4)] [e5, e7, e9, e11, e13, e15, e17, e19] (fun s =>
K x18 s) s)
def F266 : F2 := .fn H266 true
theorem fe266 : feE Tryz.prog ann 266 3 [] = some F266 := by kernel_rfl
/- daguerre/kind.word -/
def H263 : F2C := fun c k v s K =>
pop v fun x0 v =>
endE v (
vLens x0 fun x1 =>
jn (fun _ s =>
bEqT x0 (.str []) fun x3 =>
gK x3 true x0 fun x4 =>
gV x3 true (vLens x4) fun x5 =>
gV x3 true (bLe x5 (ci 8)) fun x6 =>
vPick x3 x6 cf fun x7 =>
K x7 s) fun K2 =>
loopE k (fun K8 v s =>
pop v fun x9 _ =>
bLt x9 x1 fun x10 =>
cnd x10 (jn (fun _ s =>
bAdd x9 (ci 1) fun x12 =>
K8 [x12] s) fun K11 =>
vIxs x0 x9 fun x13 =>
c (.mk .d0 .d4 .d1 .d0) [x13] s fun x14 s =>
vGen (.un .not (.c x14)) fun x15 =>
gK x15 true x0 fun x16 =>
gK x15 true x9 fun x17 =>
gV x15 true (vIxs x16 x17) fun x18 =>
gH x15 true (c (.mk .d0 .d4 .d2 .d3) [x18]) s fun x19 s =>
gV x15 true (vGen (.un .not (.c x19))) fun x20 =>
vPick x15 x20 cf fun x21 =>
gK x21 true x0 fun x22 =>
gK x21 true x9 fun x23 =>
gV x21 true (vIxs x22 x23) fun x24 =>
gH x21 true (c (.mk .d0 .d4 .d6 .d4) [x24]) s fun x25 s =>
gV x21 true (vGen (.un .not (.c x25))) fun x26 =>
vPick x21 x26 cf fun x27 =>
cnd x27 (K cf s)
(K11 [] s))
(K2 [] s)) [(ci 0)] s)
def F263 : F2 := .fn H263 true
theorem fe263 : feE Tryz.prog ann 263 1 [.j [], .j [6], .j [], .j [], .j []] = some F263 := by kernel_rfl
/- daguerre/kind.great -/
def H275 : F2C := fun _ _ v s K =>
pop v fun x0 v =>
endE v (
bGe x0 (cu 65) fun x1 =>
gK x1 true x0 fun x2 =>
gV x1 true (bLe x2 (cu 90)) fun x3 =>
vPick x1 x3 cf fun x4 =>
K x4 s)
def F275 : F2 := .fn H275 true
theorem fe275 : feE Tryz.prog ann 275 1 [] = some F275 := by kernel_rfl
/- slices.IndexFunc[[]daguerre/api.Field,daguerre/api.Field] -/
def H277 : F2C := fun c k v s K =>
pop v fun x0 v =>
pop v fun x1 v =>
endE v (
vLenS x0 fun x2 =>
jn (fun _ s =>
K (.int .i64 (-1)) s) fun K3 =>
loopE k (fun K4 v s =>
pop v fun x5 _ =>
bLt x5 x2 fun x6 =>
cnd x6 (jn (fun _ s =>
bAdd x5 (ci 1) fun x8 =>
K4 [x8] s) fun K7 =>
vIaS x0 x5 3 fun x9 =>
ldA x9 (takeN 3) s fun x10 s =>
zCallV c x1 [x10] s fun x11 s =>
cnd x11 (K x5 s)
(K7 [] s))
(K3 [] s)) [(ci 0)] s)
def F277 : F2 := .fn H277 true
theorem fe277 : feE Tryz.prog ann 277 2 [.j [], .j [8], .j [], .j [], .j []] = some F277 := by kernel_rfl
/- daguerre/closed.whole$3$1 -/
def H188 : F2C := fun c _ v s K =>
pop v fun x0 v =>
pop v fun x1 v =>
endE v (
zTbox x0 s fun x2 s =>
ldA x1 take1 s fun x3 s =>
fa1 x2 3 fun x4 =>
ldA x4 take1 s fun x5 s =>
zCallV c x3 [x5] s fun x6 s =>
K x6 s)
def F188 : F2 := .fn H188 true
theorem fe188 : feE Tryz.prog ann 188 2 [] = some F188 := by kernel_rfl
/- slices.ContainsFunc[[]daguerre/api.Trap,daguerre/api.Trap] -/
def H187 : F2C := fun c _ v s K =>
pop v fun x0 v =>
pop v fun x1 v =>
endE v (
c (.mk .d0 .d4 .d2 .d6) [x0, x1] s fun x2 s =>
bGe x2 (ci 0) fun x3 =>
K x3 s)
def F187 : F2 := .fn H187 true
theorem fe187 : feE Tryz.prog ann 187 2 [] = some F187 := by kernel_rfl
/- daguerre/closed.whole$3$2 -/
def H190 : F2C := fun c _ v s K =>
pop v fun x0 v =>
pop v fun x1 v =>
pop v fun x2 v =>
endE v (
zTbox x0 s fun x3 s =>
ldA x1 take1 s fun x4 s =>
fa1 x3 2 fun x5 =>
ldA x5 take1 s fun x6 s =>
zCallV c x4 [x6] s fun x7 s =>
gH x7 false (ldA x2 take1) s fun x8 s =>
gH x7 false (ldA x3 (takeN 4)) s fun x9 s =>
gH x7 false (c (.mk .d0 .d2 .d7 .d7) [x8, x9]) s fun x10 s =>
gV x7 false (vGen (.un .not (.c x10))) fun x11 =>
vPick x7 ct x11 fun x12 =>
K x12 s)
def F190 : F2 := .fn H190 true
theorem fe190 : feE Tryz.prog ann 190 3 [] = some F190 := by kernel_rfl
/- slices.ContainsFunc[[]daguerre/api.Ins,daguerre/api.Ins] -/
def H189 : F2C := fun c _ v s K =>
pop v fun x0 v =>
pop v fun x1 v =>
endE v (
c (.mk .d0 .d4 .d2 .d7) [x0, x1] s fun x2 s =>
bGe x2 (ci 0) fun x3 =>
K x3 s)
def F189 : F2 := .fn H189 true
theorem fe189 : feE Tryz.prog ann 189 2 [] = some F189 := by kernel_rfl
/- daguerre/link.Alike -/
def H193 : F2C := fun c _ v s K =>
pop v fun x0 v =>
pop v fun x1 v =>
endE v (
zTbox x0 s fun x2 s =>
zTbox x1 s fun x3 s =>
fa1 x2 1 fun x4 =>
ldA x4 take1 s fun x5 s =>
fa1 x3 1 fun x6 =>
ldA x6 take1 s fun x7 s =>
c (.mk .d0 .d4 .d3 .d0) [x5, x7] s fun x8 s =>
gV x8 true (fa1 x2 2) fun x9 =>
gH x8 true (ldA x9 take1) s fun x10 s =>
gV x8 true (fa1 x3 2) fun x11 =>
gH x8 true (ldA x11 take1) s fun x12 s =>
gV x8 true (bEqF x10 x12) fun x13 =>
vPick x8 x13 cf fun x14 =>
K x14 s)
def F193 : F2 := .fn H193 true
theorem fe193 : feE Tryz.prog ann 193 2 [] = some F193 := by kernel_rfl
/- slices.Sort[[]string,string] -/
def H281 : F2C := fun c _ v s K =>
pop v fun x0 v =>
endE v (
vLenS x0 fun x1 =>
vCv .u64 x1 fun x2 =>
c (.mk .d0 .d4 .d7 .d4) [x2] s fun x3 s =>
c (.mk .d0 .d4 .d7 .d3) [x0, (ci 0), x1, x3] s fun _ s =>
K (.tup []) s)
def F281 : F2 := .fn H281 true
theorem fe281 : feE Tryz.prog ann 281 1 [] = some F281 := by kernel_rfl
/- daguerre/closed.has -/
def H197 : F2C := fun c _ v s K =>
pop v fun x0 v =>
pop v fun x1 v =>
pop v fun x2 v =>
endE v (
zBox false x2 s fun x3 s =>
fa1 x3 0 fun x4 =>
ldA x4 take1 s fun x5 s =>
c (.mk .d0 .d4 .d3 .d2) [x0, x1, x5] s fun x6 s =>
vExt x6 0 fun x7 =>
vExt x6 1 fun x8 =>
vGen (.un .not (.c x8)) fun x9 =>
cnd x9 (K cf s)
(c (.mk .d0 .d0 .d6 .d7) [x0, x7] s fun x10 s =>
vExt x10 0 fun x11 =>
vExt x10 1 fun _ =>
boxD false [.str [], .str [], .bool false, .nil .sl, .nil .sl, .nil .sl] s fun x13 s =>
zSt x13 x11 6 s fun _ s =>
fa1 x13 5 fun x15 =>
ldA x15 take1 s fun x16 s =>
vGen (.mkf 283 [] [(.c x3)]) fun x17 =>
c (.mk .d0 .d2 .d7 .d1) [x16, x17] s fun x18 s =>
K x18 s))
def F197 : F2 := .fn H197 true
theorem fe197 : feE Tryz.prog ann 197 3 [.j []] = some F197 := by kernel_rfl
/- (*daguerre/verify.checker).find$1 -/
def H285 : F2C := fun _ _ v s K =>
pop v fun x0 v =>
pop v fun x1 v =>
endE v (
zTbox x0 s fun x2 s =>
fa1 x2 0 fun x3 =>
ldA x3 take1 s fun x4 s =>
ldA x1 take1 s fun x5 s =>
bEqF x4 x5 fun x6 =>
K x6 s)
def F285 : F2 := .fn H285 true
theorem fe285 : feE Tryz.prog ann 285 2 [] = some F285 := by kernel_rfl
/- slices.IndexFunc[[]daguerre/api.Map,daguerre/api.Map] -/
def H284 : F2C := fun c k v s K =>
pop v fun x0 v =>
pop v fun x1 v =>
endE v (
vLenS x0 fun x2 =>
jn (fun _ s =>
K (.int .i64 (-1)) s) fun K3 =>
loopE k (fun K4 v s =>
pop v fun x5 _ =>
bLt x5 x2 fun x6 =>
cnd x6 (jn (fun _ s =>
bAdd x5 (ci 1) fun x8 =>
K4 [x8] s) fun K7 =>
vIaS x0 x5 3 fun x9 =>
ldA x9 (takeN 3) s fun x10 s =>
zCallV c x1 [x10] s fun x11 s =>
cnd x11 (K x5 s)
(K7 [] s))
(K3 [] s)) [(ci 0)] s)
def F284 : F2 := .fn H284 true
theorem fe284 : feE Tryz.prog ann 284 2 [.j [], .j [8], .j [], .j [], .j []] = some F284 := by kernel_rfl
/- (*daguerre/verify.checker).pop -/
def H286 : F2C := fun _ _ v s K =>
pop v fun x0 v =>
endE v (
vChk x0 fun x1 =>
fa1 x1 13 fun x2 =>
ldA x2 take1 s fun x3 s =>
vLenS x3 fun x4 =>
bEqF x4 (ci 0) fun x5 =>
cnd x5 (none)
(lgE qNoE (zK x0) s fun x6 e7 s =>
lgE qNoE (zV (vChk x6)) s fun x8 e9 s =>
lgE qNoE (zV (fa1 x8 13)) s fun x10 e11 s =>
lgE (qLdE x10 1) (ldA x10 take1) s fun x12 e13 s =>
lgE qNoE (zK x0) s fun x14 e15 s =>
lgE qNoE (zV (vChk x14)) s fun x16 e17 s =>
lgE qNoE (zV (fa1 x16 13)) s fun x18 e19 s =>
lgE (qLdE x18 1) (ldA x18 take1) s fun x20 e21 s =>
lgE qNoE (zV (vLenS x20)) s fun x22 e23 s =>
lgE qNoE (zV (bSub x22 (ci 1))) s fun x24 e25 s =>
lgE qNoE (zV (vIaS x12 x24 1)) s fun x26 e27 s =>
lgE (qLdE x26 1) (ldA x26 take1) s fun x28 e29 s =>
lgE qNoE (zK x28) s fun x30 e31 s =>
calmE [(3, 7), (3, 8)] [e7, e9, e11, e13, e15, e17, e19, e21, e23, e25, e27, e29, e31] (fun s =>
lgE qNoE (zK x0) s fun x32 e33 s =>
lgE qNoE (zK x0) s fun x34 e35 s =>
lgE qNoE (zV (vChk x34)) s fun x36 e37 s =>
lgE qNoE (zV (fa1 x36 13)) s fun x38 e39 s =>
lgE (qLdE x38 1) (ldA x38 take1) s fun x40 e41 s =>
lgE qNoE (zK x0) s fun x42 e43 s =>
lgE qNoE (zV (vChk x42)) s fun x44 e45 s =>
lgE qNoE (zV (fa1 x44 13)) s fun x46 e47 s =>
lgE (qLdE x46 1) (ldA x46 take1) s fun x48 e49 s =>
lgE qNoE (zV (vLenS x48)) s fun x50 e51 s =>
lgE qNoE (zV (bSub x50 (ci 1))) s fun x52 e53 s =>
lgE qNoE (zV (vSlt x40 eN (eX x52) 1)) s fun x54 e55 s =>
lgE qNoE (zV (vChk x32)) s fun x56 e57 s =>
lgE qNoE (zV (fa1 x56 13)) s fun x58 e59 s =>
lgE qNoE (zSt x58 x54 1) s fun _ e61 s =>
calmE [(4, 8), (4, 9)] [e33, e35, e37, e39, e41, e43, e45, e47, e49, e51, e53, e55, e57, e59, e61] (fun s =>
K x30 s) s) s))
def F286 : F2 := .fn H286 true
theorem fe286 : feE Tryz.prog ann 286 1 [.cl] = some F286 := by kernel_rfl
/- daguerre/types.Fits -/
def H287 : F2C := fun c _ v s K =>
pop v fun x0 v =>
pop v fun x1 v =>
pop v fun x2 v =>
endE v (
jn (fun _ s =>
c (.mk .d0 .d0 .d6 .d7) [x0, x2] s fun x4 s =>
vExt x4 0 fun x5 =>
vExt x4 1 fun _ =>
boxD false [.str [], .str [], .bool false, .nil .sl, .nil .sl, .nil .sl] s fun x7 s =>
zSt x7 x5 6 s fun _ s =>
fa1 x7 2 fun x9 =>
ldA x9 take1 s fun x10 s =>
gK x10 false x0 fun x11 =>
gK x10 false x1 fun x12 =>
gK x10 false x2 fun x13 =>
gH x10 false (c (.mk .d0 .d1 .d4 .d2) [x11, x12, x13]) s fun x14 s =>
vPick x10 ct x14 fun x15 =>
K x15 s) fun K3 =>
c (.mk .d0 .d1 .d3 .d7) [x0, x1] s fun x16 s =>
vGen (.un .not (.c x16)) fun x17 =>
gK x17 false x0 fun x18 =>
gK x17 false x2 fun x19 =>
gH x17 false (c (.mk .d0 .d1 .d3 .d7) [x18, x19]) s fun x20 s =>
gV x17 false (vGen (.un .not (.c x20))) fun x21 =>
vPick x17 ct x21 fun x22 =>
cnd x22 (none)
(bEqF x2 (.str [84]) fun x23 =>
gK x23 false x1 fun x24 =>
gK x23 false x2 fun x25 =>
gV x23 false (bEqF x24 x25) fun x26 =>
vPick x23 ct x26 fun x27 =>
cnd x27 (K ct s)
(bEqF x1 (.str [78]) fun x28 =>
cnd x28 (c (.mk .d0 .d4 .d7 .d6) [x0, x2] s fun x29 s =>
K x29 s)
(c (.mk .d0 .d4 .d7 .d6) [x0, x1] s fun x30 s =>
vGen (.un .not (.c x30)) fun x31 =>
gK x31 false x0 fun x32 =>
gK x31 false x2 fun x33 =>
gH x31 false (c (.mk .d0 .d4 .d7 .d6) [x32, x33]) s fun x34 s =>
gV x31 false (vGen (.un .not (.c x34))) fun x35 =>
vPick x31 ct x35 fun x36 =>
cnd x36 (K cf s)
(K3 [] s)))))
def F287 : F2 := .fn H287 true
theorem fe287 : feE Tryz.prog ann 287 3 [.j [], .cl, .j [], .j [], .j []] = some F287 := by kernel_rfl
/- daguerre/types.All -/
def H289 : F2C := fun c k v s K =>
pop v fun x0 v =>
pop v fun x1 v =>
pop v fun x2 v =>
endE v (
vLenS x1 fun x3 =>
vLenS x2 fun x4 =>
bEqT x3 x4 fun x5 =>
cnd x5 (K cf s)
(vLenS x1 fun x6 =>
jn (fun _ s =>
K ct s) fun K7 =>
loopE k (fun K8 v s =>
pop v fun x9 _ =>
bLt x9 x6 fun x10 =>
cnd x10 (jn (fun _ s =>
bAdd x9 (ci 1) fun x12 =>
K8 [x12] s) fun K11 =>
lgE qNoE (zK x0) s fun x13 e14 s =>
lgE qNoE (zK x1) s fun x15 e16 s =>
lgE qNoE (zK x9) s fun x17 e18 s =>
lgE qNoE (zV (vIaS x15 x17 1)) s fun x19 e20 s =>
lgE (qLdE x19 1) (ldA x19 take1) s fun x21 e22 s =>
lgE qNoE (zK x2) s fun x23 e24 s =>
lgE qNoE (zK x9) s fun x25 e26 s =>
lgE qNoE (zV (vIaS x23 x25 1)) s fun x27 e28 s =>
lgE (qLdE x27 1) (ldA x27 take1) s fun x29 e30 s =>
lgE qNoE (c (.mk .d0 .d4 .d3 .d7) [x13, x21, x29]) s fun x31 e32 s =>
lgE qNoE (zV (vGen (.un .not (.c x31)))) s fun x33 e34 s =>
calmE [(4, 8)] [e14, e16, e18, e20, e22, e24, e26, e28, e30, e32, e34] (fun s =>
cnd x33 (none)
(K11 [] s)) s)
(K7 [] s)) [(ci 0)] s))
def F289 : F2 := .fn H289 true
theorem fe289 : feE Tryz.prog ann 289 3 [.j [], .j [], .j [15], .j [], .j [], .cl] = some F289 := by kernel_rfl
/- daguerre/link.Chosen -/
def H282 : F2C := fun c _ v s K =>
pop v fun x0 v =>
pop v fun x1 v =>
pop v fun x2 v =>
endE v (
c (.mk .d0 .d1 .d3 .d4) [x0, x1] s fun x3 s =>
c (.mk .d0 .d1 .d3 .d3) [x0, x3, x2, (.fn 317 [] [])] s fun x4 s =>
vExt x4 0 fun x5 =>
vExt x4 1 fun x6 =>
vExt x4 2 fun x7 =>
boxD false [.str [], .nil .sl, .str [], .bool false, .bool false, .int .i64 0, .int .i64 0, .nil .sl, .nil .sl, .nil .sl] s fun x8 s =>
zSt x8 x6 10 s fun _ s =>
K (.tup [x5, x7]) s)
def F282 : F2 := .fn H282 true
theorem fe282 : feE Tryz.prog ann 282 3 [] = some F282 := by kernel_rfl
/- (*daguerre/pile.row).Push -/
def H445 : F2C := fun _ _ v s K =>
pop v fun x0 v =>
pop v fun x1 v =>
endE v (
lgE qNoE (zK x0) s fun x2 e3 s =>
lgE qNoE (zK x0) s fun x4 e5 s =>
lgE qNoE (zV (vChk x4)) s fun x6 e7 s =>
lgE (qLdE x6 1) (ldA x6 take1) s fun x8 e9 s =>
lgE qNoE (zK x1) s fun x10 e11 s =>
lgE qNoE (zV (vTas 218 false x10)) s fun x12 e13 s =>
lgE qNoE (zBsl [.int .i64 0, .int .i64 0] 2 1 (eCons 0 2 x12 eNil)) s fun x14 e15 s =>
lgE qNoE (appB 2 16 x8 x14) s fun x16 e17 s =>
lgE qNoE (zV (vChk x2)) s fun x18 e19 s =>
lgE qNoE (zSt x18 x16 1) s fun _ e21 s =>
calmE [(3, 5), (3, 6)] [e3, e5, e7, e9, e11, e13, e15, e17, e19, e21] (fun s =>
K (.tup []) s) s)
def F445 : F2 := .fn H445 true
theorem fe445 : feE Tryz.prog ann 445 2 [] = some F445 := by kernel_rfl
/- 438 (*internal/abi.Type).Len: no body -/
/- (daguerre/pile.row).Len -/
def H441 : F2C := fun _ _ v s K =>
pop v fun x0 v =>
endE v (
vLenS x0 fun x1 =>
K x1 s)
def F441 : F2 := .fn H441 true
theorem fe441 : feE Tryz.prog ann 441 1 [] = some F441 := by kernel_rfl
/- container/heap.up -/
def H290 : F2C := fun c k v s K =>
pop v fun x0 v =>
pop v fun x1 v =>
endE v (
jn (fun _ s =>
K (.tup []) s) fun K2 =>
loopE k (fun K3 v s =>
pop v fun x4 _ =>
jn (fun v s =>
pop v fun x6 _ =>
K3 [x6] s) fun K5 =>
bSub x4 (ci 1) fun x7 =>
bQuo x7 (ci 2) fun x8 =>
bEqF x8 x4 fun x9 =>
gK x9 false x0 fun x10 =>
gK x9 false x4 fun x11 =>
gK x9 false x8 fun x12 =>
gH x9 false (zInv [(216, 442, some none)] x10 [x11, x12] c) s fun x13 s =>
gV x9 false (vGen (.un .not (.c x13))) fun x14 =>
vPick x9 ct x14 fun x15 =>
cnd x15 (K2 [] s)
(zInv [(216, 443, some none)] x0 [x8, x4] c s fun _ s =>
K5 [x8] s)) [x1] s)
def F290 : F2 := .fn H290 true
theorem fe290 : feE Tryz.prog ann 290 2 [.j [], .j [1], .j [1], .j []] = some F290 := by kernel_rfl
/- (daguerre/pile.row).Swap -/
def H443 : F2C := fun _ _ v s K =>
pop v fun x0 v =>
pop v fun x1 v =>
pop v fun x2 v =>
endE v (
lgE qNoE (zK x0) s fun x3 e4 s =>
lgE qNoE (zK x1) s fun x5 e6 s =>
lgE qNoE (zK x0) s fun x7 e8 s =>
lgE qNoE (zK x2) s fun x9 e10 s =>
lgE qNoE (zK x0) s fun x11 e12 s =>
lgE qNoE (zK x2) s fun x13 e14 s =>
lgE qNoE (zV (vIaS x11 x13 2)) s fun x15 e16 s =>
lgE (qLdE x15 2) (ldA x15 (takeN 2)) s fun x17 e18 s =>
lgE qNoE (zK x0) s fun x19 e20 s =>
lgE qNoE (zK x1) s fun x21 e22 s =>
lgE qNoE (zV (vIaS x19 x21 2)) s fun x23 e24 s =>
lgE (qLdE x23 2) (ldA x23 (takeN 2)) s fun x25 e26 s =>
lgE qNoE (zV (vIaS x3 x5 2)) s fun x27 e28 s =>
lgE qNoE (zSt x27 x17 2) s fun _ e30 s =>
lgE qNoE (zV (vIaS x7 x9 2)) s fun x31 e32 s =>
lgE qNoE (zSt x31 x25 2) s fun _ e34 s =>
calmE [(7, 11)] [e4, e6, e8, e10, e12, e14, e16, e18, e20, e22, e24, e26, e28, e30, e32, e34] (fun s =>
K (.tup []) s) s)
def F443 : F2 := .fn H443 true
theorem fe443 : feE Tryz.prog ann 443 3 [] = some F443 := by kernel_rfl
/- container/heap.down -/
def H291 : F2C := fun c k v s K =>
pop v fun x0 v =>
pop v fun x1 v =>
pop v fun x2 v =>
endE v (
jn (fun v s =>
pop v fun x4 _ =>
bGt x4 x1 fun x5 =>
K x5 s) fun K3 =>
loopE k (fun K6 v s =>
pop v fun x7 _ =>
jn (fun v s =>
pop v fun x9 _ =>
K6 [x9] s) fun K8 =>
bMul (ci 2) x7 fun x10 =>
bAdd x10 (ci 1) fun x11 =>
bGe x11 x2 fun x12 =>
gK x12 false x11 fun x13 =>
gV x12 false (bLt x13 (ci 0)) fun x14 =>
vPick x12 ct x14 fun x15 =>
cnd x15 (K3 [x7] s)
(bAdd x11 (ci 1) fun x16 =>
bLt x16 x2 fun x17 =>
gK x17 true x0 fun x18 =>
gK x17 true x16 fun x19 =>
gK x17 true x11 fun x20 =>
gH x17 true (zInv [(216, 442, some none)] x18 [x19, x20] c) s fun x21 s =>
vPick x17 x21 cf fun x22 =>
cnd x22 (none)
(zInv [(216, 442, some none)] x0 [x11, x7] c s fun x23 s =>
vGen (.un .not (.c x23)) fun x24 =>
cnd x24 (K3 [x7] s)
(zInv [(216, 443, some none)] x0 [x7, x11] c s fun _ s =>
K8 [x11] s)))) [x1] s)
def F291 : F2 := .fn H291 true
theorem fe291 : feE Tryz.prog ann 291 3 [.j [7], .j [7], .j [7], .j [], .cl, .j []] = some F291 := by kernel_rfl
/- (*daguerre/frame.Frame).Pop -/
def H300 : F2C := fun c _ v s K =>
pop v fun x0 v =>
pop v fun x1 v =>
endE v (
vNil false .ptr x0 fun x2 =>
gK x2 false x1 fun x3 =>
gV x2 false (bLt x3 (ci 0)) fun x4 =>
vPick x2 ct x4 fun x5 =>
gK x5 false x1 fun x6 =>
gK x5 false x0 fun x7 =>
gV x5 false (vChk x7) fun x8 =>
gV x5 false (fa1 x8 4) fun x9 =>
gH x5 false (ldA x9 take1) s fun x10 s =>
gV x5 false (vLenS x10) fun x11 =>
gV x5 false (bGt x6 x11) fun x12 =>
vPick x5 ct x12 fun x13 =>
cnd x13 (none)
(vChk x0 fun x14 =>
fa1 x14 4 fun x15 =>
ldA x15 take1 s fun x16 s =>
vLenS x16 fun x17 =>
bSub x17 x1 fun x18 =>
vChk x0 fun x19 =>
fa1 x19 4 fun x20 =>
ldA x20 take1 s fun x21 s =>
vSlt x21 (eX x18) eN 2 fun x22 =>
c (.mk .d0 .d2 .d3 .d5) [x22] s fun x23 s =>
vChk x0 fun x24 =>
fa1 x24 4 fun x25 =>
ldA x25 take1 s fun x26 s =>
vSlt x26 eN (eX x18) 2 fun x27 =>
vChk x0 fun x28 =>
fa1 x28 4 fun x29 =>
zSt x29 x27 1 s fun _ s =>
K (.tup [x23, ct]) s))
def F300 : F2 := .fn H300 true
theorem fe300 : feE Tryz.prog ann 300 2 [.cl] = some F300 := by kernel_rfl
/- (*daguerre/pile.row).Pop -/
def H444 : F2C := fun _ _ v s K =>
pop v fun x0 v =>
endE v (
vChk x0 fun x1 =>
ldA x1 take1 s fun x2 s =>
vLenS x2 fun x3 =>
bSub x3 (ci 1) fun x4 =>
vIaS x2 x4 2 fun x5 =>
ldA x5 (takeN 2) s fun x6 s =>
boxD false [.int .i64 0, .int .i64 0] s fun x7 s =>
zSt x7 x6 2 s fun _ s =>
vLenS x2 fun x9 =>
bSub x9 (ci 1) fun x10 =>
vSlt x2 eN (eX x10) 2 fun x11 =>
vChk x0 fun x12 =>
zSt x12 x11 1 s fun _ s =>
ldA x7 (takeN 2) s fun x14 s =>
K (.ifc 218 x14) s)
def F444 : F2 := .fn H444 true
theorem fe444 : feE Tryz.prog ann 444 1 [] = some F444 := by kernel_rfl
/- daguerre/class.Field -/
def H292 : F2C := fun c _ v s K =>
pop v fun x0 v =>
pop v fun x1 v =>
endE v (
zTbox x0 s fun x2 s =>
zBox false x1 s fun x3 s =>
fa1 x2 4 fun x4 =>
ldA x4 take1 s fun x5 s =>
vGen (.mkf 319 [] [(.c x3)]) fun x6 =>
c (.mk .d0 .d4 .d2 .d5) [x5, x6] s fun x7 s =>
K x7 s)
def F292 : F2 := .fn H292 true
theorem fe292 : feE Tryz.prog ann 292 2 [] = some F292 := by kernel_rfl
/- slices.Contains[[]daguerre/reach.site,daguerre/reach.site] -/
def H293 : F2C := fun c _ v s K =>
pop v fun x0 v =>
pop v fun x1 v =>
endE v (
zTbox x1 s fun x2 s =>
ldA x2 (takeN 2) s fun x3 s =>
c (.mk .d0 .d1 .d5 .d5) [x0, x3] s fun x4 s =>
bGe x4 (ci 0) fun x5 =>
K x5 s)
def F293 : F2 := .fn H293 true
theorem fe293 : feE Tryz.prog ann 293 2 [] = some F293 := by kernel_rfl
/- daguerre/ints.divided -/
def H295 : F2C := fun c _ v s K =>
pop v fun x0 v =>
pop v fun x1 v =>
pop v fun x2 v =>
endE v (
jn (fun _ s =>
c .rem [x1, x2, (ci 29)] s fun x4 s =>
K (.tup [x4, ct]) s) fun _ =>
bEqF x2 (cj 0) fun x5 =>
cnd x5 (K (.tup [(cj 0), cf]) s)
(bEqF x0 (ci 11) fun x6 =>
gK x6 true x2 fun x7 =>
gV x6 true (bEqF x7 (.int .i32 (-1))) fun x8 =>
vPick x6 x8 cf fun x9 =>
cnd x9 (vGen (.un .neg (.c x1)) fun x10 =>
K (.tup [x10, ct]) s)
(none)))
def F295 : F2 := .fn H295 true
theorem fe295 : feE Tryz.prog ann 295 3 [.j [], .j [], .cr] = some F295 := by kernel_rfl
/- daguerre/daguerrelaw13.begun -/
def H296 : F2C := fun c _ v s K =>
endE v (
c (.mk .d0 .d0 .d6 .d2) [(ci 10)] s fun x0 s =>
c (.mk .d0 .d3 .d4 .d0) [x0, (ci 3), (ci 2)] s fun x1 s =>
vExt x1 0 fun x2 =>
vExt x1 1 fun x3 =>
c (.mk .d0 .d3 .d4 .d0) [x0, (ci 1), (ci 3)] s fun x4 s =>
vExt x4 0 fun x5 =>
vExt x4 1 fun x6 =>
c (.mk .d0 .d3 .d4 .d0) [x0, (ci 0), (ci 0)] s fun x7 s =>
vExt x7 0 fun _ =>
vExt x7 1 fun x9 =>
c (.mk .d0 .d3 .d4 .d1) [x0, x5, (ci 2), (cj 7)] s fun x10 s =>
c (.mk .d0 .d1 .d0 .d2) [x0] s fun x11 s =>
c (.mk .d0 .d1 .d0 .d1) [x11, (ci 20)] s fun x12 s =>
vExt x12 0 fun x13 =>
vExt x12 1 fun x14 =>
gK x3 true x2 fun x15 =>
gV x3 true (bEqF x15 (ci 0)) fun x16 =>
vPick x3 x16 cf fun x17 =>
gK x17 true x6 fun x18 =>
vPick x17 x18 cf fun x19 =>
gK x19 true x5 fun x20 =>
gV x19 true (bEqF x20 (ci 4)) fun x21 =>
vPick x19 x21 cf fun x22 =>
gK x22 true x9 fun x23 =>
gV x22 true (vGen (.un .not (.c x23))) fun x24 =>
vPick x22 x24 cf fun x25 =>
gK x25 true x10 fun x26 =>
vPick x25 x26 cf fun x27 =>
gK x27 true x0 fun x28 =>
gK x27 true x2 fun x29 =>
gH x27 true (c (.mk .d0 .d3 .d4 .d4) [x28, x29]) s fun x30 s =>
gV x27 true (bEqF x30 (ci 3)) fun x31 =>
vPick x27 x31 cf fun x32 =>
gK x32 true x0 fun x33 =>
gK x32 true x5 fun x34 =>
gH x32 true (c (.mk .d0 .d3 .d6 .d6) [x33, x34]) s fun x35 s =>
gV x32 true (bEqF x35 (ci 3)) fun x36 =>
vPick x32 x36 cf fun x37 =>
gK x37 true x0 fun x38 =>
gK x37 true x5 fun x39 =>
gH x37 true (c (.mk .d0 .d3 .d4 .d5) [x38, x39, (ci 2)]) s fun x40 s =>
gV x37 true (bEqF x40 (cj 7)) fun x41 =>
vPick x37 x41 cf fun x42 =>
gK x42 true x0 fun x43 =>
gH x42 true (c (.mk .d0 .d4 .d5 .d1) [x43, (ci 1)]) s fun x44 s =>
gV x42 true (vGen (.un .not (.c x44))) fun x45 =>
vPick x42 x45 cf fun x46 =>
gK x46 true x0 fun x47 =>
gH x46 true (c (.mk .d0 .d2 .d2 .d5) [x47]) s fun x48 s =>
gV x46 true (bEqF x48 (ci 9)) fun x49 =>
vPick x46 x49 cf fun x50 =>
gK x50 true x0 fun x51 =>
gH x50 true (c (.mk .d0 .d1 .d0 .d3) [x51]) s fun x52 s =>
gV x50 true (bEqF x52 (ci 10)) fun x53 =>
vPick x50 x53 cf fun x54 =>
gK x54 true x11 fun x55 =>
gV x54 true (vLenS x55) fun x56 =>
gV x54 true (bEqF x56 (ci 9)) fun x57 =>
vPick x54 x57 cf fun x58 =>
gK x58 true x14 fun x59 =>
vPick x58 x59 cf fun x60 =>
gK x60 true x13 fun x61 =>
gH x60 true (c (.mk .d0 .d3 .d4 .d5) [x61, (ci 4), (ci 2)]) s fun x62 s =>
gV x60 true (bEqF x62 (cj 7)) fun x63 =>
vPick x60 x63 cf fun x64 =>
gK x64 true x13 fun x65 =>
gH x64 true (c (.mk .d0 .d1 .d0 .d3) [x65]) s fun x66 s =>
gV x64 true (bEqF x66 (ci 20)) fun x67 =>
vPick x64 x67 cf fun x68 =>
K x68 s)
def F296 : F2 := .pur H296 true mNo
theorem fe296 : feE Tryz.prog ann 296 0 [] = some F296 := by kernel_rfl
def M296 (k : Nat) : F2 := .pur H296 true (Bool.rec mNo (mVal (.bool true)) (Nat.ble 11 k))
/- (*daguerre/heap.Heap).Has -/
def H297 : F2C := fun _ _ v s K =>
pop v fun x0 v =>
pop v fun x1 v =>
endE v (
vNil true .ptr x0 fun x2 =>
gK x2 true x1 fun x3 =>
gV x2 true (bGe x3 (ci 0)) fun x4 =>
vPick x2 x4 cf fun x5 =>
gK x5 true x1 fun x6 =>
gK x5 true x0 fun x7 =>
gV x5 true (vChk x7) fun x8 =>
gV x5 true (fa1 x8 1) fun x9 =>
gH x5 true (ldA x9 take1) s fun x10 s =>
gV x5 true (vLenS x10) fun x11 =>
gV x5 true (bLt x6 x11) fun x12 =>
vPick x5 x12 cf fun x13 =>
gK x13 true x0 fun x14 =>
gV x13 true (vChk x14) fun x15 =>
gV x13 true (fa1 x15 2) fun x16 =>
gH x13 true (ldA x16 take1) s fun x17 s =>
gK x13 true x1 fun x18 =>
gV x13 true (vIaS x17 x18 1) fun x19 =>
gH x13 true (ldA x19 take1) s fun x20 s =>
vPick x13 x20 cf fun x21 =>
K x21 s)
def F297 : F2 := .fn H297 true
theorem fe297 : feE Tryz.prog ann 297 2 [] = some F297 := by kernel_rfl
/- daguerre/daguerrelaw8.begun -/
def H298 : F2C := fun c _ v s K =>
endE v (
c (.mk .d0 .d0 .d3 .d6) [] s fun x0 s =>
c (.mk .d0 .d0 .d4 .d4) [x0] s fun x1 s =>
vExt x1 0 fun x2 =>
vExt x1 1 fun x3 =>
bEqT x3 (ci 0) fun x4 =>
cnd x4 (none)
(c (.mk .d0 .d3 .d3 .d2) [x2, (.str [66, 98]), (.str [120])] s fun x5 s =>
vExt x5 0 fun x6 =>
vExt x5 1 fun x7 =>
vExt x5 2 fun x8 =>
boxD false [.str [], .str [], .bool false] s fun x9 s =>
zSt x9 x7 3 s fun _ s =>
c (.mk .d0 .d0 .d4 .d6) [x2, (.str [66, 98]), (.str [102])] s fun x11 s =>
vExt x11 0 fun x12 =>
vExt x11 1 fun x13 =>
vExt x11 2 fun x14 =>
boxD false [.str [], .nil .sl, .str [], .bool false, .bool false, .int .i64 0, .int .i64 0, .nil .sl, .nil .sl, .nil .sl] s fun x15 s =>
zSt x15 x13 10 s fun _ s =>
c (.mk .d0 .d3 .d3 .d4) [x2, (.str [70, 97, 99, 101]), (.str [102])] s fun x17 s =>
vExt x17 0 fun x18 =>
vExt x17 1 fun x19 =>
vExt x17 2 fun x20 =>
boxD false [.str [], .nil .sl, .str [], .bool false, .bool false, .int .i64 0, .int .i64 0, .nil .sl, .nil .sl, .nil .sl] s fun x21 s =>
zSt x21 x19 10 s fun _ s =>
c (.mk .d0 .d4 .d3 .d2) [x2, (.str [66, 98]), (.str [102])] s fun x23 s =>
vExt x23 0 fun x24 =>
vExt x23 1 fun x25 =>
c (.mk .d0 .d4 .d3 .d2) [x2, (.str [70, 97, 99, 101]), (.str [102])] s fun x26 s =>
vExt x26 0 fun _ =>
vExt x26 1 fun x28 =>
c (.mk .d0 .d5 .d0 .d0) [] s fun x29 s =>
gK x29 true x8 fun x30 =>
vPick x29 x30 cf fun x31 =>
gK x31 true x6 fun x32 =>
gV x31 true (bEqF x32 (.str [65, 97])) fun x33 =>
vPick x31 x33 cf fun x34 =>
gV x34 true (fa1 x9 1) fun x35 =>
gH x34 true (ldA x35 take1) s fun x36 s =>
gV x34 true (bEqF x36 (.str [73])) fun x37 =>
vPick x34 x37 cf fun x38 =>
gK x38 true x14 fun x39 =>
vPick x38 x39 cf fun x40 =>
gK x40 true x12 fun x41 =>
gV x40 true (bEqF x41 (.str [65, 97])) fun x42 =>
vPick x40 x42 cf fun x43 =>
gV x43 true (fa1 x15 2) fun x44 =>
gH x43 true (ldA x44 take1) s fun x45 s =>
gV x43 true (bEqF x45 (.str [73])) fun x46 =>
vPick x43 x46 cf fun x47 =>
gK x47 true x20 fun x48 =>
vPick x47 x48 cf fun x49 =>
gK x49 true x18 fun x50 =>
gV x49 true (bEqF x50 (.str [70, 97, 99, 101])) fun x51 =>
vPick x49 x51 cf fun x52 =>
gK x52 true x25 fun x53 =>
vPick x52 x53 cf fun x54 =>
gK x54 true x24 fun x55 =>
gV x54 true (bEqF x55 (.str [65, 97])) fun x56 =>
vPick x54 x56 cf fun x57 =>
gK x57 true x28 fun x58 =>
gV x57 true (vGen (.un .not (.c x58))) fun x59 =>
vPick x57 x59 cf fun x60 =>
gH x60 true (ldA x15 (takeN 10)) s fun x61 s =>
gH x60 true (ldA x15 (takeN 10)) s fun x62 s =>
gH x60 true (c (.mk .d0 .d3 .d0 .d1) [x61, x62]) s fun x63 s =>
vPick x60 x63 cf fun x64 =>
gH x64 true (ldA x15 (takeN 10)) s fun x65 s =>
gV x64 true (vBld [.str [], .nil .sl, .str [], .bool false, .bool false, .int .i64 0, .int .i64 0, .nil .sl, .nil .sl, .nil .sl] (eCons 2 1 (.str [86]) eNil)) fun x66 =>
gH x64 true (c (.mk .d0 .d3 .d0 .d1) [x65, x66]) s fun x67 s =>
gV x64 true (vGen (.un .not (.c x67))) fun x68 =>
vPick x64 x68 cf fun x69 =>
K x69 s))
def F298 : F2 := .pur H298 true mNo
theorem fe298 : feE Tryz.prog ann 298 0 [.cl] = some F298 := by kernel_rfl
def M298 (k : Nat) : F2 := .pur H298 true (Bool.rec mNo (mVal (.bool true)) (Nat.ble 6 k))
/- daguerre/daguerrelaw15.begun -/
def H299 : F2C := fun c _ v s K =>
endE v (
vBld [.bool false, .int .i32 0] (eCons 1 1 (cj 5) eNil) fun x0 =>
vBld [.bool false, .int .i32 0] (eCons 0 1 ct (eCons 1 1 (cj 4) eNil)) fun x1 =>
zBsl [.bool false, .int .i32 0, .bool false, .int .i32 0] 2 2 (eCons 0 2 x0 (eCons 2 2 x1 eNil)) s fun x2 s =>
c (.mk .d0 .d0 .d6 .d6) [(ci 7), (ci 3), (ci 2), x2] s fun x3 s =>
vNil false .ptr x3 fun x4 =>
cnd x4 (none)
(c (.mk .d0 .d3 .d5 .d4) [x3, (ci 2)] s fun x5 s =>
vExt x5 0 fun x6 =>
vExt x5 1 fun x7 =>
boxD false [.bool false, .int .i32 0] s fun x8 s =>
zSt x8 x6 2 s fun _ s =>
vBld [.bool false, .int .i32 0] (eCons 1 1 (cj 1) eNil) fun x10 =>
vBld [.bool false, .int .i32 0] (eCons 0 1 ct eNil) fun x11 =>
zBsl [.bool false, .int .i32 0, .bool false, .int .i32 0] 2 2 (eCons 0 2 x10 (eCons 2 2 x11 eNil)) s fun x12 s =>
c (.mk .d0 .d2 .d2 .d2) [x3, x12] s fun x13 s =>
vBld [.bool false, .int .i32 0] eNil fun x14 =>
zBsl [.bool false, .int .i32 0] 2 1 (eCons 0 2 x14 eNil) s fun x15 s =>
c (.mk .d0 .d2 .d2 .d2) [x3, x15] s fun x16 s =>
c (.mk .d0 .d2 .d3 .d1) [x3] s fun x17 s =>
vLenS x17 fun x18 =>
bEqT x18 (ci 2) fun x19 =>
cnd x19 (none)
(zBsl [.int .i64 0, .int .i64 0] 1 2 (eCons 0 1 (ci 9) (eCons 1 1 (.int .i64 (-1)) eNil)) s fun x20 s =>
c (.mk .d0 .d4 .d0 .d4) [x3, x20] s fun _ s =>
c (.mk .d0 .d3 .d5 .d4) [x3, (ci 1)] s fun x22 s =>
vExt x22 0 fun x23 =>
vExt x22 1 fun _ =>
boxD false [.bool false, .int .i32 0] s fun x25 s =>
zSt x25 x23 2 s fun _ s =>
c (.mk .d0 .d4 .d5 .d4) [x3, (ci 2)] s fun x27 s =>
vExt x27 0 fun x28 =>
vExt x27 1 fun x29 =>
gV x7 true (fa1 x8 0) fun x30 =>
gH x7 true (ldA x30 take1) s fun x31 s =>
gV x7 true (vGen (.un .not (.c x31))) fun x32 =>
vPick x7 x32 cf fun x33 =>
gV x33 true (fa1 x8 1) fun x34 =>
gH x33 true (ldA x34 take1) s fun x35 s =>
gV x33 true (bEqF x35 (cj 0)) fun x36 =>
vPick x33 x36 cf fun x37 =>
gK x37 true x13 fun x38 =>
vPick x37 x38 cf fun x39 =>
gK x39 true x16 fun x40 =>
gV x39 true (vGen (.un .not (.c x40))) fun x41 =>
vPick x39 x41 cf fun x42 =>
gK x42 true x3 fun x43 =>
gH x42 true (c (.mk .d0 .d5 .d0 .d1) [x43]) s fun x44 s =>
gV x42 true (bEqF x44 (ci 7)) fun x45 =>
vPick x42 x45 cf fun x46 =>
gK x46 true x3 fun x47 =>
gH x46 true (c (.mk .d0 .d0 .d7 .d3) [x47]) s fun x48 s =>
gV x46 true (bEqF x48 (ci 0)) fun x49 =>
vPick x46 x49 cf fun x50 =>
gK x50 true x17 fun x51 =>
gV x50 true (vIaS x51 (ci 0) 1) fun x52 =>
gH x50 true (ldA x52 take1) s fun x53 s =>
gV x50 true (bEqF x53 (ci 3)) fun x54 =>
vPick x50 x54 cf fun x55 =>
gK x55 true x17 fun x56 =>
gV x55 true (vIaS x56 (ci 1) 1) fun x57 =>
gH x55 true (ldA x57 take1) s fun x58 s =>
gV x55 true (bEqF x58 (.int .i64 (-1))) fun x59 =>
vPick x55 x59 cf fun x60 =>
gV x60 true (fa1 x25 1) fun x61 =>
gH x60 true (ldA x61 take1) s fun x62 s =>
gV x60 true (bEqF x62 (cj 10)) fun x63 =>
vPick x60 x63 cf fun x64 =>
gK x64 true x29 fun x65 =>
vPick x64 x65 cf fun x66 =>
gK x66 true x28 fun x67 =>
gV x66 true (vLenS x67) fun x68 =>
gV x66 true (bEqF x68 (ci 2)) fun x69 =>
vPick x66 x69 cf fun x70 =>
gK x70 true x28 fun x71 =>
gV x70 true (vIaS x71 (ci 0) 2) fun x72 =>
gV x70 true (fa1 x72 1) fun x73 =>
gH x70 true (ldA x73 take1) s fun x74 s =>
gV x70 true (bEqF x74 (cj 1)) fun x75 =>
vPick x70 x75 cf fun x76 =>
gK x76 true x28 fun x77 =>
gV x76 true (vIaS x77 (ci 1) 2) fun x78 =>
gV x76 true (fa1 x78 0) fun x79 =>
gH x76 true (ldA x79 take1) s fun x80 s =>
vPick x76 x80 cf fun x81 =>
gK x81 true x3 fun x82 =>
gH x81 true (c (.mk .d0 .d5 .d0 .d2) [x82]) s fun x83 s =>
gV x81 true (bEqF x83 (ci 0)) fun x84 =>
vPick x81 x84 cf fun x85 =>
K x85 s)))
def F299 : F2 := .pur H299 true mNo
theorem fe299 : feE Tryz.prog ann 299 0 [.cl, .cl] = some F299 := by kernel_rfl
def M299 (k : Nat) : F2 := .pur H299 true (Bool.rec mNo (mVal (.bool true)) (Nat.ble 13 k))
/- strings.TrimPrefix -/
def H265 : F2C := fun c _ v s K =>
pop v fun x0 v =>
pop v fun x1 v =>
endE v (
c (.mk .d0 .d4 .d6 .d5) [x0, x1] s fun x2 s =>
K x2 s)
def F265 : F2 := .fn H265 true
theorem fe265 : feE Tryz.prog ann 265 2 [] = some F265 := by kernel_rfl
/- (*daguerre/lazy.Machine).throw -/
def H249 : F2C := fun c k v s K =>
pop v fun x0 v =>
pop v fun x1 v =>
endE v (
zBox false x0 s fun x2 s =>
jn (fun v s =>
pop v fun x4 _ =>
lgE (qLdE x2 1) (ldA x2 take1) s fun x5 e6 s =>
lgE (qLdE x2 1) (ldA x2 take1) s fun x7 e8 s =>
lgE (qLdE x2 1) (ldA x2 take1) s fun x9 e10 s =>
lgE (qLdE x2 1) (ldA x2 take1) s fun x11 e12 s =>
lgE qNoE (zV (vChk x11)) s fun x13 e14 s =>
lgE qNoE (zV (fa1 x13 2)) s fun x15 e16 s =>
lgE (qLdE x15 1) (ldA x15 take1) s fun x17 e18 s =>
lgE qNoE (zK x4) s fun x19 e20 s =>
lgE qNoE (c (.mk .d0 .d3 .d4 .d4) [x17, x19]) s fun x21 e22 s =>
lgE qNoE (c (.mk .d0 .d0 .d2 .d7) [x9, x21]) s fun x23 e24 s =>
lgE qNoE (zV (vChk x5)) s fun x25 e26 s =>
lgE qNoE (zV (fa1 x25 8)) s fun x27 e28 s =>
lgE qNoE (zV (fa1 x27 1)) s fun x29 e30 s =>
lgE qNoE (zSt x29 (ci 2) 1) s fun _ e32 s =>
lgE qNoE (zV (vChk x7)) s fun x33 e34 s =>
lgE qNoE (zV (fa1 x33 8)) s fun x35 e36 s =>
lgE qNoE (zV (fa1 x35 3)) s fun x37 e38 s =>
lgE qNoE (zSt x37 x23 1) s fun _ e40 s =>
calmE [(0, 1), (0, 2), (1, 2), (0, 3), (1, 3), (2, 3), (0, 6), (1, 6), (2, 6), (0, 8), (1, 8), (2, 8), (0, 9), (1, 9), (1, 13)] [e6, e8, e10, e12, e14, e16, e18, e20, e22, e24, e26, e28, e30, e32, e34, e36, e38, e40] (fun s =>
K (.tup []) s) s) fun K3 =>
loopE k (fun K41 v s =>
pop v fun x42 _ =>
ldA x2 take1 s fun x43 s =>
vChk x43 fun x44 =>
fa1 x44 4 fun x45 =>
ldA x45 take1 s fun x46 s =>
vLenS x46 fun x47 =>
bGt x47 (ci 0) fun x48 =>
cnd x48 (jn (fun v s =>
pop v fun x50 _ =>
K41 [x50] s) fun K49 =>
lgE (qLdE x2 1) (ldA x2 take1) s fun x51 e52 s =>
lgE qNoE (c (.mk .d0 .d0 .d7 .d0) [x51]) s fun x53 e54 s =>
lgE (qLdE x2 1) (ldA x2 take1) s fun x55 e56 s =>
lgE (qLdE x2 1) (ldA x2 take1) s fun x57 e58 s =>
lgE qNoE (zV (vChk x57)) s fun x59 e60 s =>
lgE qNoE (zV (fa1 x59 2)) s fun x61 e62 s =>
lgE (qLdE x61 1) (ldA x61 take1) s fun x63 e64 s =>
lgE qNoE (zK x42) s fun x65 e66 s =>
lgE qNoE (c (.mk .d0 .d3 .d4 .d4) [x63, x65]) s fun x67 e68 s =>
lgE qNoE (c (.mk .d0 .d0 .d2 .d7) [x55, x67]) s fun x69 e70 s =>
lgE qNoE (boxD false [.nil .ptr]) s fun x71 e72 s =>
lgE qNoE (boxD false [.str []]) s fun x73 e74 s =>
lgE qNoE (zSt x71 x53 1) s fun _ e76 s =>
lgE qNoE (zSt x73 x69 1) s fun _ e78 s =>
calmE [(0, 2), (1, 2), (0, 3), (1, 3), (2, 3), (0, 6), (1, 6), (2, 6), (2, 8), (0, 10), (1, 10), (2, 10), (3, 10), (6, 10), (8, 10), (9, 10), (0, 11), (1, 11), (2, 11), (3, 11), (6, 11), (8, 11), (9, 11), (10, 11)] [e52, e54, e56, e58, e60, e62, e64, e66, e68, e70, e72, e74, e76, e78] (fun s =>
ldA x71 take1 s fun x79 s =>
vChk x79 fun x80 =>
fa1 x80 2 fun x81 =>
fa1 x81 9 fun x82 =>
ldA x82 take1 s fun x83 s =>
vGen (.mkf 303 [] [(.c x71), (.c x2), (.c x73)]) fun x84 =>
c (.mk .d0 .d4 .d2 .d6) [x83, x84] s fun x85 s =>
bGe x85 (ci 0) fun x86 =>
cnd x86 (ldA x71 take1 s fun x87 s =>
vChk x87 fun x88 =>
fa1 x88 0 fun x89 =>
ldA x89 take1 s fun x90 s =>
c (.mk .d0 .d4 .d6 .d0) [x90] s fun _ s =>
lgE (qLdE x71 1) (ldA x71 take1) s fun x92 e93 s =>
lgE qNoE (zV (vChk x92)) s fun x94 e95 s =>
lgE qNoE (zV (fa1 x94 0)) s fun x96 e97 s =>
lgE (qLdE x96 1) (ldA x96 take1) s fun x98 e99 s =>
lgE qNoE (zK x42) s fun x100 e101 s =>
lgE qNoE (c (.mk .d0 .d3 .d5 .d7) [x100]) s fun x102 e103 s =>
lgE qNoE (zBsl [.bool false, .int .i32 0] 2 1 (eCons 0 2 x102 eNil)) s fun x104 e105 s =>
lgE qNoE (c (.mk .d0 .d2 .d2 .d2) [x98, x104]) s fun _ e107 s =>
calmE [(0, 5), (3, 5), (0, 6), (3, 6)] [e93, e95, e97, e99, e101, e103, e105, e107] (fun s =>
lgE (qLdE x71 1) (ldA x71 take1) s fun x108 e109 s =>
lgE qNoE (zV (vChk x108)) s fun x110 e111 s =>
lgE qNoE (zV (fa1 x110 0)) s fun x112 e113 s =>
lgE (qLdE x112 1) (ldA x112 take1) s fun x114 e115 s =>
lgE (qLdE x71 1) (ldA x71 take1) s fun x116 e117 s =>
lgE qNoE (zV (vChk x116)) s fun x118 e119 s =>
lgE qNoE (zV (fa1 x118 2)) s fun x120 e121 s =>
lgE qNoE (zV (fa1 x120 9)) s fun x122 e123 s =>
lgE (qLdE x122 1) (ldA x122 take1) s fun x124 e125 s =>
lgE qNoE (zK x85) s fun x126 e127 s =>
lgE qNoE (zV (vIaS x124 x126 4)) s fun x128 e129 s =>
lgE qNoE (zV (fa1 x128 2)) s fun x130 e131 s =>
lgE (qLdE x130 1) (ldA x130 take1) s fun x132 e133 s =>
lgE qNoE (c (.mk .d0 .d2 .d2 .d3) [x114, x132]) s fun _ e135 s =>
calmE [(0, 4), (3, 4), (0, 8), (3, 8), (0, 12), (3, 12)] [e109, e111, e113, e115, e117, e119, e121, e123, e125, e127, e129, e131, e133, e135] (fun s =>
ldA x71 take1 s fun x136 s =>
vChk x136 fun x137 =>
fa1 x137 13 fun x138 =>
zSt x138 cf 1 s fun _ s =>
K (.tup []) s) s) s)
(lgE (qLdE x2 1) (ldA x2 take1) s fun x140 e141 s =>
lgE (qLdE x2 1) (ldA x2 take1) s fun x142 e143 s =>
lgE qNoE (zV (vChk x142)) s fun x144 e145 s =>
lgE qNoE (zV (fa1 x144 4)) s fun x146 e147 s =>
lgE (qLdE x146 1) (ldA x146 take1) s fun x148 e149 s =>
lgE (qLdE x2 1) (ldA x2 take1) s fun x150 e151 s =>
lgE qNoE (zV (vChk x150)) s fun x152 e153 s =>
lgE qNoE (zV (fa1 x152 4)) s fun x154 e155 s =>
lgE (qLdE x154 1) (ldA x154 take1) s fun x156 e157 s =>
lgE qNoE (zV (vLenS x156)) s fun x158 e159 s =>
lgE qNoE (zV (bSub x158 (ci 1))) s fun x160 e161 s =>
lgE qNoE (zV (vSlt x148 eN (eX x160) 1)) s fun x162 e163 s =>
lgE qNoE (zV (vChk x140)) s fun x164 e165 s =>
lgE qNoE (zV (fa1 x164 4)) s fun x166 e167 s =>
lgE qNoE (zSt x166 x162 1) s fun _ e169 s =>
calmE [(0, 1), (0, 4), (0, 5), (1, 5), (4, 5), (0, 8), (1, 8), (4, 8), (0, 9), (1, 9), (4, 9), (0, 11)] [e141, e143, e145, e147, e149, e151, e153, e155, e157, e159, e161, e163, e165, e167, e169] (fun s =>
ldA x71 take1 s fun x170 s =>
vChk x170 fun x171 =>
fa1 x171 12 fun x172 =>
ldA x172 take1 s fun x173 s =>
vGen (.un .not (.c x173)) fun x174 =>
cnd x174 (K49 [x42] s)
(lgE (qLdE x2 1) (ldA x2 take1) s fun x175 e176 s =>
lgE qNoE (zV (vChk x175)) s fun x177 e178 s =>
lgE qNoE (zV (fa1 x177 1)) s fun x179 e180 s =>
lgE (qLdE x179 1) (ldA x179 take1) s fun x181 e182 s =>
lgE (qLdE x71 1) (ldA x71 take1) s fun x183 e184 s =>
lgE qNoE (zV (vChk x183)) s fun x185 e186 s =>
lgE qNoE (zV (fa1 x185 1)) s fun x187 e188 s =>
lgE (qLdE x187 1) (ldA x187 take1) s fun x189 e190 s =>
lgE qNoE (c (.mk .d0 .d2 .d1 .d6) [x181, x189, (ci 3)]) s fun _ e192 s =>
calmE [(0, 4), (3, 4), (0, 7), (3, 7)] [e176, e178, e180, e182, e184, e186, e188, e190, e192] (fun s =>
ldA x2 take1 s fun x193 s =>
c (.mk .d0 .d3 .d5 .d6) [x193, (.str [73, 110, 105, 116, 69, 114, 114]), (ci 0)] s fun x194 s =>
vExt x194 0 fun x195 =>
vExt x194 1 fun x196 =>
vGen (.un .not (.c x196)) fun x197 =>
cnd x197 (none)
(K49 [x195] s)) s)) s)) s)
(K3 [x42] s)) [x1] s)
def F249 : F2 := .fn H249 true
theorem fe249 : feE Tryz.prog ann 249 2 [.j [1], .j [1], .j [], .j [1], .j [], .j [], .cl] = some F249 := by kernel_rfl
/- (*daguerre/lazy.act).next -/
def H248 : F2C := fun c _ v s K =>
pop v fun x0 v =>
endE v (
lgE qNoE (zK x0) s fun x1 e2 s =>
lgE qNoE (zV (vChk x1)) s fun x3 e4 s =>
lgE qNoE (zV (fa1 x3 0)) s fun x5 e6 s =>
lgE (qLdE x5 1) (ldA x5 take1) s fun x7 e8 s =>
lgE qNoE (zK x0) s fun x9 e10 s =>
lgE qNoE (zV (vChk x9)) s fun x11 e12 s =>
lgE qNoE (zV (fa1 x11 0)) s fun x13 e14 s =>
lgE (qLdE x13 1) (ldA x13 take1) s fun x15 e16 s =>
lgE qNoE (c (.mk .d0 .d0 .d7 .d3) [x15]) s fun x17 e18 s =>
lgE qNoE (zV (bAdd x17 (ci 1))) s fun x19 e20 s =>
lgE qNoE (c (.mk .d0 .d2 .d2 .d3) [x7, x19]) s fun _ e22 s =>
calmE [(3, 7), (3, 8)] [e2, e4, e6, e8, e10, e12, e14, e16, e18, e20, e22] (fun s =>
K (.tup []) s) s)
def F248 : F2 := .fn H248 true
theorem fe248 : feE Tryz.prog ann 248 1 [] = some F248 := by kernel_rfl
/- (*daguerre/frame.Frame).has -/
def H301 : F2C := fun _ _ v s K =>
pop v fun x0 v =>
pop v fun x1 v =>
endE v (
vNil true .ptr x0 fun x2 =>
gK x2 true x1 fun x3 =>
gV x2 true (bGe x3 (ci 0)) fun x4 =>
vPick x2 x4 cf fun x5 =>
gK x5 true x1 fun x6 =>
gK x5 true x0 fun x7 =>
gV x5 true (vChk x7) fun x8 =>
gV x5 true (fa1 x8 3) fun x9 =>
gH x5 true (ldA x9 take1) s fun x10 s =>
gV x5 true (vLenS x10) fun x11 =>
gV x5 true (bLt x6 x11) fun x12 =>
vPick x5 x12 cf fun x13 =>
K x13 s)
def F301 : F2 := .fn H301 true
theorem fe301 : feE Tryz.prog ann 301 2 [] = some F301 := by kernel_rfl
/- (*daguerre/lazy.Machine).kind -/
def H302 : F2C := fun c _ v s K =>
pop v fun x0 v =>
pop v fun x1 v =>
endE v (
vChk x0 fun x2 =>
fa1 x2 5 fun x3 =>
ldA x3 take1 s fun x4 s =>
c (.mk .d0 .d2 .d4 .d2) [x4, x1] s fun x5 s =>
bLt x5 (ci 0) fun x6 =>
jn (fun v s =>
pop v fun x8 _ =>
K x8 s) fun K7 =>
cnd x6 (vChk x0 fun x9 =>
fa1 x9 5 fun x10 =>
ldA x10 take1 s fun x11 s =>
vLenS x11 fun x12 =>
vChk x0 fun x13 =>
fa1 x13 5 fun x14 =>
ldA x14 take1 s fun x15 s =>
zBsl [.str []] 1 1 (eCons 0 1 x1 eNil) s fun x16 s =>
appB 1 16 x15 x16 s fun x17 s =>
vChk x0 fun x18 =>
fa1 x18 5 fun x19 =>
zSt x19 x17 1 s fun _ s =>
K7 [x12] s)
(K7 [x5] s))
def F302 : F2 := .fn H302 true
theorem fe302 : feE Tryz.prog ann 302 2 [.j [5]] = some F302 := by kernel_rfl
/- daguerre/effect.find -/
def H305 : F2C := fun c _ v s K =>
pop v fun x0 v =>
pop v fun x1 v =>
endE v (
boxD false [.str [], .nil .sl, .str [], .bool false, .bool false, .int .i64 0, .int .i64 0, .nil .sl, .nil .sl, .nil .sl] s fun x2 s =>
c (.mk .d0 .d5 .d0 .d3) [x1, (.str [46])] s fun x3 s =>
vExt x3 0 fun x4 =>
vExt x3 1 fun x5 =>
vExt x3 2 fun _ =>
c (.mk .d0 .d0 .d6 .d7) [x0, x4] s fun x7 s =>
vExt x7 0 fun x8 =>
vExt x7 1 fun _ =>
boxD false [.str [], .str [], .bool false, .nil .sl, .nil .sl, .nil .sl] s fun x10 s =>
zSt x10 x8 6 s fun _ s =>
lgE qNoE (zV (fa1 x10 5)) s fun x12 e13 s =>
lgE (qLdE x12 1) (ldA x12 take1) s fun x14 e15 s =>
lgE (qLdE x10 6) (ldA x10 (takeN 6)) s fun x16 e17 s =>
lgE qNoE (zK x5) s fun x18 e19 s =>
lgE qNoE (c (.mk .d0 .d1 .d6 .d0) [x16, x18]) s fun x20 e21 s =>
lgE qNoE (zV (vIaS x14 x20 10)) s fun x22 e23 s =>
lgE (qLdE x22 10) (ldA x22 (takeN 10)) s fun x24 e25 s =>
lgE qNoE (zSt x2 x24 10) s fun _ e27 s =>
calmE [(1, 2), (1, 4)] [e13, e15, e17, e19, e21, e23, e25, e27] (fun s =>
ldA x2 (takeN 10) s K) s)
def F305 : F2 := .fn H305 true
theorem fe305 : feE Tryz.prog ann 305 2 [] = some F305 := by kernel_rfl
/- daguerre/effect.Sees$1 -/
def H306 : F2C := fun _ _ v s K =>
pop v fun x0 v =>
pop v fun x1 v =>
endE v (
ldA x1 take1 s fun x2 s =>
zLku .str (.bool false) x2 x0 false s fun x3 s =>
vGen (.un .not (.c x3)) fun x4 =>
K x4 s)
def F306 : F2 := .fn H306 true
theorem fe306 : feE Tryz.prog ann 306 2 [] = some F306 := by kernel_rfl
/- daguerre/daguerrelaw9.Begun -/
def H307 : F2C := fun c _ v s K =>
endE v (
c (.mk .d0 .d5 .d0 .d4) [] s fun x0 s =>
K x0 s)
def F307 : F2 := .pur H307 true mNo
theorem fe307 : feE Tryz.prog ann 307 0 [] = some F307 := by kernel_rfl
/- daguerre/kind.small -/
def H264 : F2C := fun _ _ v s K =>
pop v fun x0 v =>
endE v (
bGe x0 (cu 97) fun x1 =>
gK x1 true x0 fun x2 =>
gV x1 true (bLe x2 (cu 122)) fun x3 =>
vPick x1 x3 cf fun x4 =>
K x4 s)
def F264 : F2 := .fn H264 true
theorem fe264 : feE Tryz.prog ann 264 1 [] = some F264 := by kernel_rfl
/- daguerre/class.types -/
def H267 : F2C := fun c _ v s K =>
pop v fun x0 v =>
pop v fun x1 v =>
endE v (
zBox false x1 s fun x2 s =>
vGen (.mkf 310 [] [(.c x2)]) fun x3 =>
c (.mk .d0 .d1 .d2 .d2) [x0, x3] s fun x4 s =>
vGen (.un .not (.c x4)) fun x5 =>
K x5 s)
def F267 : F2 := .fn H267 true
theorem fe267 : feE Tryz.prog ann 267 2 [] = some F267 := by kernel_rfl
/- daguerre/kind.Ret -/
def H268 : F2C := fun c _ v s K =>
pop v fun x0 v =>
endE v (
bEqF x0 (.str [86]) fun x1 =>
gK x1 false x0 fun x2 =>
gH x1 false (c (.mk .d0 .d2 .d5 .d4) [x2]) s fun x3 s =>
vPick x1 ct x3 fun x4 =>
K x4 s)
def F268 : F2 := .fn H268 true
theorem fe268 : feE Tryz.prog ann 268 1 [] = some F268 := by kernel_rfl
/- daguerre/class.empty -/
def H269 : F2C := fun _ _ v s K =>
pop v fun x0 v =>
endE v (
zTbox x0 s fun x1 s =>
fa1 x1 3 fun x2 =>
ldA x2 take1 s fun x3 s =>
vGen (.un .not (.c x3)) fun x4 =>
gV x4 true (fa1 x1 0) fun x5 =>
gH x4 true (ldA x5 take1) s fun x6 s =>
gV x4 true (bEqT x6 (.str [36, 105, 110, 105, 116])) fun x7 =>
vPick x4 x7 cf fun x8 =>
gV x8 true (fa1 x1 5) fun x9 =>
gH x8 true (ldA x9 take1) s fun x10 s =>
gV x8 true (bEqF x10 (ci 0)) fun x11 =>
vPick x8 x11 cf fun x12 =>
gV x12 true (fa1 x1 6) fun x13 =>
gH x12 true (ldA x13 take1) s fun x14 s =>
gV x12 true (bEqF x14 (ci 0)) fun x15 =>
vPick x12 x15 cf fun x16 =>
gV x16 true (fa1 x1 7) fun x17 =>
gH x16 true (ldA x17 take1) s fun x18 s =>
gV x16 true (vLenS x18) fun x19 =>
gV x16 true (fa1 x1 8) fun x20 =>
gH x16 true (ldA x20 take1) s fun x21 s =>
gV x16 true (vLenS x21) fun x22 =>
gV x16 true (bAdd x19 x22) fun x23 =>
gV x16 true (fa1 x1 9) fun x24 =>
gH x16 true (ldA x24 take1) s fun x25 s =>
gV x16 true (vLenS x25) fun x26 =>
gV x16 true (bAdd x23 x26) fun x27 =>
gV x16 true (bEqF x27 (ci 0)) fun x28 =>
vPick x16 x28 cf fun x29 =>
K x29 s)
def F269 : F2 := .fn H269 true
theorem fe269 : feE Tryz.prog ann 269 1 [] = some F269 := by kernel_rfl
/- daguerre/class.args -/
def H271 : F2C := fun _ _ v s K =>
pop v fun x0 v =>
endE v (
zTbox x0 s fun x1 s =>
fa1 x1 3 fun x2 =>
ldA x2 take1 s fun x3 s =>
cnd x3 (fa1 x1 1 fun x4 =>
ldA x4 take1 s fun x5 s =>
vLenS x5 fun x6 =>
K x6 s)
(fa1 x1 1 fun x7 =>
ldA x7 take1 s fun x8 s =>
vLenS x8 fun x9 =>
bAdd x9 (ci 1) fun x10 =>
K x10 s))
def F271 : F2 := .fn H271 true
theorem fe271 : feE Tryz.prog ann 271 1 [.j []] = some F271 := by kernel_rfl
/- daguerre/class.between -/
def H270 : F2C := fun _ _ v s K =>
pop v fun x0 v =>
pop v fun x1 v =>
pop v fun x2 v =>
endE v (
bGe x0 x1 fun x3 =>
gK x3 true x0 fun x4 =>
gK x3 true x2 fun x5 =>
gV x3 true (bLe x4 x5) fun x6 =>
vPick x3 x6 cf fun x7 =>
K x7 s)
def F270 : F2 := .fn H270 true
theorem fe270 : feE Tryz.prog ann 270 3 [] = some F270 := by kernel_rfl
/- daguerre/class.instructions -/
def H272 : F2C := fun c _ v s K =>
pop v fun x0 v =>
endE v (
zTbox x0 s fun x1 s =>
fa1 x1 7 fun x2 =>
ldA x2 take1 s fun x3 s =>
vLenS x3 fun x4 =>
boxD false [.int .i64 0] s fun x5 s =>
zSt x5 x4 1 s fun _ s =>
ldA x5 take1 s fun x7 s =>
c (.mk .d0 .d4 .d1 .d6) [x7, (ci 1), (ci 100)] s fun x8 s =>
vGen (.un .not (.c x8)) fun x9 =>
gV x9 false (fa1 x1 7) fun x10 =>
gH x9 false (ldA x10 take1) s fun x11 s =>
gH x9 false (ldA x5 take1) s fun x12 s =>
gV x9 false (bSub x12 (ci 1)) fun x13 =>
gV x9 false (vIaS x11 x13 4) fun x14 =>
gV x9 false (fa1 x14 0) fun x15 =>
gH x9 false (ldA x15 take1) s fun x16 s =>
gH x9 false (c (.mk .d0 .d1 .d5 .d1) [x16]) s fun x17 s =>
gV x9 false (vGen (.un .not (.c x17))) fun x18 =>
vPick x9 ct x18 fun x19 =>
cnd x19 (none)
(fa1 x1 7 fun x20 =>
ldA x20 take1 s fun x21 s =>
vGen (.mkf 311 [] [(.c x5)]) fun x22 =>
c (.mk .d0 .d2 .d7 .d5) [x21, x22] s fun x23 s =>
vGen (.un .not (.c x23)) fun x24 =>
K x24 s))
def F272 : F2 := .fn H272 true
theorem fe272 : feE Tryz.prog ann 272 1 [.cl] = some F272 := by kernel_rfl
/- daguerre/class.maps -/
def H273 : F2C := fun c k v s K =>
pop v fun x0 v =>
endE v (
zTbox x0 s fun x1 s =>
fa1 x1 8 fun x2 =>
ldA x2 take1 s fun x3 s =>
vLenS x3 fun x4 =>
jn (fun _ s =>
fa1 x1 8 fun x6 =>
ldA x6 take1 s fun x7 s =>
vLenS x7 fun x8 =>
bLe x8 (ci 100) fun x9 =>
K x9 s) fun K5 =>
loopE k (fun K10 v s =>
pop v fun x11 _ =>
bLt x11 x4 fun x12 =>
cnd x12 (jn (fun _ s =>
bAdd x11 (ci 1) fun x14 =>
K10 [x14] s) fun K13 =>
vIaS x3 x11 3 fun x15 =>
ldA x15 (takeN 3) s fun x16 s =>
boxD false [.int .i64 0, .nil .sl, .nil .sl] s fun x17 s =>
zSt x17 x16 3 s fun _ s =>
lgE qNoE (zV (fa1 x17 0)) s fun x19 e20 s =>
lgE (qLdE x19 1) (ldA x19 take1) s fun x21 e22 s =>
lgE qNoE (zV (fa1 x1 7)) s fun x23 e24 s =>
lgE (qLdE x23 1) (ldA x23 take1) s fun x25 e26 s =>
lgE qNoE (zV (vLenS x25)) s fun x27 e28 s =>
lgE qNoE (zV (bSub x27 (ci 1))) s fun x29 e30 s =>
lgE qNoE (c (.mk .d0 .d4 .d1 .d6) [x21, (ci 0), x29]) s fun x31 e32 s =>
lgE qNoE (zV (vGen (.un .not (.c x31)))) s fun x33 e34 s =>
lgE qNoE (zK x33) s fun x35 e36 s =>
lgE (qGE x35 false qNoE) (zG x35 false (zK x11)) s fun x37 e38 s =>
lgE (qGE x35 false qNoE) (zG x35 false (zV (bGt x37 (ci 0)))) s fun x39 e40 s =>
lgE (qGE x35 false qNoE) (zG x35 false (zK x39)) s fun x41 e42 s =>
lgE (qGE x41 true qNoE) (zG x41 true (zV (fa1 x1 8))) s fun x43 e44 s =>
lgE (qGE x41 true (qLdE x43 1)) (zG x41 true (ldA x43 take1)) s fun x45 e46 s =>
lgE (qGE x41 true qNoE) (zG x41 true (zK x11)) s fun x47 e48 s =>
lgE (qGE x41 true qNoE) (zG x41 true (zV (bSub x47 (ci 1)))) s fun x49 e50 s =>
lgE (qGE x41 true qNoE) (zG x41 true (zV (vIaS x45 x49 3))) s fun x51 e52 s =>
lgE (qGE x41 true qNoE) (zG x41 true (zV (fa1 x51 0))) s fun x53 e54 s =>
lgE (qGE x41 true (qLdE x53 1)) (zG x41 true (ldA x53 take1)) s fun x55 e56 s =>
lgE (qGE x41 true qNoE) (zG x41 true (zV (fa1 x17 0))) s fun x57 e58 s =>
lgE (qGE x41 true (qLdE x57 1)) (zG x41 true (ldA x57 take1)) s fun x59 e60 s =>
lgE (qGE x41 true qNoE) (zG x41 true (zV (bGe x55 x59))) s fun x61 e62 s =>
lgE (qGE x35 false qNoE) (zG x35 false (zV (vPick x41 x61 cf))) s fun x63 e64 s =>
lgE qNoE (zV (vPick x35 ct x63)) s fun x65 e66 s =>
calmE [(1, 3), (1, 4), (13, 20), (18, 20)] [e20, e22, e24, e26, e28, e30, e32, e34, e36, e38, e40, e42, e44, e46, e48, e50, e52, e54, e56, e58, e60, e62, e64, e66] (fun s =>
cnd x65 (none)
(fa1 x17 1 fun x67 =>
ldA x67 take1 s fun x68 s =>
vLenS x68 fun x69 =>
fa1 x1 5 fun x70 =>
ldA x70 take1 s fun x71 s =>
bEqT x69 x71 fun x72 =>
gV x72 false (fa1 x17 2) fun x73 =>
gH x72 false (ldA x73 take1) s fun x74 s =>
gV x72 false (vLenS x74) fun x75 =>
gV x72 false (fa1 x1 6) fun x76 =>
gH x72 false (ldA x76 take1) s fun x77 s =>
gV x72 false (bGt x75 x77) fun x78 =>
vPick x72 ct x78 fun x79 =>
gV x79 false (fa1 x17 1) fun x80 =>
gH x79 false (ldA x80 take1) s fun x81 s =>
gH x79 false (c (.mk .d0 .d4 .d1 .d3) [x81, (.fn 313 [] [])]) s fun x82 s =>
gV x79 false (vGen (.un .not (.c x82))) fun x83 =>
vPick x79 ct x83 fun x84 =>
gV x84 false (fa1 x17 2) fun x85 =>
gH x84 false (ldA x85 take1) s fun x86 s =>
gH x84 false (c (.mk .d0 .d4 .d1 .d3) [x86, (.fn 313 [] [])]) s fun x87 s =>
gV x84 false (vGen (.un .not (.c x87))) fun x88 =>
vPick x84 ct x88 fun x89 =>
gV x89 false (fa1 x17 2) fun x90 =>
gH x89 false (ldA x90 take1) s fun x91 s =>
gH x89 false (c (.mk .d0 .d1 .d1 .d1) [x91, (.str [84])]) s fun x92 s =>
vPick x89 ct x92 fun x93 =>
cnd x93 (none)
(K13 [] s))) s)
(K5 [] s)) [(ci 0)] s)
def F273 : F2 := .fn H273 true
theorem fe273 : feE Tryz.prog ann 273 1 [.j [], .j [8], .j [], .j [], .cl, .cl] = some F273 := by kernel_rfl
/- daguerre/class.traps -/
def H274 : F2C := fun c _ v s K =>
pop v fun x0 v =>
endE v (
zBox false x0 s fun x1 s =>
fa1 x1 9 fun x2 =>
ldA x2 take1 s fun x3 s =>
vGen (.mkf 314 [] [(.c x1)]) fun x4 =>
c (.mk .d0 .d2 .d7 .d3) [x3, x4] s fun x5 s =>
vGen (.un .not (.c x5)) fun x6 =>
gV x6 true (fa1 x1 9) fun x7 =>
gH x6 true (ldA x7 take1) s fun x8 s =>
gV x6 true (vLenS x8) fun x9 =>
gV x6 true (bLe x9 (ci 6)) fun x10 =>
vPick x6 x10 cf fun x11 =>
K x11 s)
def F274 : F2 := .fn H274 true
theorem fe274 : feE Tryz.prog ann 274 1 [] = some F274 := by kernel_rfl
/- daguerre/kind.digit -/
def H308 : F2C := fun _ _ v s K =>
pop v fun x0 v =>
endE v (
bGe x0 (cu 48) fun x1 =>
gK x1 true x0 fun x2 =>
gV x1 true (bLe x2 (cu 57)) fun x3 =>
vPick x1 x3 cf fun x4 =>
K x4 s)
def F308 : F2 := .fn H308 true
theorem fe308 : feE Tryz.prog ann 308 1 [] = some F308 := by kernel_rfl
/- slices.IndexFunc[[]daguerre/api.Trap,daguerre/api.Trap] -/
def H278 : F2C := fun c k v s K =>
pop v fun x0 v =>
pop v fun x1 v =>
endE v (
vLenS x0 fun x2 =>
jn (fun _ s =>
K (.int .i64 (-1)) s) fun K3 =>
loopE k (fun K4 v s =>
pop v fun x5 _ =>
bLt x5 x2 fun x6 =>
cnd x6 (jn (fun _ s =>
bAdd x5 (ci 1) fun x8 =>
K4 [x8] s) fun K7 =>
vIaS x0 x5 4 fun x9 =>
ldA x9 (takeN 4) s fun x10 s =>
zCallV c x1 [x10] s fun x11 s =>
cnd x11 (K x5 s)
(K7 [] s))
(K3 [] s)) [(ci 0)] s)
def F278 : F2 := .fn H278 true
theorem fe278 : feE Tryz.prog ann 278 2 [.j [], .j [8], .j [], .j [], .j []] = some F278 := by kernel_rfl
/- daguerre/closed.named -/
def H191 : F2C := fun c _ v s K =>
pop v fun x0 v =>
pop v fun x1 v =>
endE v (
zTbox x1 s fun x2 s =>
fa1 x2 2 fun x3 =>
ldA x3 take1 s fun x4 s =>
c (.mk .d0 .d0 .d6 .d7) [x0, x4] s fun x5 s =>
vExt x5 0 fun x6 =>
vExt x5 1 fun _ =>
boxD false [.str [], .str [], .bool false, .nil .sl, .nil .sl, .nil .sl] s fun x8 s =>
zSt x8 x6 6 s fun _ s =>
fa1 x2 0 fun x10 =>
ldA x10 take1 s fun x11 s =>
jn (fun v s =>
pop v fun x13 _ =>
K x13 s) fun K12 =>
bEqF x11 (ci 38) fun x14 =>
cnd x14 (none)
(bEqF x11 (ci 39) fun x15 =>
cnd x15 (none)
(bEqF x11 (ci 40) fun x16 =>
jn (fun v s =>
pop v fun x18 _ =>
jn (fun v s =>
pop v fun x20 _ =>
K12 [x20] s) fun K19 =>
cnd x18 (fa1 x2 2 fun x21 =>
ldA x21 take1 s fun x22 s =>
fa1 x2 3 fun x23 =>
ldA x23 take1 s fun x24 s =>
c (.mk .d0 .d3 .d3 .d2) [x0, x22, x24] s fun x25 s =>
vExt x25 0 fun _ =>
vExt x25 1 fun _ =>
vExt x25 2 fun x28 =>
K19 [x28] s)
(bEqF x11 (ci 42) fun x29 =>
jn (fun v s =>
pop v fun x31 _ =>
jn (fun v s =>
pop v fun _ v =>
pop v fun x34 _ =>
K19 [x34] s) fun K32 =>
cnd x31 (fa1 x2 2 fun x35 =>
ldA x35 take1 s fun x36 s =>
fa1 x2 3 fun x37 =>
ldA x37 take1 s fun x38 s =>
c (.mk .d0 .d0 .d4 .d6) [x0, x36, x38] s fun x39 s =>
vExt x39 0 fun _ =>
vExt x39 1 fun _ =>
vExt x39 2 fun x42 =>
gV x42 true (fa1 x8 2) fun x43 =>
gH x42 true (ldA x43 take1) s fun x44 s =>
gV x42 true (vGen (.un .not (.c x44))) fun x45 =>
vPick x42 x45 cf fun x46 =>
K32 [x46, x46] s)
(bEqF x11 (ci 45) fun x47 =>
cnd x47 (none)
(K32 [ct, ct] s))) fun K30 =>
cnd x29 (K30 [x29] s)
(bEqF x11 (ci 43) fun x48 =>
jn (fun v s =>
pop v fun x50 _ =>
K30 [x50] s) fun K49 =>
cnd x48 (K49 [x48] s)
(bEqF x11 (ci 44) fun x51 =>
K49 [x51] s)))) fun K17 =>
cnd x16 (K17 [x16] s)
(bEqF x11 (ci 41) fun x52 =>
K17 [x52] s))))
def F191 : F2 := .fn H191 true
theorem fe191 : feE Tryz.prog ann 191 2 [.j [7], .cl, .cl, .j [17], .j [7], .j [32], .j [32], .j [7, 7], .cl] = some F191 := by kernel_rfl
/- slices.IndexFunc[[]daguerre/api.Ins,daguerre/api.Ins] -/
def H279 : F2C := fun c k v s K =>
pop v fun x0 v =>
pop v fun x1 v =>
endE v (
vLenS x0 fun x2 =>
jn (fun _ s =>
K (.int .i64 (-1)) s) fun K3 =>
loopE k (fun K4 v s =>
pop v fun x5 _ =>
bLt x5 x2 fun x6 =>
cnd x6 (jn (fun _ s =>
bAdd x5 (ci 1) fun x8 =>
K4 [x8] s) fun K7 =>
vIaS x0 x5 4 fun x9 =>
ldA x9 (takeN 4) s fun x10 s =>
zCallV c x1 [x10] s fun x11 s =>
cnd x11 (none)
(K7 [] s))
(K3 [] s)) [(ci 0)] s)
def F279 : F2 := .fn H279 true
theorem fe279 : feE Tryz.prog ann 279 2 [.j [], .j [8], .j [], .j [], .cl] = some F279 := by kernel_rfl
/- slices.Equal[[]string,string] -/
def H280 : F2C := fun _ k v s K =>
pop v fun x0 v =>
pop v fun x1 v =>
endE v (
vLenS x0 fun x2 =>
vLenS x1 fun x3 =>
bEqT x2 x3 fun x4 =>
cnd x4 (none)
(vLenS x0 fun x5 =>
jn (fun _ s =>
K ct s) fun K6 =>
loopE k (fun _ v s =>
pop v fun x8 _ =>
bLt x8 x5 fun x9 =>
cnd x9 (none)
(K6 [] s)) [(ci 0)] s))
def F280 : F2 := .fn H280 true
theorem fe280 : feE Tryz.prog ann 280 2 [.cl, .j [], .j [13], .cl, .j [], .ch] = some F280 := by kernel_rfl
/- math/bits.Len -/
def H316 : F2C := fun c _ v s K =>
pop v fun x0 v =>
endE v (
cnd cf (none)
(c (.mk .d0 .d5 .d2 .d4) [x0] s fun x1 s =>
K x1 s))
def F316 : F2 := .fn H316 true
theorem fe316 : feE Tryz.prog ann 316 1 [.cl] = some F316 := by kernel_rfl
/- slices.pdqsortOrdered[string] -/
def H315 : F2C := fun c k v s K =>
pop v fun x0 v =>
pop v fun x1 v =>
pop v fun x2 v =>
pop v fun _ v =>
endE v (
jn (fun _ s =>
K (.tup []) s) fun _ =>
loopE k (fun K5 _ s =>
jn (fun _ s =>
K5 [] s) fun _ =>
bSub x2 x1 fun x7 =>
bLe x7 (ci 12) fun x8 =>
cnd x8 (c (.mk .d0 .d5 .d1 .d2) [x0, x1, x2] s fun _ s =>
K (.tup []) s)
(none)) [] s)
def F315 : F2 := .fn H315 true
theorem fe315 : feE Tryz.prog ann 315 4 [.j [], .j [], .j [], .cr, .ch, .ch, .ch, .ch, .ch, .ch] = some F315 := by kernel_rfl
/- daguerre/closed.has$1 -/
def H283 : F2C := fun c _ v s K =>
pop v fun x0 v =>
pop v fun x1 v =>
endE v (
zTbox x0 s fun x2 s =>
fa1 x2 0 fun x3 =>
ldA x3 take1 s fun x4 s =>
fa1 x1 0 fun x5 =>
ldA x5 take1 s fun x6 s =>
bEqF x4 x6 fun x7 =>
gH x7 true (ldA x1 (takeN 10)) s fun x8 s =>
gH x7 true (ldA x2 (takeN 10)) s fun x9 s =>
gH x7 true (c (.mk .d0 .d3 .d0 .d1) [x8, x9]) s fun x10 s =>
vPick x7 x10 cf fun x11 =>
K x11 s)
def F283 : F2 := .fn H283 true
theorem fe283 : feE Tryz.prog ann 283 2 [] = some F283 := by kernel_rfl
/- daguerre/types.ref -/
def H318 : F2C := fun c _ v s K =>
pop v fun x0 v =>
pop v fun x1 v =>
endE v (
bEqT x1 (.str [73]) fun x2 =>
gK x2 true x0 fun x3 =>
gK x2 true x1 fun x4 =>
gK x2 true x1 fun x5 =>
gH x2 true (c (.mk .d0 .d1 .d4 .d2) [x3, x4, x5]) s fun x6 s =>
vPick x2 x6 cf fun x7 =>
K x7 s)
def F318 : F2 := .fn H318 true
theorem fe318 : feE Tryz.prog ann 318 2 [] = some F318 := by kernel_rfl
/- daguerre/link.Chosen$1 -/
def H317 : F2C := fun _ _ v s K =>
pop v fun x0 v =>
endE v (
zTbox x0 s fun x1 s =>
fa1 x1 3 fun x2 =>
ldA x2 take1 s fun x3 s =>
vGen (.un .not (.c x3)) fun x4 =>
gV x4 true (fa1 x1 4) fun x5 =>
gH x4 true (ldA x5 take1) s fun x6 s =>
gV x4 true (vGen (.un .not (.c x6))) fun x7 =>
vPick x4 x7 cf fun x8 =>
K x8 s)
def F317 : F2 := .fn H317 true
theorem fe317 : feE Tryz.prog ann 317 1 [] = some F317 := by kernel_rfl
/- (daguerre/pile.row).Less -/
def H442 : F2C := fun _ _ v s K =>
pop v fun x0 v =>
pop v fun x1 v =>
pop v fun x2 v =>
endE v (
lgE qNoE (zK x0) s fun x3 e4 s =>
lgE qNoE (zK x1) s fun x5 e6 s =>
lgE qNoE (zV (vIaS x3 x5 2)) s fun x7 e8 s =>
lgE qNoE (zV (fa1 x7 0)) s fun x9 e10 s =>
lgE (qLdE x9 1) (ldA x9 take1) s fun x11 e12 s =>
lgE qNoE (zK x0) s fun x13 e14 s =>
lgE qNoE (zK x2) s fun x15 e16 s =>
lgE qNoE (zV (vIaS x13 x15 2)) s fun x17 e18 s =>
lgE qNoE (zV (fa1 x17 0)) s fun x19 e20 s =>
lgE (qLdE x19 1) (ldA x19 take1) s fun x21 e22 s =>
lgE qNoE (zV (bLt x11 x21)) s fun x23 e24 s =>
lgE qNoE (zK x23) s fun x25 e26 s =>
lgE (qGE x25 false qNoE) (zG x25 false (zK x0)) s fun x27 e28 s =>
lgE (qGE x25 false qNoE) (zG x25 false (zK x1)) s fun x29 e30 s =>
lgE (qGE x25 false qNoE) (zG x25 false (zV (vIaS x27 x29 2))) s fun x31 e32 s =>
lgE (qGE x25 false qNoE) (zG x25 false (zV (fa1 x31 0))) s fun x33 e34 s =>
lgE (qGE x25 false (qLdE x33 1)) (zG x25 false (ldA x33 take1)) s fun x35 e36 s =>
lgE (qGE x25 false qNoE) (zG x25 false (zK x0)) s fun x37 e38 s =>
lgE (qGE x25 false qNoE) (zG x25 false (zK x2)) s fun x39 e40 s =>
lgE (qGE x25 false qNoE) (zG x25 false (zV (vIaS x37 x39 2))) s fun x41 e42 s =>
lgE (qGE x25 false qNoE) (zG x25 false (zV (fa1 x41 0))) s fun x43 e44 s =>
lgE (qGE x25 false (qLdE x43 1)) (zG x25 false (ldA x43 take1)) s fun x45 e46 s =>
lgE (qGE x25 false qNoE) (zG x25 false (zV (bEqF x35 x45))) s fun x47 e48 s =>
lgE (qGE x25 false qNoE) (zG x25 false (zK x47)) s fun x49 e50 s =>
lgE (qGE x49 true qNoE) (zG x49 true (zK x0)) s fun x51 e52 s =>
lgE (qGE x49 true qNoE) (zG x49 true (zK x1)) s fun x53 e54 s =>
lgE (qGE x49 true qNoE) (zG x49 true (zV (vIaS x51 x53 2))) s fun x55 e56 s =>
lgE (qGE x49 true qNoE) (zG x49 true (zV (fa1 x55 1))) s fun x57 e58 s =>
lgE (qGE x49 true (qLdE x57 1)) (zG x49 true (ldA x57 take1)) s fun x59 e60 s =>
lgE (qGE x49 true qNoE) (zG x49 true (zK x0)) s fun x61 e62 s =>
lgE (qGE x49 true qNoE) (zG x49 true (zK x2)) s fun x63 e64 s =>
lgE (qGE x49 true qNoE) (zG x49 true (zV (vIaS x61 x63 2))) s fun x65 e66 s =>
lgE (qGE x49 true qNoE) (zG x49 true (zV (fa1 x65 1))) s fun x67 e68 s =>
lgE (qGE x49 true (qLdE x67 1)) (zG x49 true (ldA x67 take1)) s fun x69 e70 s =>
lgE (qGE x49 true qNoE) (zG x49 true (zV (bLt x59 x69))) s fun x71 e72 s =>
lgE (qGE x25 false qNoE) (zG x25 false (zV (vPick x49 x71 cf))) s fun x73 e74 s =>
lgE qNoE (zV (vPick x25 ct x73)) s fun x75 e76 s =>
lgE qNoE (zK x75) s fun x77 e78 s =>
calmE [(4, 9), (16, 21), (28, 33)] [e4, e6, e8, e10, e12, e14, e16, e18, e20, e22, e24, e26, e28, e30, e32, e34, e36, e38, e40, e42, e44, e46, e48, e50, e52, e54, e56, e58, e60, e62, e64, e66, e68, e70, e72, e74, e76, e78] (fun s =>
K x77 s) s)
def F442 : F2 := .fn H442 true
theorem fe442 : feE Tryz.prog ann 442 3 [] = some F442 := by kernel_rfl
/- slices.Clone[[]daguerre/frame.Val,daguerre/frame.Val] -/
def H157 : F2C := fun _ _ v s K =>
pop v fun x0 v =>
endE v (
vNil false .sl x0 fun x1 =>
cnd x1 (K (.nil .sl) s)
(zHbs [] 2 0 eNil s fun x2 s =>
appB 2 8 x2 x0 s fun x3 s =>
K x3 s))
def F157 : F2 := .fn H157 true
theorem fe157 : feE Tryz.prog ann 157 1 [.j []] = some F157 := by kernel_rfl
/- daguerre/class.Field$1 -/
def H319 : F2C := fun _ _ v s K =>
pop v fun x0 v =>
pop v fun x1 v =>
endE v (
zTbox x0 s fun x2 s =>
fa1 x2 0 fun x3 =>
ldA x3 take1 s fun x4 s =>
ldA x1 take1 s fun x5 s =>
bEqF x4 x5 fun x6 =>
K x6 s)
def F319 : F2 := .fn H319 true
theorem fe319 : feE Tryz.prog ann 319 2 [] = some F319 := by kernel_rfl
/- daguerre/link.Face -/
def H220 : F2C := fun c _ v s K =>
pop v fun x0 v =>
pop v fun x1 v =>
pop v fun x2 v =>
endE v (
boxD false [.str [], .nil .sl, .str [], .bool false, .bool false, .int .i64 0, .int .i64 0, .nil .sl, .nil .sl, .nil .sl] s fun x3 s =>
c (.mk .d0 .d0 .d6 .d7) [x0, x1] s fun x4 s =>
vExt x4 0 fun x5 =>
vExt x4 1 fun _ =>
boxD false [.str [], .str [], .bool false, .nil .sl, .nil .sl, .nil .sl] s fun x7 s =>
zSt x7 x5 6 s fun _ s =>
fa1 x7 2 fun x9 =>
ldA x9 take1 s fun x10 s =>
vGen (.un .not (.c x10)) fun x11 =>
cnd x11 (none)
(zHbs [.str []] 1 1 (eCons 0 1 x1 eNil) s fun x12 s =>
c (.mk .d0 .d3 .d0 .d2) [x0, x1] s fun x13 s =>
appB 1 16 x12 x13 s fun x14 s =>
c (.mk .d0 .d1 .d3 .d3) [x0, x14, x2, (.fn 294 [] [])] s fun x15 s =>
vExt x15 0 fun x16 =>
vExt x15 1 fun x17 =>
vExt x15 2 fun x18 =>
zSt x3 x17 10 s fun _ s =>
ldA x3 (takeN 10) s fun x20 s => K (.tup [x16, x20, x18]) s))
def F220 : F2 := .fn H220 true
theorem fe220 : feE Tryz.prog ann 220 3 [.cl] = some F220 := by kernel_rfl
/- daguerre/daguerrelaw7.Begun -/
def H320 : F2C := fun c _ v s K =>
endE v (
c (.mk .d0 .d5 .d2 .d5) [] s fun x0 s =>
K x0 s)
def F320 : F2 := .pur H320 true mNo
theorem fe320 : feE Tryz.prog ann 320 0 [] = some F320 := by kernel_rfl
/- (*daguerre/frame.Frame).Method -/
def H321 : F2C := fun _ _ v s K =>
pop v fun x0 v =>
endE v (
vNil false .ptr x0 fun x1 =>
cnd x1 (none)
(vChk x0 fun x2 =>
fa1 x2 0 fun x3 =>
ldA x3 take1 s fun x4 s =>
K x4 s))
def F321 : F2 := .fn H321 true
theorem fe321 : feE Tryz.prog ann 321 1 [.cl] = some F321 := by kernel_rfl
/- (*daguerre/frame.Frame).Depth -/
def H322 : F2C := fun _ _ v s K =>
pop v fun x0 v =>
endE v (
vNil false .ptr x0 fun x1 =>
cnd x1 (none)
(vChk x0 fun x2 =>
fa1 x2 4 fun x3 =>
ldA x3 take1 s fun x4 s =>
vLenS x4 fun x5 =>
K x5 s))
def F322 : F2 := .fn H322 true
theorem fe322 : feE Tryz.prog ann 322 1 [.cl] = some F322 := by kernel_rfl
/- internal/stringslite.TrimPrefix -/
def H309 : F2C := fun c _ v s K =>
pop v fun x0 v =>
pop v fun x1 v =>
endE v (
c (.mk .d0 .d5 .d0 .d5) [x0, x1] s fun x2 s =>
cnd x2 (vLens x1 fun x3 =>
vGen (.sls (.c x0) (some (.c x3)) none) fun x4 =>
K x4 s)
(K x0 s))
def F309 : F2 := .fn H309 true
theorem fe309 : feE Tryz.prog ann 309 2 [.j []] = some F309 := by kernel_rfl
/- (*daguerre/lazy.Machine).throw$1 -/
def H303 : F2C := fun c _ v s K =>
pop v fun x0 v =>
pop v fun x1 v =>
pop v fun x2 v =>
pop v fun x3 v =>
endE v (
zTbox x0 s fun x4 s =>
lgE qNoE (zV (fa1 x4 0)) s fun x5 e6 s =>
lgE (qLdE x5 1) (ldA x5 take1) s fun x7 e8 s =>
lgE (qLdE x1 1) (ldA x1 take1) s fun x9 e10 s =>
lgE qNoE (zV (vChk x9)) s fun x11 e12 s =>
lgE qNoE (zV (fa1 x11 0)) s fun x13 e14 s =>
lgE (qLdE x13 1) (ldA x13 take1) s fun x15 e16 s =>
lgE qNoE (c (.mk .d0 .d0 .d7 .d3) [x15]) s fun x17 e18 s =>
lgE qNoE (zV (bLe x7 x17)) s fun x19 e20 s =>
lgE qNoE (zK x19) s fun x21 e22 s =>
lgE (qGE x21 true (qLdE x1 1)) (zG x21 true (ldA x1 take1)) s fun x23 e24 s =>
lgE (qGE x21 true qNoE) (zG x21 true (zV (vChk x23))) s fun x25 e26 s =>
lgE (qGE x21 true qNoE) (zG x21 true (zV (fa1 x25 0))) s fun x27 e28 s =>
lgE (qGE x21 true (qLdE x27 1)) (zG x21 true (ldA x27 take1)) s fun x29 e30 s =>
lgE (qGE x21 true qNoE) (zG x21 true (c (.mk .d0 .d0 .d7 .d3) [x29])) s fun x31 e32 s =>
lgE (qGE x21 true qNoE) (zG x21 true (zV (fa1 x4 1))) s fun x33 e34 s =>
lgE (qGE x21 true (qLdE x33 1)) (zG x21 true (ldA x33 take1)) s fun x35 e36 s =>
lgE (qGE x21 true qNoE) (zG x21 true (zV (bLt x31 x35))) s fun x37 e38 s =>
lgE qNoE (zV (vPick x21 x37 cf)) s fun x39 e40 s =>
lgE qNoE (zK x39) s fun x41 e42 s =>
lgE (qGE x41 true qNoE) (zG x41 true (zV (fa1 x4 3))) s fun x43 e44 s =>
lgE (qGE x41 true (qLdE x43 1)) (zG x41 true (ldA x43 take1)) s fun x45 e46 s =>
lgE (qGE x41 true qNoE) (zG x41 true (zV (bEqF x45 (.str [])))) s fun x47 e48 s =>
lgE (qGE x41 true qNoE) (zG x41 true (zK x47)) s fun x49 e50 s =>
lgE (qGE x49 false (qLdE x2 1)) (zG x49 false (ldA x2 take1)) s fun x51 e52 s =>
lgE (qGE x49 false qNoE) (zG x49 false (zV (vChk x51))) s fun x53 e54 s =>
lgE (qGE x49 false qNoE) (zG x49 false (zV (fa1 x53 0))) s fun x55 e56 s =>
lgE (qGE x49 false (qLdE x55 1)) (zG x49 false (ldA x55 take1)) s fun x57 e58 s =>
lgE (qGE x49 false (qLdE x3 1)) (zG x49 false (ldA x3 take1)) s fun x59 e60 s =>
lgE (qGE x49 false qNoE) (zG x49 false (zV (fa1 x4 3))) s fun x61 e62 s =>
lgE (qGE x49 false (qLdE x61 1)) (zG x49 false (ldA x61 take1)) s fun x63 e64 s =>
lgE (qGE x49 false qNoE) (zG x49 false (c (.mk .d0 .d1 .d4 .d2) [x57, x59, x63])) s fun x65 e66 s =>
lgE (qGE x41 true qNoE) (zG x41 true (zV (vPick x49 ct x65))) s fun x67 e68 s =>
lgE qNoE (zV (vPick x41 x67 cf)) s fun x69 e70 s =>
lgE qNoE (zK x69) s fun x71 e72 s =>
calmE [(1, 2), (1, 5), (1, 6), (9, 15), (12, 15), (13, 15), (23, 27), (26, 27), (23, 29), (26, 29), (27, 29)] [e6, e8, e10, e12, e14, e16, e18, e20, e22, e24, e26, e28, e30, e32, e34, e36, e38, e40, e42, e44, e46, e48, e50, e52, e54, e56, e58, e60, e62, e64, e66, e68, e70, e72] (fun s =>
K x71 s) s)
def F303 : F2 := .fn H303 true
theorem fe303 : feE Tryz.prog ann 303 4 [] = some F303 := by kernel_rfl
/- (*daguerre/frame.Frame).Clear -/
def H304 : F2C := fun _ _ v s K =>
pop v fun x0 v =>
endE v (
vNil true .ptr x0 fun x1 =>
cnd x1 (vChk x0 fun x2 =>
fa1 x2 4 fun x3 =>
zSt x3 (.nil .sl) 1 s fun _ s =>
K (.tup []) s)
(none))
def F304 : F2 := .fn H304 true
theorem fe304 : feE Tryz.prog ann 304 1 [.cr] = some F304 := by kernel_rfl
/- daguerre/lazy.refer -/
def H239 : F2C := fun _ _ v s K =>
pop v fun x0 v =>
endE v (
boxD false [.bool false, .int .i32 0] s fun x1 s =>
bAdd x0 (ci 1) fun x2 =>
vCv .i32 x2 fun x3 =>
vBld [.bool false, .int .i32 0] (eCons 0 1 ct (eCons 1 1 x3 eNil)) fun x4 =>
zSt x1 x4 2 s fun _ s =>
ldA x1 (takeN 2) s K)
def F239 : F2 := .fn H239 true
theorem fe239 : feE Tryz.prog ann 239 1 [] = some F239 := by kernel_rfl
/- strings.Cut -/
def H323 : F2C := fun c _ v s K =>
pop v fun x0 v =>
pop v fun x1 v =>
endE v (
c (.mk .d0 .d5 .d2 .d6) [x0, x1] s fun x2 s =>
vExt x2 0 fun x3 =>
vExt x2 1 fun x4 =>
vExt x2 2 fun x5 =>
K (.tup [x3, x4, x5]) s)
def F323 : F2 := .fn H323 true
theorem fe323 : feE Tryz.prog ann 323 2 [] = some F323 := by kernel_rfl
/- daguerre/daguerrelaw9.begun -/
def H324 : F2C := fun c _ v s K =>
endE v (
c (.mk .d0 .d0 .d3 .d6) [] s fun x0 s =>
c (.mk .d0 .d0 .d4 .d4) [x0] s fun x1 s =>
vExt x1 0 fun x2 =>
vExt x1 1 fun x3 =>
bEqT x3 (ci 0) fun x4 =>
cnd x4 (none)
(zHbs [.str []] 1 1 (eCons 0 1 (.str [84]) eNil) s fun x5 s =>
zHbs [.str []] 1 1 (eCons 0 1 (.str [65, 97]) eNil) s fun x6 s =>
vBld [.int .i64 0, .nil .sl, .nil .sl] (eCons 1 1 x5 (eCons 2 1 x6 eNil)) fun x7 =>
boxD false [.int .i64 0, .nil .sl, .nil .sl] s fun x8 s =>
zSt x8 x7 3 s fun _ s =>
c (.mk .d0 .d3 .d4 .d7) [] s fun x10 s =>
gK x10 true x2 fun x11 =>
gH x10 true (c (.mk .d0 .d1 .d3 .d7) [x11, (.str [78])]) s fun x12 s =>
vPick x10 x12 cf fun x13 =>
gK x13 true x2 fun x14 =>
gH x13 true (c (.mk .d0 .d1 .d3 .d7) [x14, (.str [90, 122])]) s fun x15 s =>
gV x13 true (vGen (.un .not (.c x15))) fun x16 =>
vPick x13 x16 cf fun x17 =>
gK x17 true x2 fun x18 =>
gH x17 true (c (.mk .d0 .d4 .d3 .d7) [x18, (.str [78]), (.str [65, 97])]) s fun x19 s =>
vPick x17 x19 cf fun x20 =>
gK x20 true x2 fun x21 =>
gH x20 true (c (.mk .d0 .d4 .d3 .d7) [x21, (.str [65, 97]), (.str [78])]) s fun x22 s =>
gV x20 true (vGen (.un .not (.c x22))) fun x23 =>
vPick x20 x23 cf fun x24 =>
gK x24 true x2 fun x25 =>
gH x24 true (c (.mk .d0 .d4 .d3 .d7) [x25, (.str [66, 98]), (.str [65, 97])]) s fun x26 s =>
vPick x24 x26 cf fun x27 =>
gK x27 true x2 fun x28 =>
gH x27 true (c (.mk .d0 .d4 .d3 .d7) [x28, (.str [79, 98, 106, 101, 99, 116]), (.str [70, 97, 99, 101])]) s fun x29 s =>
vPick x27 x29 cf fun x30 =>
gK x30 true x2 fun x31 =>
gH x30 true (c (.mk .d0 .d4 .d3 .d7) [x31, (.str [73]), (.str [84])]) s fun x32 s =>
vPick x30 x32 cf fun x33 =>
gK x33 true x2 fun x34 =>
gH x33 true (c (.mk .d0 .d4 .d3 .d7) [x34, (.str [84]), (.str [73])]) s fun x35 s =>
gV x33 true (vGen (.un .not (.c x35))) fun x36 =>
vPick x33 x36 cf fun x37 =>
gK x37 true x2 fun x38 =>
gH x37 true (c (.mk .d0 .d4 .d4 .d1) [x38, (.nil .sl), (.nil .sl)]) s fun x39 s =>
vPick x37 x39 cf fun x40 =>
gK x40 true x2 fun x41 =>
gH x40 true (ldA x8 (takeN 3)) s fun x42 s =>
gH x40 true (zBsl [.str []] 1 1 (eCons 0 1 (.str [73]) eNil)) s fun x43 s =>
gH x40 true (zBsl [.str []] 1 1 (eCons 0 1 (.str [66, 98]) eNil)) s fun x44 s =>
gH x40 true (c (.mk .d0 .d3 .d2 .d4) [x41, x42, x43, x44]) s fun x45 s =>
vPick x40 x45 cf fun x46 =>
gK x46 true x2 fun x47 =>
gH x46 true (ldA x8 (takeN 3)) s fun x48 s =>
gH x46 true (zBsl [.str []] 1 1 (eCons 0 1 (.str [66, 98]) eNil)) s fun x49 s =>
gH x46 true (c (.mk .d0 .d3 .d2 .d4) [x47, x48, (.nil .sl), x49]) s fun x50 s =>
gV x46 true (vGen (.un .not (.c x50))) fun x51 =>
vPick x46 x51 cf fun x52 =>
K x52 s))
def F324 : F2 := .pur H324 true mNo
theorem fe324 : feE Tryz.prog ann 324 0 [.cl] = some F324 := by kernel_rfl
def M324 (k : Nat) : F2 := .pur H324 true (Bool.rec mNo (mVal (.bool true)) (Nat.ble 7 k))
/- daguerre/class.types$1 -/
def H310 : F2C := fun c _ v s K =>
pop v fun x0 v =>
pop v fun x1 v =>
endE v (
ldA x1 take1 s fun x2 s =>
zCallV c x2 [x0] s fun x3 s =>
vGen (.un .not (.c x3)) fun x4 =>
K x4 s)
def F310 : F2 := .fn H310 true
theorem fe310 : feE Tryz.prog ann 310 2 [] = some F310 := by kernel_rfl
/- daguerre/class.instructions$1 -/
def H311 : F2C := fun c _ v s K =>
pop v fun x0 v =>
pop v fun x1 v =>
endE v (
zTbox x0 s fun x2 s =>
ldA x2 (takeN 4) s fun x3 s =>
c (.mk .d0 .d4 .d7 .d0) [x3] s fun x4 s =>
vGen (.un .not (.c x4)) fun x5 =>
gV x5 false (fa1 x2 0) fun x6 =>
gH x5 false (ldA x6 take1) s fun x7 s =>
gH x5 false (c (.mk .d0 .d1 .d4 .d7) [x7]) s fun x8 s =>
gK x5 false x8 fun x9 =>
gV x9 true (fa1 x2 1) fun x10 =>
gH x9 true (ldA x10 take1) s fun x11 s =>
gH x9 true (ldA x1 take1) s fun x12 s =>
gV x9 true (bGe x11 x12) fun x13 =>
gV x5 false (vPick x9 x13 cf) fun x14 =>
vPick x5 ct x14 fun x15 =>
K x15 s)
def F311 : F2 := .fn H311 true
theorem fe311 : feE Tryz.prog ann 311 2 [] = some F311 := by kernel_rfl
/- daguerre/class.slot -/
def H313 : F2C := fun c _ v s K =>
pop v fun x0 v =>
endE v (
bEqF x0 (.str [73]) fun x1 =>
gK x1 false x0 fun x2 =>
gV x1 false (bEqF x2 (.str [78])) fun x3 =>
vPick x1 ct x3 fun x4 =>
gK x4 false x0 fun x5 =>
gV x4 false (bEqF x5 (.str [84])) fun x6 =>
vPick x4 ct x6 fun x7 =>
gK x7 false x0 fun x8 =>
gH x7 false (c (.mk .d0 .d1 .d6 .d5) [x8]) s fun x9 s =>
vPick x7 ct x9 fun x10 =>
K x10 s)
def F313 : F2 := .fn H313 true
theorem fe313 : feE Tryz.prog ann 313 1 [] = some F313 := by kernel_rfl
/- daguerre/class.traps$1 -/
def H314 : F2C := fun c _ v s K =>
pop v fun x0 v =>
pop v fun x1 v =>
endE v (
zTbox x0 s fun x2 s =>
fa1 x2 0 fun x3 =>
ldA x3 take1 s fun x4 s =>
bLt x4 (ci 0) fun x5 =>
gV x5 false (fa1 x2 0) fun x6 =>
gH x5 false (ldA x6 take1) s fun x7 s =>
gV x5 false (fa1 x2 1) fun x8 =>
gH x5 false (ldA x8 take1) s fun x9 s =>
gV x5 false (bGe x7 x9) fun x10 =>
vPick x5 ct x10 fun x11 =>
gV x11 false (fa1 x2 1) fun x12 =>
gH x11 false (ldA x12 take1) s fun x13 s =>
gV x11 false (fa1 x1 7) fun x14 =>
gH x11 false (ldA x14 take1) s fun x15 s =>
gV x11 false (vLenS x15) fun x16 =>
gV x11 false (bGt x13 x16) fun x17 =>
vPick x11 ct x17 fun x18 =>
gV x18 false (fa1 x2 2) fun x19 =>
gH x18 false (ldA x19 take1) s fun x20 s =>
gV x18 false (fa1 x1 7) fun x21 =>
gH x18 false (ldA x21 take1) s fun x22 s =>
gV x18 false (vLenS x22) fun x23 =>
gV x18 false (bSub x23 (ci 1)) fun x24 =>
gH x18 false (c (.mk .d0 .d4 .d1 .d6) [x20, (ci 0), x24]) s fun x25 s =>
gV x18 false (vGen (.un .not (.c x25))) fun x26 =>
vPick x18 ct x26 fun x27 =>
gV x27 false (fa1 x2 3) fun x28 =>
gH x27 false (ldA x28 take1) s fun x29 s =>
gV x27 false (bEqT x29 (.str [])) fun x30 =>
gK x27 false x30 fun x31 =>
gV x31 true (fa1 x2 3) fun x32 =>
gH x31 true (ldA x32 take1) s fun x33 s =>
gH x31 true (c (.mk .d0 .d2 .d6 .d1) [x33]) s fun x34 s =>
gV x31 true (vGen (.un .not (.c x34))) fun x35 =>
gV x27 false (vPick x31 x35 cf) fun x36 =>
vPick x27 ct x36 fun x37 =>
K x37 s)
def F314 : F2 := .fn H314 true
theorem fe314 : feE Tryz.prog ann 314 2 [] = some F314 := by kernel_rfl
/- math/bits.Len64 -/
def H340 : F2C := fun _ _ v s K =>
pop v fun x0 v =>
endE v (
bGe x0 (.int .u64 4294967296) fun x1 =>
cnd x1 (none)
(bGe x0 (.int .u64 65536) fun x2 =>
cnd x2 (none)
(bGe x0 (.int .u64 256) fun x3 =>
cnd x3 (none)
(vCv .u8 x0 fun x4 =>
vIxs (.str [0, 1, 2, 2, 3, 3, 3, 3, 4, 4, 4, 4, 4, 4, 4, 4, 5, 5, 5, 5, 5, 5, 5, 5, 5, 5, 5, 5, 5, 5, 5, 5, 6, 6, 6, 6, 6, 6, 6, 6, 6, 6, 6, 6, 6, 6, 6, 6, 6, 6, 6, 6, 6, 6, 6, 6, 6, 6, 6, 6, 6, 6, 6, 6, 7, 7, 7, 7, 7, 7, 7, 7, 7, 7, 7, 7, 7, 7, 7, 7, 7, 7, 7, 7, 7, 7, 7, 7, 7, 7, 7, 7, 7, 7, 7, 7, 7, 7, 7, 7, 7, 7, 7, 7, 7, 7, 7, 7, 7, 7, 7, 7, 7, 7, 7, 7, 7, 7, 7, 7, 7, 7, 7, 7, 7, 7, 7, 7, 8, 8, 8, 8, 8, 8, 8, 8, 8, 8, 8, 8, 8, 8, 8, 8, 8, 8, 8, 8, 8, 8, 8, 8, 8, 8, 8, 8, 8, 8, 8, 8, 8, 8, 8, 8, 8, 8, 8, 8, 8, 8, 8, 8, 8, 8, 8, 8, 8, 8, 8, 8, 8, 8, 8, 8, 8, 8, 8, 8, 8, 8, 8, 8, 8, 8, 8, 8, 8, 8, 8, 8, 8, 8, 8, 8, 8, 8, 8, 8, 8, 8, 8, 8, 8, 8, 8, 8, 8, 8, 8, 8, 8, 8, 8, 8, 8, 8, 8, 8, 8, 8, 8, 8, 8, 8, 8, 8, 8, 8, 8, 8, 8, 8, 8, 8, 8, 8, 8, 8, 8, 8, 8, 8, 8, 8, 8, 8]) x4 fun x5 =>
vCv .i64 x5 fun x6 =>
bAdd (ci 0) x6 fun x7 =>
K x7 s))))
def F340 : F2 := .fn H340 true
theorem fe340 : feE Tryz.prog ann 340 1 [.cl, .cl, .cl] = some F340 := by kernel_rfl
/- slices.insertionSortOrdered[string] -/
def H330 : F2C := fun _ k v s K =>
pop v fun _ v =>
pop v fun x1 v =>
pop v fun x2 v =>
endE v (
bAdd x1 (ci 1) fun x3 =>
jn (fun _ s =>
K (.tup []) s) fun K4 =>
loopE k (fun _ v s =>
pop v fun x6 _ =>
bLt x6 x2 fun x7 =>
cnd x7 (none)
(K4 [] s)) [x3] s)
def F330 : F2 := .fn H330 true
theorem fe330 : feE Tryz.prog ann 330 3 [.j [], .j [6], .cl, .j [], .j [], .j [7], .ch, .j []] = some F330 := by kernel_rfl
/- daguerre/link.Face$1 -/
def H294 : F2C := fun _ _ v s K =>
pop v fun x0 v =>
endE v (
zTbox x0 s fun _ s =>
K ct s)
def F294 : F2 := .fn H294 true
theorem fe294 : feE Tryz.prog ann 294 1 [] = some F294 := by kernel_rfl
/- daguerre/daguerrelaw7.begun -/
def H341 : F2C := fun c _ v s K =>
endE v (
c (.mk .d0 .d0 .d3 .d6) [] s fun x0 s =>
c (.mk .d0 .d0 .d4 .d4) [x0] s fun x1 s =>
vExt x1 0 fun x2 =>
vExt x1 1 fun x3 =>
c (.mk .d0 .d0 .d1 .d5) [(.str [79, 98, 106, 101, 99, 116])] s fun x4 s =>
zBsl [.str [], .str [], .bool false, .nil .sl, .nil .sl, .nil .sl] 6 1 (eCons 0 6 x4 eNil) s fun x5 s =>
c (.mk .d0 .d0 .d4 .d4) [x5] s fun x6 s =>
vExt x6 0 fun _ =>
vExt x6 1 fun x8 =>
bEqT x3 (ci 0) fun x9 =>
gK x9 false x2 fun x10 =>
gV x9 false (vNil false .ptr x10) fun x11 =>
vPick x9 ct x11 fun x12 =>
gH x12 false (c (.mk .d0 .d1 .d5 .d3) []) s fun x13 s =>
gV x12 false (vLenS x13) fun x14 =>
gV x12 false (bEqT x14 (ci 10)) fun x15 =>
vPick x12 ct x15 fun x16 =>
cnd x16 (none)
(c (.mk .d0 .d1 .d2 .d7) [x2] s fun x17 s =>
c (.mk .d0 .d5 .d4 .d0) [] s fun x18 s =>
gK x18 true x8 fun x19 =>
gV x18 true (bEqF x19 (ci 1)) fun x20 =>
vPick x18 x20 cf fun x21 =>
gK x21 true x17 fun x22 =>
gV x21 true (vLenS x22) fun x23 =>
gV x21 true (bEqF x23 (ci 13)) fun x24 =>
vPick x21 x24 cf fun x25 =>
gK x25 true x17 fun x26 =>
gV x25 true (vIaS x26 (ci 12) 1) fun x27 =>
gH x25 true (ldA x27 take1) s fun x28 s =>
gV x25 true (bEqF x28 (.str [66, 98])) fun x29 =>
vPick x25 x29 cf fun x30 =>
gK x30 true x2 fun x31 =>
gH x30 true (c (.mk .d0 .d1 .d3 .d4) [x31, (.str [66, 98])]) s fun x32 s =>
gH x30 true (zBsl [.str [], .str [], .str []] 1 3 (eCons 0 1 (.str [66, 98]) (eCons 1 1 (.str [65, 97]) (eCons 2 1 (.str [79, 98, 106, 101, 99, 116]) eNil)))) s fun x33 s =>
gH x30 true (c (.mk .d0 .d0 .d1 .d1) [x32, x33]) s fun x34 s =>
vPick x30 x34 cf fun x35 =>
gK x35 true x2 fun x36 =>
gH x35 true (c (.mk .d0 .d3 .d0 .d2) [x36, (.str [66, 98])]) s fun x37 s =>
gH x35 true (zBsl [.str []] 1 1 (eCons 0 1 (.str [70, 97, 99, 101]) eNil)) s fun x38 s =>
gH x35 true (c (.mk .d0 .d0 .d1 .d1) [x37, x38]) s fun x39 s =>
vPick x35 x39 cf fun x40 =>
gK x40 true x2 fun x41 =>
gH x40 true (c (.mk .d0 .d1 .d4 .d2) [x41, (.str [66, 98]), (.str [70, 97, 99, 101])]) s fun x42 s =>
vPick x40 x42 cf fun x43 =>
gK x43 true x2 fun x44 =>
gH x43 true (c (.mk .d0 .d1 .d4 .d2) [x44, (.str [91, 66, 98]), (.str [91, 65, 97])]) s fun x45 s =>
vPick x43 x45 cf fun x46 =>
gK x46 true x2 fun x47 =>
gH x46 true (c (.mk .d0 .d1 .d4 .d2) [x47, (.str [91, 65, 97]), (.str [91, 66, 98])]) s fun x48 s =>
gV x46 true (vGen (.un .not (.c x48))) fun x49 =>
vPick x46 x49 cf fun x50 =>
gK x50 true x2 fun x51 =>
gH x50 true (c (.mk .d0 .d1 .d4 .d2) [x51, (.str [91, 73]), (.str [79, 98, 106, 101, 99, 116])]) s fun x52 s =>
vPick x50 x52 cf fun x53 =>
gK x53 true x2 fun x54 =>
gH x53 true (c (.mk .d0 .d1 .d4 .d2) [x54, (.str [73]), (.str [79, 98, 106, 101, 99, 116])]) s fun x55 s =>
gV x53 true (vGen (.un .not (.c x55))) fun x56 =>
vPick x53 x56 cf fun x57 =>
K x57 s))
def F341 : F2 := .pur H341 true mNo
theorem fe341 : feE Tryz.prog ann 341 0 [.cl] = some F341 := by kernel_rfl
def M341 (k : Nat) : F2 := .pur H341 true (Bool.rec mNo (mVal (.bool true)) (Nat.ble 5 k))
/- internal/stringslite.HasPrefix -/
def H325 : F2C := fun _ _ v s K =>
pop v fun x0 v =>
pop v fun x1 v =>
endE v (
vLens x0 fun x2 =>
vLens x1 fun x3 =>
bGe x2 x3 fun x4 =>
gK x4 true x0 fun x5 =>
gK x4 true x1 fun x6 =>
gV x4 true (vLens x6) fun x7 =>
gV x4 true (vGen (.sls (.c x5) none (some (.c x7)))) fun x8 =>
gK x4 true x1 fun x9 =>
gV x4 true (bEqF x8 x9) fun x10 =>
vPick x4 x10 cf fun x11 =>
K x11 s)
def F325 : F2 := .fn H325 true
theorem fe325 : feE Tryz.prog ann 325 2 [] = some F325 := by kernel_rfl
/- internal/stringslite.Cut -/
def H342 : F2C := fun c _ v s K =>
pop v fun x0 v =>
pop v fun x1 v =>
endE v (
c (.mk .d0 .d5 .d4 .d1) [x0, x1] s fun x2 s =>
bGe x2 (ci 0) fun x3 =>
cnd x3 (lgE qNoE (zK x0) s fun x4 e5 s =>
lgE qNoE (zK x2) s fun x6 e7 s =>
lgE qNoE (zV (vGen (.sls (.c x4) none (some (.c x6))))) s fun x8 e9 s =>
lgE qNoE (zK x0) s fun x10 e11 s =>
lgE qNoE (zK x2) s fun x12 e13 s =>
lgE qNoE (zK x1) s fun x14 e15 s =>
lgE qNoE (zV (vLens x14)) s fun x16 e17 s =>
lgE qNoE (zV (bAdd x12 x16)) s fun x18 e19 s =>
lgE qNoE (zV (vGen (.sls (.c x10) (some (.c x18)) none))) s fun x20 e21 s =>
lgE qNoE (zK x8) s fun x22 e23 s =>
lgE qNoE (zK x20) s fun x24 e25 s =>
lgE qNoE (zK ct) s fun x26 e27 s =>
calmE [(2, 6), (2, 8)] [e5, e7, e9, e11, e13, e15, e17, e19, e21, e23, e25, e27] (fun s =>
K (.tup [x22, x24, x26]) s) s)
(none))
def F342 : F2 := .fn H342 true
theorem fe342 : feE Tryz.prog ann 342 2 [.cr] = some F342 := by kernel_rfl
/- daguerre/op.May -/
def H312 : F2C := fun c _ v s K =>
pop v fun x0 v =>
endE v (
zTbox x0 s fun x1 s =>
fa1 x1 0 fun x2 =>
ldA x2 take1 s fun x3 s =>
c (.mk .d0 .d5 .d0 .d6) [x3] s fun x4 s =>
gV x4 true (fa1 x1 0) fun x5 =>
gH x4 true (ldA x5 take1) s fun x6 s =>
gV x4 true (fa1 x1 1) fun x7 =>
gH x4 true (ldA x7 take1) s fun x8 s =>
gH x4 true (c (.mk .d0 .d5 .d0 .d7) [x6, x8]) s fun x9 s =>
vPick x4 x9 cf fun x10 =>
gV x10 true (fa1 x1 0) fun x11 =>
gH x10 true (ldA x11 take1) s fun x12 s =>
gV x10 true (fa1 x1 2) fun x13 =>
gH x10 true (ldA x13 take1) s fun x14 s =>
gH x10 true (c (.mk .d0 .d5 .d1 .d0) [x12, x14]) s fun x15 s =>
vPick x10 x15 cf fun x16 =>
gV x16 true (fa1 x1 0) fun x17 =>
gH x16 true (ldA x17 take1) s fun x18 s =>
gV x16 true (fa1 x1 3) fun x19 =>
gH x16 true (ldA x19 take1) s fun x20 s =>
gH x16 true (c (.mk .d0 .d5 .d1 .d1) [x18, x20]) s fun x21 s =>
vPick x16 x21 cf fun x22 =>
K x22 s)
def F312 : F2 := .fn H312 true
theorem fe312 : feE Tryz.prog ann 312 1 [] = some F312 := by kernel_rfl
/- daguerre/daguerrelaw6.Begun -/
def H352 : F2C := fun c _ v s K =>
endE v (
c (.mk .d0 .d5 .d4 .d3) [] s fun x0 s =>
K x0 s)
def F352 : F2 := .pur H352 true mNo
theorem fe352 : feE Tryz.prog ann 352 0 [] = some F352 := by kernel_rfl
/- internal/stringslite.Index -/
def H353 : F2C := fun c k v s K =>
pop v fun x0 v =>
pop v fun x1 v =>
endE v (
vLens x1 fun x2 =>
jn (fun _ s =>
vIxs x1 (ci 0) fun _ =>
vIxs x1 (ci 1) fun _ =>
vLens x0 fun x6 =>
bSub x6 x2 fun x7 =>
bAdd x7 (ci 1) fun x8 =>
jn (fun _ s =>
K (.int .i64 (-1)) s) fun _ =>
loopE k (fun _ v _ =>
pop v fun x11 _ =>
bLt x11 x8 fun _ =>
none) [(ci 0)] s) fun _ =>
bEqF x2 (ci 0) fun x13 =>
gK x13 false x1 fun x14 =>
gK x13 false x0 fun x15 =>
gV x13 false (bEqF x14 x15) fun x16 =>
vPick x13 ct x16 fun x17 =>
cnd x17 (none)
(bEqF x2 (ci 1) fun x18 =>
cnd x18 (vIxs x1 (ci 0) fun x19 =>
c (.mk .d0 .d5 .d4 .d4) [x0, x19] s fun x20 s =>
K x20 s)
(none)))
def F353 : F2 := .fn H353 true
theorem fe353 : feE Tryz.prog ann 353 2 [.j [], .cl, .cr, .j [], .j [8], .ch, .j [8], .ch, .ch, .ch] = some F353 := by kernel_rfl
/- daguerre/op.known -/
def H326 : F2C := fun c _ v s K =>
pop v fun x0 v =>
endE v (
c (.mk .d0 .d3 .d2 .d3) [x0, (ci 1), (ci 61)] s fun x1 s =>
K x1 s)
def F326 : F2 := .fn H326 true
theorem fe326 : feE Tryz.prog ann 326 1 [] = some F326 := by kernel_rfl
/- daguerre/op.mayA -/
def H327 : F2C := fun c _ v s K =>
pop v fun x0 v =>
pop v fun x1 v =>
endE v (
jn (fun _ s =>
bEqF x1 (ci 0) fun x3 =>
K x3 s) fun K2 =>
bEqF x0 (ci 1) fun x4 =>
cnd x4 (c (.mk .d0 .d3 .d2 .d3) [x1, (.int .i64 (-2147483648)), (ci 2147483647)] s fun x5 s =>
K x5 s)
(bEqF x0 (ci 3) fun x6 =>
gK x6 false x0 fun x7 =>
gV x6 false (bEqF x7 (ci 4)) fun x8 =>
vPick x6 ct x8 fun x9 =>
cnd x9 (c (.mk .d0 .d3 .d2 .d3) [x1, (ci 0), (ci 15)] s fun x10 s =>
K x10 s)
(c (.mk .d0 .d1 .d4 .d7) [x0] s fun x11 s =>
cnd x11 (c (.mk .d0 .d3 .d2 .d3) [x1, (ci 0), (ci 99)] s fun x12 s =>
K x12 s)
(K2 [] s))))
def F327 : F2 := .fn H327 true
theorem fe327 : feE Tryz.prog ann 327 2 [.j [], .j [], .j [], .j []] = some F327 := by kernel_rfl
/- daguerre/op.mayC -/
def H328 : F2C := fun c _ v s K =>
pop v fun x0 v =>
pop v fun x1 v =>
endE v (
jn (fun _ s =>
bEqF x1 (.str []) fun x3 =>
K x3 s) fun K2 =>
c (.mk .d0 .d5 .d2 .d7) [x0] s fun x4 s =>
cnd x4 (none)
(c (.mk .d0 .d5 .d3 .d0) [x0] s fun x5 s =>
cnd x5 (c (.mk .d0 .d2 .d6 .d1) [x1] s fun x6 s =>
K x6 s)
(K2 [] s)))
def F328 : F2 := .fn H328 true
theorem fe328 : feE Tryz.prog ann 328 2 [.j [], .cl, .j []] = some F328 := by kernel_rfl
/- daguerre/op.mayM -/
def H329 : F2C := fun c _ v s K =>
pop v fun x0 v =>
pop v fun x1 v =>
endE v (
c (.mk .d0 .d5 .d3 .d1) [x0] s fun x2 s =>
cnd x2 (c (.mk .d0 .d2 .d5 .d3) [x1] s fun x3 s =>
gK x3 true x1 fun x4 =>
gV x3 true (bEqT x4 (.str [36, 105, 110, 105, 116])) fun x5 =>
vPick x3 x5 cf fun x6 =>
K x6 s)
(bEqF x1 (.str []) fun x7 =>
K x7 s))
def F329 : F2 := .fn H329 true
theorem fe329 : feE Tryz.prog ann 329 2 [.j []] = some F329 := by kernel_rfl
/- daguerre/daguerrelaw6.begun -/
def H355 : F2C := fun c _ v s K =>
endE v (
c (.mk .d0 .d0 .d1 .d5) [(.str [65, 98])] s fun x0 s =>
boxD false [.str [], .str [], .bool false, .nil .sl, .nil .sl, .nil .sl] s fun x1 s =>
zSt x1 x0 6 s fun _ s =>
ldA x1 (takeN 6) s fun x3 s =>
c (.mk .d0 .d5 .d5 .d0) [x3] s fun x4 s =>
c (.mk .d0 .d5 .d5 .d1) [x4] s fun x5 s =>
vExt x5 0 fun x6 =>
vExt x5 1 fun x7 =>
boxD false [.str [], .str [], .bool false, .nil .sl, .nil .sl, .nil .sl] s fun x8 s =>
zSt x8 x6 6 s fun _ s =>
c (.mk .d0 .d5 .d5 .d1) [(.nil .sl)] s fun x10 s =>
vExt x10 0 fun x11 =>
vExt x10 1 fun x12 =>
boxD false [.str [], .str [], .bool false, .nil .sl, .nil .sl, .nil .sl] s fun x13 s =>
zSt x13 x11 6 s fun _ s =>
c (.mk .d0 .d5 .d5 .d2) [] s fun x15 s =>
gK x15 true x4 fun x16 =>
gV x15 true (vLenS x16) fun x17 =>
gV x15 true (bGt x17 (ci 10)) fun x18 =>
vPick x15 x18 cf fun x19 =>
gK x19 true x4 fun x20 =>
gV x19 true (vIaS x20 (ci 0) 1) fun x21 =>
gH x19 true (ldA x21 take1) s fun x22 s =>
gV x19 true (bEqF x22 (cu 74)) fun x23 =>
vPick x19 x23 cf fun x24 =>
gK x24 true x7 fun x25 =>
gV x24 true (bEqF x25 (ci 0)) fun x26 =>
vPick x24 x26 cf fun x27 =>
gH x27 true (ldA x1 (takeN 6)) s fun x28 s =>
gH x27 true (ldA x8 (takeN 6)) s fun x29 s =>
gH x27 true (c (.mk .d0 .d5 .d5 .d3) [x28, x29]) s fun x30 s =>
vPick x27 x30 cf fun x31 =>
gK x31 true x12 fun x32 =>
gV x31 true (bEqF x32 (ci 1)) fun x33 =>
vPick x31 x33 cf fun x34 =>
gV x34 true (vBld [.str [], .str [], .bool false, .nil .sl, .nil .sl, .nil .sl] eNil) fun x35 =>
gH x34 true (c (.mk .d0 .d5 .d5 .d0) [x35]) s fun x36 s =>
gV x34 true (vLenS x36) fun x37 =>
gV x34 true (bEqF x37 (ci 0)) fun x38 =>
vPick x34 x38 cf fun x39 =>
K x39 s)
def F355 : F2 := .pur H355 true mNo
theorem fe355 : feE Tryz.prog ann 355 0 [] = some F355 := by kernel_rfl
def M355 (k : Nat) : F2 := .pur H355 true (Bool.rec mNo (mVal (.bool true)) (Nat.ble 4 k))
/- internal/stringslite.IndexByte -/
def H356 : F2C := fun c _ v s K =>
pop v fun x0 v =>
pop v fun x1 v =>
endE v (
c (.mk .d0 .d5 .d5 .d4) [x0, x1] s fun x2 s =>
K x2 s)
def F356 : F2 := .fn H356 true
theorem fe356 : feE Tryz.prog ann 356 2 [] = some F356 := by kernel_rfl
/- daguerre/op.typed -/
def H343 : F2C := fun _ _ v s K =>
pop v fun x0 v =>
endE v (
bEqF x0 (ci 50) fun x1 =>
gK x1 false x0 fun x2 =>
gV x1 false (bEqF x2 (ci 56)) fun x3 =>
vPick x1 ct x3 fun x4 =>
gK x4 false x0 fun x5 =>
gV x4 false (bEqF x5 (ci 57)) fun x6 =>
vPick x4 ct x6 fun x7 =>
K x7 s)
def F343 : F2 := .fn H343 true
theorem fe343 : feE Tryz.prog ann 343 1 [] = some F343 := by kernel_rfl
/- daguerre/op.c -/
def H344 : F2C := fun c _ v s K =>
pop v fun x0 v =>
endE v (
bEqF x0 (ci 37) fun x1 =>
gK x1 false x0 fun x2 =>
gH x1 false (c (.mk .d0 .d5 .d3 .d1) [x2]) s fun x3 s =>
vPick x1 ct x3 fun x4 =>
gK x4 false x0 fun x5 =>
gH x4 false (c (.mk .d0 .d5 .d2 .d7) [x5]) s fun x6 s =>
vPick x4 ct x6 fun x7 =>
K x7 s)
def F344 : F2 := .fn H344 true
theorem fe344 : feE Tryz.prog ann 344 1 [] = some F344 := by kernel_rfl
/- daguerre/op.m -/
def H345 : F2C := fun c _ v s K =>
pop v fun x0 v =>
endE v (
c (.mk .d0 .d3 .d2 .d3) [x0, (ci 38), (ci 45)] s fun x1 s =>
K x1 s)
def F345 : F2 := .fn H345 true
theorem fe345 : feE Tryz.prog ann 345 1 [] = some F345 := by kernel_rfl
/- daguerre/file.Encode -/
def H360 : F2C := fun c k v s K =>
pop v fun x0 v =>
endE v (
zTbox x0 s fun x1 s =>
ldA x1 (takeN 6) s fun x2 s =>
c (.mk .d0 .d1 .d2 .d1) [x2] s fun x3 s =>
vGen (.un .not (.c x3)) fun x4 =>
cnd x4 (K (.nil .sl) s)
(vBld [.nil .sl, .nil .sl] eNil fun x5 =>
zBox false x5 s fun x6 s =>
fa1 x1 0 fun x7 =>
ldA x7 take1 s fun x8 s =>
c (.mk .d0 .d5 .d5 .d6) [x6, x8] s fun _ s =>
fa1 x1 1 fun x10 =>
ldA x10 take1 s fun x11 s =>
c (.mk .d0 .d5 .d5 .d6) [x6, x11] s fun _ s =>
fa1 x1 2 fun x13 =>
ldA x13 take1 s fun x14 s =>
c (.mk .d0 .d5 .d5 .d7) [x6, x14] s fun _ s =>
fa1 x1 3 fun x16 =>
ldA x16 take1 s fun x17 s =>
vGen (.mkf 366 [(.c x6)] []) fun x18 =>
c (.mk .d0 .d5 .d6 .d0) [x6, x17, x18] s fun _ s =>
fa1 x1 4 fun x20 =>
ldA x20 take1 s fun x21 s =>
vGen (.mkf 370 [(.c x6)] []) fun x22 =>
c (.mk .d0 .d5 .d6 .d1) [x6, x21, x22] s fun _ s =>
fa1 x1 5 fun x24 =>
ldA x24 take1 s fun x25 s =>
vGen (.mkf 372 [(.c x6)] []) fun x26 =>
c (.mk .d0 .d5 .d6 .d3) [x6, x25, x26] s fun _ s =>
zHbs [.int .u8 0, .int .u8 0, .int .u8 0, .int .u8 0] 1 4 (eCons 0 1 (cu 74) (eCons 1 1 (cu 65) (eCons 2 1 (cu 86) (eCons 3 1 (cu 65) eNil)))) s fun x28 s =>
zCvs x28 s fun x29 s =>
vChk x6 fun x30 =>
fa1 x30 0 fun x31 =>
ldA x31 take1 s fun x32 s =>
vLenS x32 fun x33 =>
c (.mk .d0 .d5 .d6 .d5) [x29, x33] s fun x34 s =>
vChk x6 fun x35 =>
fa1 x35 0 fun x36 =>
ldA x36 take1 s fun x37 s =>
vLenS x37 fun x38 =>
jn (fun v s =>
pop v fun x40 _ =>
vChk x6 fun x41 =>
fa1 x41 1 fun x42 =>
ldA x42 take1 s fun x43 s =>
appB 1 1 x40 x43 s fun x44 s =>
vLenS x44 fun x45 =>
bGt x45 (ci 6000) fun x46 =>
cnd x46 (none)
(K x44 s)) fun K39 =>
loopE k (fun K47 v s =>
pop v fun x48 v =>
pop v fun x49 _ =>
bLt x48 x38 fun x50 =>
cnd x50 (jn (fun v s =>
pop v fun x52 _ =>
bAdd x48 (ci 1) fun x53 =>
K47 [x53, x52] s) fun K51 =>
vIaS x37 x48 1 fun x54 =>
ldA x54 take1 s fun x55 s =>
c (.mk .d0 .d5 .d6 .d6) [x49, x55] s fun x56 s =>
K51 [x56] s)
(K39 [x49] s)) [(ci 0), x34] s))
def F360 : F2 := .fn H360 true
theorem fe360 : feE Tryz.prog ann 360 1 [.j [], .j [4], .j [55, 4], .j [], .j [4], .cl] = some F360 := by kernel_rfl
/- daguerre/file.Decode -/
def H361 : F2C := fun c _ v s K =>
pop v fun x0 v =>
endE v (
boxD false [.str [], .str [], .bool false, .nil .sl, .nil .sl, .nil .sl] s fun x1 s =>
vLenS x0 fun x2 =>
bGt x2 (ci 6000) fun x3 =>
cnd x3 (none)
(b2sA x0 s fun x4 s =>
c (.mk .d0 .d5 .d6 .d7) [x4, (.str [74, 65, 86, 65])] s fun x5 s =>
vGen (.un .not (.c x5)) fun x6 =>
cnd x6 (vBld [.str [], .str [], .bool false, .nil .sl, .nil .sl, .nil .sl] eNil fun x7 =>
zSt x1 x7 6 s fun _ s =>
ldA x1 (takeN 6) s fun x9 s => K (.tup [x9, (ci 1)]) s)
(vSlt x0 (eX (ci 4)) eN 1 fun x10 =>
vBld [.nil .sl, .nil .sl, .bool false] (eCons 1 1 x10 eNil) fun x11 =>
zBox false x11 s fun x12 s =>
vGen (.mkf 377 [(.c x12)] []) fun x13 =>
c (.mk .d0 .d5 .d7 .d0) [x12, x13] s fun x14 s =>
vChk x12 fun x15 =>
fa1 x15 0 fun x16 =>
zSt x16 x14 1 s fun _ s =>
c (.mk .d0 .d5 .d7 .d2) [x12] s fun x18 s =>
c (.mk .d0 .d5 .d7 .d2) [x12] s fun x19 s =>
c (.mk .d0 .d5 .d7 .d3) [x12] s fun x20 s =>
vGen (.mkf 378 [(.c x12)] []) fun x21 =>
c (.mk .d0 .d5 .d7 .d0) [x12, x21] s fun x22 s =>
vBld [.str [], .str [], .bool false, .nil .sl, .nil .sl, .nil .sl] (eCons 0 1 x18 (eCons 1 1 x19 (eCons 2 1 x20 (eCons 3 1 x22 eNil)))) fun x23 =>
boxD false [.str [], .str [], .bool false, .nil .sl, .nil .sl, .nil .sl] s fun x24 s =>
zSt x24 x23 6 s fun _ s =>
vGen (.mkf 381 [(.c x12)] []) fun x26 =>
c (.mk .d0 .d5 .d7 .d4) [x12, x26] s fun x27 s =>
vGen (.mkf 383 [(.c x12)] []) fun x28 =>
c (.mk .d0 .d5 .d7 .d6) [x12, x28] s fun x29 s =>
fa1 x24 4 fun x30 =>
zSt x30 x27 1 s fun _ s =>
fa1 x24 5 fun x32 =>
zSt x32 x29 1 s fun _ s =>
ldA x24 (takeN 6) s fun x34 s =>
c (.mk .d0 .d5 .d5 .d0) [x34] s fun x35 s =>
vChk x12 fun x36 =>
fa1 x36 2 fun x37 =>
ldA x37 take1 s fun x38 s =>
gK x38 false x35 fun x39 =>
gV x38 false (vNil false .sl x39) fun x40 =>
vPick x38 ct x40 fun x41 =>
gK x41 false x35 fun x42 =>
gK x41 false x0 fun x43 =>
gH x41 false (c (.mk .d0 .d6 .d0 .d0) [x42, x43]) s fun x44 s =>
gV x41 false (vGen (.un .not (.c x44))) fun x45 =>
vPick x41 ct x45 fun x46 =>
cnd x46 (none)
(ldA x24 (takeN 6) s fun x47 s =>
zSt x1 x47 6 s fun _ s =>
ldA x1 (takeN 6) s fun x49 s => K (.tup [x49, (ci 0)]) s))))
def F361 : F2 := .fn H361 true
theorem fe361 : feE Tryz.prog ann 361 1 [.cl, .j [], .cl] = some F361 := by kernel_rfl
/- daguerre/daguerrelaw5.Begun -/
def H362 : F2C := fun c _ v s K =>
endE v (
c (.mk .d0 .d6 .d0 .d1) [] s fun x0 s =>
K x0 s)
def F362 : F2 := .pur H362 true mNo
theorem fe362 : feE Tryz.prog ann 362 0 [] = some F362 := by kernel_rfl
/- daguerre/daguerreref3.EqClass -/
def H363 : F2C := fun c k v s K =>
pop v fun x0 v =>
pop v fun x1 v =>
endE v (
zTbox x0 s fun x2 s =>
zTbox x1 s fun x3 s =>
fa1 x2 0 fun x4 =>
ldA x4 take1 s fun x5 s =>
fa1 x3 0 fun x6 =>
ldA x6 take1 s fun x7 s =>
bEqT x5 x7 fun x8 =>
gV x8 false (fa1 x2 1) fun x9 =>
gH x8 false (ldA x9 take1) s fun x10 s =>
gV x8 false (fa1 x3 1) fun x11 =>
gH x8 false (ldA x11 take1) s fun x12 s =>
gV x8 false (bEqT x10 x12) fun x13 =>
vPick x8 ct x13 fun x14 =>
gV x14 false (fa1 x2 2) fun x15 =>
gH x14 false (ldA x15 take1) s fun x16 s =>
gV x14 false (fa1 x3 2) fun x17 =>
gH x14 false (ldA x17 take1) s fun x18 s =>
gV x14 false (vBeq true x16 x18) fun x19 =>
vPick x14 ct x19 fun x20 =>
gV x20 false (fa1 x2 3) fun x21 =>
gH x20 false (ldA x21 take1) s fun x22 s =>
gV x20 false (fa1 x3 3) fun x23 =>
gH x20 false (ldA x23 take1) s fun x24 s =>
gH x20 false (c (.mk .d0 .d0 .d1 .d1) [x22, x24]) s fun x25 s =>
gV x20 false (vGen (.un .not (.c x25))) fun x26 =>
vPick x20 ct x26 fun x27 =>
gV x27 false (fa1 x2 4) fun x28 =>
gH x27 false (ldA x28 take1) s fun x29 s =>
gV x27 false (vLenS x29) fun x30 =>
gV x27 false (fa1 x3 4) fun x31 =>
gH x27 false (ldA x31 take1) s fun x32 s =>
gV x27 false (vLenS x32) fun x33 =>
gV x27 false (bEqT x30 x33) fun x34 =>
vPick x27 ct x34 fun x35 =>
gV x35 false (fa1 x2 5) fun x36 =>
gH x35 false (ldA x36 take1) s fun x37 s =>
gV x35 false (vLenS x37) fun x38 =>
gV x35 false (fa1 x3 5) fun x39 =>
gH x35 false (ldA x39 take1) s fun x40 s =>
gV x35 false (vLenS x40) fun x41 =>
gV x35 false (bEqT x38 x41) fun x42 =>
vPick x35 ct x42 fun x43 =>
cnd x43 (none)
(jn (fun _ s =>
jn (fun _ s =>
K ct s) fun K45 =>
loopE k (fun K46 v s =>
pop v fun x47 _ =>
fa1 x2 5 fun x48 =>
ldA x48 take1 s fun x49 s =>
vLenS x49 fun x50 =>
bLt x47 x50 fun x51 =>
cnd x51 (jn (fun _ s =>
bAdd x47 (ci 1) fun x53 =>
K46 [x53] s) fun K52 =>
lgE qNoE (zV (fa1 x2 5)) s fun x54 e55 s =>
lgE (qLdE x54 1) (ldA x54 take1) s fun x56 e57 s =>
lgE qNoE (zK x47) s fun x58 e59 s =>
lgE qNoE (zV (vIaS x56 x58 10)) s fun x60 e61 s =>
lgE (qLdE x60 10) (ldA x60 (takeN 10)) s fun x62 e63 s =>
lgE qNoE (zV (fa1 x3 5)) s fun x64 e65 s =>
lgE (qLdE x64 1) (ldA x64 take1) s fun x66 e67 s =>
lgE qNoE (zK x47) s fun x68 e69 s =>
lgE qNoE (zV (vIaS x66 x68 10)) s fun x70 e71 s =>
lgE (qLdE x70 10) (ldA x70 (takeN 10)) s fun x72 e73 s =>
lgE qNoE (c (.mk .d0 .d6 .d0 .d2) [x62, x72]) s fun x74 e75 s =>
lgE qNoE (zV (vGen (.un .not (.c x74)))) s fun x76 e77 s =>
calmE [(1, 6), (4, 6), (1, 9), (4, 9)] [e55, e57, e59, e61, e63, e65, e67, e69, e71, e73, e75, e77] (fun s =>
cnd x76 (none)
(K52 [] s)) s)
(K45 [] s)) [(ci 0)] s) fun K44 =>
loopE k (fun K78 v s =>
pop v fun x79 _ =>
fa1 x2 4 fun x80 =>
ldA x80 take1 s fun x81 s =>
vLenS x81 fun x82 =>
bLt x79 x82 fun x83 =>
cnd x83 (jn (fun _ s =>
bAdd x79 (ci 1) fun x85 =>
K78 [x85] s) fun K84 =>
lgE qNoE (zV (fa1 x2 4)) s fun x86 e87 s =>
lgE (qLdE x86 1) (ldA x86 take1) s fun x88 e89 s =>
lgE qNoE (zK x79) s fun x90 e91 s =>
lgE qNoE (zV (vIaS x88 x90 3)) s fun x92 e93 s =>
lgE (qLdE x92 3) (ldA x92 (takeN 3)) s fun x94 e95 s =>
lgE qNoE (zV (fa1 x3 4)) s fun x96 e97 s =>
lgE (qLdE x96 1) (ldA x96 take1) s fun x98 e99 s =>
lgE qNoE (zK x79) s fun x100 e101 s =>
lgE qNoE (zV (vIaS x98 x100 3)) s fun x102 e103 s =>
lgE (qLdE x102 3) (ldA x102 (takeN 3)) s fun x104 e105 s =>
lgE qNoE (boxD false [.str [], .str [], .bool false]) s fun x106 e107 s =>
lgE qNoE (boxD false [.str [], .str [], .bool false]) s fun x108 e109 s =>
lgE qNoE (zSt x106 x94 3) s fun _ e111 s =>
lgE qNoE (zSt x108 x104 3) s fun _ e113 s =>
calmE [(1, 6), (4, 6), (1, 9), (4, 9), (1, 10), (4, 10), (6, 10), (9, 10), (1, 11), (4, 11), (6, 11), (9, 11), (10, 11), (6, 12), (9, 12)] [e87, e89, e91, e93, e95, e97, e99, e101, e103, e105, e107, e109, e111, e113] (fun s =>
fa1 x106 0 fun x114 =>
ldA x114 take1 s fun x115 s =>
fa1 x108 0 fun x116 =>
ldA x116 take1 s fun x117 s =>
bEqT x115 x117 fun x118 =>
gV x118 false (fa1 x106 1) fun x119 =>
gH x118 false (ldA x119 take1) s fun x120 s =>
gV x118 false (fa1 x108 1) fun x121 =>
gH x118 false (ldA x121 take1) s fun x122 s =>
gV x118 false (bEqT x120 x122) fun x123 =>
vPick x118 ct x123 fun x124 =>
gV x124 false (fa1 x106 2) fun x125 =>
gH x124 false (ldA x125 take1) s fun x126 s =>
gV x124 false (fa1 x108 2) fun x127 =>
gH x124 false (ldA x127 take1) s fun x128 s =>
gV x124 false (vBeq true x126 x128) fun x129 =>
vPick x124 ct x129 fun x130 =>
cnd x130 (none)
(K84 [] s)) s)
(K44 [] s)) [(ci 0)] s))
def F363 : F2 := .fn H363 true
theorem fe363 : feE Tryz.prog ann 363 2 [.cl, .j [], .j [5], .j [], .j [], .cl, .j [], .j [8], .j [], .j [], .cl] = some F363 := by kernel_rfl
/- internal/bytealg.IndexByteString -/
def H364 : F2 := .ext .idx true
theorem ok364 : F2ok Tryz.prog ann 364 H364 := ⟨rfl, ⟨Tryz.f364, Tryz.func364, by kernel_rfl⟩, rfl, rfl⟩
/- (*daguerre/file.writer).text -/
def H366 : F2C := fun c _ v s K =>
pop v fun x0 v =>
pop v fun x1 v =>
endE v (
vChk x0 fun x2 =>
fa1 x2 0 fun x3 =>
ldA x3 take1 s fun x4 s =>
c (.mk .d0 .d2 .d4 .d2) [x4, x1] s fun x5 s =>
bLt x5 (ci 0) fun x6 =>
jn (fun v s =>
pop v fun x8 _ =>
c (.mk .d0 .d6 .d0 .d3) [x0, x8] s fun _ s =>
K (.tup []) s) fun K7 =>
cnd x6 (vChk x0 fun x10 =>
fa1 x10 0 fun x11 =>
ldA x11 take1 s fun x12 s =>
vLenS x12 fun x13 =>
vChk x0 fun x14 =>
fa1 x14 0 fun x15 =>
ldA x15 take1 s fun x16 s =>
zBsl [.str []] 1 1 (eCons 0 1 x1 eNil) s fun x17 s =>
appB 1 16 x16 x17 s fun x18 s =>
vChk x0 fun x19 =>
fa1 x19 0 fun x20 =>
zSt x20 x18 1 s fun _ s =>
K7 [x13] s)
(K7 [x5] s))
def F366 : F2 := .fn H366 true
theorem fe366 : feE Tryz.prog ann 366 2 [.j [4]] = some F366 := by kernel_rfl
/- (*daguerre/file.writer).truth -/
def H367 : F2C := fun c _ v s K =>
pop v fun x0 v =>
pop v fun x1 v =>
endE v (
jn (fun _ s =>
K (.tup []) s) fun K2 =>
cnd x1 (c (.mk .d0 .d6 .d0 .d3) [x0, (ci 1)] s fun _ s =>
K2 [] s)
(c (.mk .d0 .d6 .d0 .d3) [x0, (ci 0)] s fun _ s =>
K2 [] s))
def F367 : F2 := .fn H367 true
theorem fe367 : feE Tryz.prog ann 367 2 [.j []] = some F367 := by kernel_rfl
/- daguerre/file.list[string] -/
def H368 : F2C := fun c k v s K =>
pop v fun x0 v =>
pop v fun x1 v =>
pop v fun _ v =>
endE v (
vLenS x1 fun x3 =>
c (.mk .d0 .d6 .d0 .d3) [x0, x3] s fun _ s =>
vLenS x1 fun x5 =>
jn (fun _ s =>
K (.tup []) s) fun K6 =>
loopE k (fun _ v s =>
pop v fun x8 _ =>
bLt x8 x5 fun x9 =>
cnd x9 (none)
(K6 [] s)) [(ci 0)] s)
def F368 : F2 := .fn H368 true
theorem fe368 : feE Tryz.prog ann 368 3 [.j [], .j [14], .cl, .j []] = some F368 := by kernel_rfl
/- (*daguerre/file.writer).field -/
def H370 : F2C := fun c _ v s K =>
pop v fun x0 v =>
pop v fun x1 v =>
endE v (
zTbox x1 s fun x2 s =>
fa1 x2 0 fun x3 =>
ldA x3 take1 s fun x4 s =>
c (.mk .d0 .d5 .d5 .d6) [x0, x4] s fun _ s =>
fa1 x2 1 fun x6 =>
ldA x6 take1 s fun x7 s =>
c (.mk .d0 .d5 .d5 .d6) [x0, x7] s fun _ s =>
fa1 x2 2 fun x9 =>
ldA x9 take1 s fun x10 s =>
c (.mk .d0 .d5 .d5 .d7) [x0, x10] s fun _ s =>
K (.tup []) s)
def F370 : F2 := .fn H370 true
theorem fe370 : feE Tryz.prog ann 370 2 [] = some F370 := by kernel_rfl
/- daguerre/file.list[daguerre/api.Field] -/
def H369 : F2C := fun c k v s K =>
pop v fun x0 v =>
pop v fun x1 v =>
pop v fun x2 v =>
endE v (
vLenS x1 fun x3 =>
c (.mk .d0 .d6 .d0 .d3) [x0, x3] s fun _ s =>
vLenS x1 fun x5 =>
jn (fun _ s =>
K (.tup []) s) fun K6 =>
loopE k (fun K7 v s =>
pop v fun x8 _ =>
bLt x8 x5 fun x9 =>
cnd x9 (jn (fun _ s =>
bAdd x8 (ci 1) fun x11 =>
K7 [x11] s) fun K10 =>
vIaS x1 x8 3 fun x12 =>
ldA x12 (takeN 3) s fun x13 s =>
boxD false [.str [], .str [], .bool false] s fun x14 s =>
zSt x14 x13 3 s fun _ s =>
ldA x14 (takeN 3) s fun x16 s =>
zCallV c x2 [x16] s fun _ s =>
K10 [] s)
(K6 [] s)) [(ci 0)] s)
def F369 : F2 := .fn H369 true
theorem fe369 : feE Tryz.prog ann 369 3 [.j [], .j [14], .j [], .j []] = some F369 := by kernel_rfl
/- (*daguerre/file.writer).method -/
def H372 : F2C := fun c _ v s K =>
pop v fun x0 v =>
pop v fun x1 v =>
endE v (
zTbox x1 s fun x2 s =>
fa1 x2 0 fun x3 =>
ldA x3 take1 s fun x4 s =>
c (.mk .d0 .d5 .d5 .d6) [x0, x4] s fun _ s =>
fa1 x2 1 fun x6 =>
ldA x6 take1 s fun x7 s =>
vGen (.mkf 366 [(.c x0)] []) fun x8 =>
c (.mk .d0 .d5 .d6 .d0) [x0, x7, x8] s fun _ s =>
fa1 x2 2 fun x10 =>
ldA x10 take1 s fun x11 s =>
c (.mk .d0 .d5 .d5 .d6) [x0, x11] s fun _ s =>
fa1 x2 3 fun x13 =>
ldA x13 take1 s fun x14 s =>
c (.mk .d0 .d5 .d5 .d7) [x0, x14] s fun _ s =>
fa1 x2 4 fun x16 =>
ldA x16 take1 s fun x17 s =>
c (.mk .d0 .d5 .d5 .d7) [x0, x17] s fun _ s =>
fa1 x2 5 fun x19 =>
ldA x19 take1 s fun x20 s =>
c (.mk .d0 .d6 .d0 .d3) [x0, x20] s fun _ s =>
fa1 x2 6 fun x22 =>
ldA x22 take1 s fun x23 s =>
c (.mk .d0 .d6 .d0 .d3) [x0, x23] s fun _ s =>
fa1 x2 7 fun x25 =>
ldA x25 take1 s fun x26 s =>
vGen (.mkf 389 [(.c x0)] []) fun x27 =>
c (.mk .d0 .d6 .d0 .d4) [x0, x26, x27] s fun _ s =>
fa1 x2 8 fun x29 =>
ldA x29 take1 s fun x30 s =>
vGen (.mkf 391 [(.c x0)] []) fun x31 =>
c (.mk .d0 .d6 .d0 .d6) [x0, x30, x31] s fun _ s =>
fa1 x2 9 fun x33 =>
ldA x33 take1 s fun x34 s =>
vGen (.mkf 393 [(.c x0)] []) fun x35 =>
c (.mk .d0 .d6 .d1 .d0) [x0, x34, x35] s fun _ s =>
K (.tup []) s)
def F372 : F2 := .fn H372 true
theorem fe372 : feE Tryz.prog ann 372 2 [] = some F372 := by kernel_rfl
/- daguerre/file.list[daguerre/api.Method] -/
def H371 : F2C := fun c k v s K =>
pop v fun x0 v =>
pop v fun x1 v =>
pop v fun x2 v =>
endE v (
vLenS x1 fun x3 =>
c (.mk .d0 .d6 .d0 .d3) [x0, x3] s fun _ s =>
vLenS x1 fun x5 =>
jn (fun _ s =>
K (.tup []) s) fun K6 =>
loopE k (fun K7 v s =>
pop v fun x8 _ =>
bLt x8 x5 fun x9 =>
cnd x9 (jn (fun _ s =>
bAdd x8 (ci 1) fun x11 =>
K7 [x11] s) fun K10 =>
vIaS x1 x8 10 fun x12 =>
ldA x12 (takeN 10) s fun x13 s =>
boxD false [.str [], .nil .sl, .str [], .bool false, .bool false, .int .i64 0, .int .i64 0, .nil .sl, .nil .sl, .nil .sl] s fun x14 s =>
zSt x14 x13 10 s fun _ s =>
ldA x14 (takeN 10) s fun x16 s =>
zCallV c x2 [x16] s fun _ s =>
K10 [] s)
(K6 [] s)) [(ci 0)] s)
def F371 : F2 := .fn H371 true
theorem fe371 : feE Tryz.prog ann 371 3 [.j [], .j [14], .j [], .j []] = some F371 := by kernel_rfl
/- daguerre/num.Put -/
def H373 : F2C := fun _ k v s K =>
pop v fun x0 v =>
pop v fun x1 v =>
endE v (
vCv .u64 x1 fun x2 =>
bShl x2 (.int .u64 1) fun x3 =>
bLt x1 (ci 0) fun x4 =>
cnd x4 (none)
(jn (fun v s =>
pop v fun x6 v =>
pop v fun x7 _ =>
vCv .u8 x6 fun x8 =>
zBsl [.int .u8 0] 1 1 (eCons 0 1 x8 eNil) s fun x9 s =>
appB 1 1 x7 x9 s fun x10 s =>
K x10 s) fun K5 =>
loopE k (fun _ v s =>
pop v fun x12 v =>
pop v fun x13 _ =>
bGt x12 (.int .u64 127) fun x14 =>
cnd x14 (none)
(K5 [x12, x13] s)) [x3, x0] s))
def F373 : F2 := .fn H373 true
theorem fe373 : feE Tryz.prog ann 373 2 [.cl, .j [5, 0], .j [5, 0], .cl, .j [5, 0]] = some F373 := by kernel_rfl
/- daguerre/num.PutText -/
def H374 : F2C := fun c _ v s K =>
pop v fun x0 v =>
pop v fun x1 v =>
endE v (
vLens x1 fun x2 =>
c (.mk .d0 .d5 .d6 .d5) [x0, x2] s fun x3 s =>
zAps 1 1 x3 x1 s fun x4 s =>
K x4 s)
def F374 : F2 := .fn H374 true
theorem fe374 : feE Tryz.prog ann 374 2 [] = some F374 := by kernel_rfl
/- strings.HasPrefix -/
def H375 : F2C := fun c _ v s K =>
pop v fun x0 v =>
pop v fun x1 v =>
endE v (
c (.mk .d0 .d5 .d0 .d5) [x0, x1] s fun x2 s =>
K x2 s)
def F375 : F2 := .fn H375 true
theorem fe375 : feE Tryz.prog ann 375 2 [] = some F375 := by kernel_rfl
/- (*daguerre/file.reader).own -/
def H377 : F2C := fun c _ v s K =>
pop v fun x0 v =>
endE v (
vChk x0 fun x1 =>
fa1 x1 1 fun x2 =>
ldA x2 take1 s fun x3 s =>
c (.mk .d0 .d6 .d1 .d3) [x3] s fun x4 s =>
vExt x4 0 fun x5 =>
vExt x4 1 fun x6 =>
vExt x4 2 fun x7 =>
c (.mk .d0 .d6 .d1 .d4) [x0, x6, x7] s fun _ s =>
K x5 s)
def F377 : F2 := .fn H377 true
theorem fe377 : feE Tryz.prog ann 377 1 [] = some F377 := by kernel_rfl
/- daguerre/file.read[string] -/
def H376 : F2C := fun c k v s K =>
pop v fun x0 v =>
pop v fun x1 v =>
endE v (
c (.mk .d0 .d6 .d1 .d2) [x0] s fun x2 s =>
jn (fun v s =>
pop v fun x4 _ =>
K x4 s) fun K3 =>
loopE k (fun K5 v s =>
pop v fun x6 v =>
pop v fun x7 _ =>
bGt x6 (ci 0) fun x8 =>
gK x8 true x0 fun x9 =>
gV x8 true (vChk x9) fun x10 =>
gV x8 true (fa1 x10 2) fun x11 =>
gH x8 true (ldA x11 take1) s fun x12 s =>
gV x8 true (vGen (.un .not (.c x12))) fun x13 =>
vPick x8 x13 cf fun x14 =>
cnd x14 (jn (fun v s =>
pop v fun x16 _ =>
bSub x6 (ci 1) fun x17 =>
K5 [x17, x16] s) fun K15 =>
zCallV c x1 [] s fun x18 s =>
zBsl [.str []] 1 1 (eCons 0 1 x18 eNil) s fun x19 s =>
appB 1 16 x7 x19 s fun x20 s =>
K15 [x20] s)
(K3 [x7] s)) [x2, (.nil .sl)] s)
def F376 : F2 := .fn H376 true
theorem fe376 : feE Tryz.prog ann 376 2 [.j [5], .j [6, 5], .j [], .j [5]] = some F376 := by kernel_rfl
/- (*daguerre/file.reader).text -/
def H378 : F2C := fun c _ v s K =>
pop v fun x0 v =>
endE v (
c (.mk .d0 .d6 .d1 .d2) [x0] s fun x1 s =>
vChk x0 fun x2 =>
fa1 x2 2 fun x3 =>
ldA x3 take1 s fun x4 s =>
gK x4 false x1 fun x5 =>
gV x4 false (bLt x5 (ci 0)) fun x6 =>
vPick x4 ct x6 fun x7 =>
gK x7 false x1 fun x8 =>
gK x7 false x0 fun x9 =>
gV x7 false (vChk x9) fun x10 =>
gV x7 false (fa1 x10 0) fun x11 =>
gH x7 false (ldA x11 take1) s fun x12 s =>
gV x7 false (vLenS x12) fun x13 =>
gV x7 false (bGe x8 x13) fun x14 =>
vPick x7 ct x14 fun x15 =>
cnd x15 (none)
(vChk x0 fun x16 =>
fa1 x16 0 fun x17 =>
ldA x17 take1 s fun x18 s =>
vIaS x18 x1 1 fun x19 =>
ldA x19 take1 s fun x20 s =>
K x20 s))
def F378 : F2 := .fn H378 true
theorem fe378 : feE Tryz.prog ann 378 1 [.cl] = some F378 := by kernel_rfl
/- (*daguerre/file.reader).truth -/
def H379 : F2C := fun c _ v s K =>
pop v fun x0 v =>
endE v (
c (.mk .d0 .d6 .d1 .d2) [x0] s fun x1 s =>
bEqT x1 (ci 0) fun x2 =>
K x2 s)
def F379 : F2 := .fn H379 true
theorem fe379 : feE Tryz.prog ann 379 1 [] = some F379 := by kernel_rfl
/- (*daguerre/file.reader).field -/
def H381 : F2C := fun c _ v s K =>
pop v fun x0 v =>
endE v (
boxD false [.str [], .str [], .bool false] s fun x1 s =>
c (.mk .d0 .d5 .d7 .d2) [x0] s fun x2 s =>
c (.mk .d0 .d5 .d7 .d2) [x0] s fun x3 s =>
c (.mk .d0 .d5 .d7 .d3) [x0] s fun x4 s =>
vBld [.str [], .str [], .bool false] (eCons 0 1 x2 (eCons 1 1 x3 (eCons 2 1 x4 eNil))) fun x5 =>
zSt x1 x5 3 s fun _ s =>
ldA x1 (takeN 3) s K)
def F381 : F2 := .fn H381 true
theorem fe381 : feE Tryz.prog ann 381 1 [] = some F381 := by kernel_rfl
/- daguerre/file.read[daguerre/api.Field] -/
def H380 : F2C := fun c k v s K =>
pop v fun x0 v =>
pop v fun x1 v =>
endE v (
c (.mk .d0 .d6 .d1 .d2) [x0] s fun x2 s =>
jn (fun v s =>
pop v fun x4 _ =>
K x4 s) fun K3 =>
loopE k (fun K5 v s =>
pop v fun x6 v =>
pop v fun x7 _ =>
bGt x6 (ci 0) fun x8 =>
gK x8 true x0 fun x9 =>
gV x8 true (vChk x9) fun x10 =>
gV x8 true (fa1 x10 2) fun x11 =>
gH x8 true (ldA x11 take1) s fun x12 s =>
gV x8 true (vGen (.un .not (.c x12))) fun x13 =>
vPick x8 x13 cf fun x14 =>
cnd x14 (jn (fun v s =>
pop v fun x16 _ =>
bSub x6 (ci 1) fun x17 =>
K5 [x17, x16] s) fun K15 =>
zCallV c x1 [] s fun x18 s =>
zBsl [.str [], .str [], .bool false] 3 1 (eCons 0 3 x18 eNil) s fun x19 s =>
appB 3 40 x7 x19 s fun x20 s =>
K15 [x20] s)
(K3 [x7] s)) [x2, (.nil .sl)] s)
def F380 : F2 := .fn H380 true
theorem fe380 : feE Tryz.prog ann 380 2 [.j [5], .j [6, 5], .j [], .j [5]] = some F380 := by kernel_rfl
/- (*daguerre/file.reader).method -/
def H383 : F2C := fun c _ v s K =>
pop v fun x0 v =>
endE v (
boxD false [.str [], .nil .sl, .str [], .bool false, .bool false, .int .i64 0, .int .i64 0, .nil .sl, .nil .sl, .nil .sl] s fun x1 s =>
c (.mk .d0 .d5 .d7 .d2) [x0] s fun x2 s =>
vGen (.mkf 378 [(.c x0)] []) fun x3 =>
c (.mk .d0 .d5 .d7 .d0) [x0, x3] s fun x4 s =>
c (.mk .d0 .d5 .d7 .d2) [x0] s fun x5 s =>
c (.mk .d0 .d5 .d7 .d3) [x0] s fun x6 s =>
c (.mk .d0 .d5 .d7 .d3) [x0] s fun x7 s =>
vBld [.str [], .nil .sl, .str [], .bool false, .bool false, .int .i64 0, .int .i64 0, .nil .sl, .nil .sl, .nil .sl] (eCons 0 1 x2 (eCons 1 1 x4 (eCons 2 1 x5 (eCons 3 1 x6 (eCons 4 1 x7 eNil))))) fun x8 =>
boxD false [.str [], .nil .sl, .str [], .bool false, .bool false, .int .i64 0, .int .i64 0, .nil .sl, .nil .sl, .nil .sl] s fun x9 s =>
zSt x9 x8 10 s fun _ s =>
c (.mk .d0 .d6 .d1 .d2) [x0] s fun x11 s =>
c (.mk .d0 .d6 .d1 .d2) [x0] s fun x12 s =>
fa1 x9 5 fun x13 =>
zSt x13 x11 1 s fun _ s =>
fa1 x9 6 fun x15 =>
zSt x15 x12 1 s fun _ s =>
vGen (.mkf 398 [(.c x0)] []) fun x17 =>
c (.mk .d0 .d6 .d1 .d5) [x0, x17] s fun x18 s =>
vGen (.mkf 400 [(.c x0)] []) fun x19 =>
c (.mk .d0 .d6 .d1 .d7) [x0, x19] s fun x20 s =>
vGen (.mkf 402 [(.c x0)] []) fun x21 =>
c (.mk .d0 .d6 .d2 .d1) [x0, x21] s fun x22 s =>
fa1 x9 7 fun x23 =>
zSt x23 x18 1 s fun _ s =>
fa1 x9 8 fun x25 =>
zSt x25 x20 1 s fun _ s =>
fa1 x9 9 fun x27 =>
zSt x27 x22 1 s fun _ s =>
ldA x9 (takeN 10) s fun x29 s =>
zSt x1 x29 10 s fun _ s =>
ldA x1 (takeN 10) s K)
def F383 : F2 := .fn H383 true
theorem fe383 : feE Tryz.prog ann 383 1 [] = some F383 := by kernel_rfl
/- daguerre/file.read[daguerre/api.Method] -/
def H382 : F2C := fun c k v s K =>
pop v fun x0 v =>
pop v fun x1 v =>
endE v (
c (.mk .d0 .d6 .d1 .d2) [x0] s fun x2 s =>
jn (fun v s =>
pop v fun x4 _ =>
K x4 s) fun K3 =>
loopE k (fun K5 v s =>
pop v fun x6 v =>
pop v fun x7 _ =>
bGt x6 (ci 0) fun x8 =>
gK x8 true x0 fun x9 =>
gV x8 true (vChk x9) fun x10 =>
gV x8 true (fa1 x10 2) fun x11 =>
gH x8 true (ldA x11 take1) s fun x12 s =>
gV x8 true (vGen (.un .not (.c x12))) fun x13 =>
vPick x8 x13 cf fun x14 =>
cnd x14 (jn (fun v s =>
pop v fun x16 _ =>
bSub x6 (ci 1) fun x17 =>
K5 [x17, x16] s) fun K15 =>
zCallV c x1 [] s fun x18 s =>
zBsl [.str [], .nil .sl, .str [], .bool false, .bool false, .int .i64 0, .int .i64 0, .nil .sl, .nil .sl, .nil .sl] 10 1 (eCons 0 10 x18 eNil) s fun x19 s =>
appB 10 152 x7 x19 s fun x20 s =>
K15 [x20] s)
(K3 [x7] s)) [x2, (.nil .sl)] s)
def F382 : F2 := .fn H382 true
theorem fe382 : feE Tryz.prog ann 382 2 [.j [5], .j [6, 5], .j [], .j [5]] = some F382 := by kernel_rfl
/- bytes.Equal -/
def H384 : F2C := fun _ _ v s K =>
pop v fun x0 v =>
pop v fun x1 v =>
endE v (
b2sA x0 s fun x2 s =>
b2sA x1 s fun x3 s =>
bEqF x2 x3 fun x4 =>
K x4 s)
def F384 : F2 := .fn H384 true
theorem fe384 : feE Tryz.prog ann 384 2 [] = some F384 := by kernel_rfl
/- daguerre/daguerrelaw5.begun -/
def H385 : F2C := fun c _ v s K =>
endE v (
c (.mk .d0 .d0 .d1 .d5) [(.str [65, 98])] s fun x0 s =>
boxD false [.str [], .str [], .bool false, .nil .sl, .nil .sl, .nil .sl] s fun x1 s =>
zSt x1 x0 6 s fun _ s =>
c (.mk .d0 .d0 .d1 .d5) [(.str [65, 98])] s fun x3 s =>
boxD false [.str [], .str [], .bool false, .nil .sl, .nil .sl, .nil .sl] s fun x4 s =>
zSt x4 x3 6 s fun _ s =>
fa1 x4 5 fun x6 =>
ldA x6 take1 s fun x7 s =>
vIaS x7 (ci 0) 10 fun x8 =>
fa1 x8 5 fun x9 =>
zSt x9 (ci 1) 1 s fun _ s =>
c (.mk .d0 .d6 .d2 .d3) [] s fun x11 s =>
gH x11 true (ldA x1 (takeN 6)) s fun x12 s =>
gH x11 true (c (.mk .d0 .d1 .d2 .d1) [x12]) s fun x13 s =>
vPick x11 x13 cf fun x14 =>
gV x14 true (vBld [.str [], .str [], .bool false, .nil .sl, .nil .sl, .nil .sl] (eCons 0 1 (.str [65, 98]) eNil)) fun x15 =>
gH x14 true (c (.mk .d0 .d1 .d2 .d1) [x15]) s fun x16 s =>
gV x14 true (vGen (.un .not (.c x16))) fun x17 =>
vPick x14 x17 cf fun x18 =>
gH x18 true (ldA x1 (takeN 6)) s fun x19 s =>
gH x18 true (ldA x1 (takeN 6)) s fun x20 s =>
gH x18 true (c (.mk .d0 .d6 .d2 .d4) [x19, x20]) s fun x21 s =>
vPick x18 x21 cf fun x22 =>
gH x22 true (ldA x1 (takeN 6)) s fun x23 s =>
gH x22 true (ldA x4 (takeN 6)) s fun x24 s =>
gH x22 true (c (.mk .d0 .d6 .d2 .d4) [x23, x24]) s fun x25 s =>
gV x22 true (vGen (.un .not (.c x25))) fun x26 =>
vPick x22 x26 cf fun x27 =>
gH x27 true (ldA x1 (takeN 6)) s fun x28 s =>
gH x27 true (c (.mk .d0 .d1 .d6 .d0) [x28, (.str [109, 97, 105, 110])]) s fun x29 s =>
gV x27 true (bEqF x29 (ci 0)) fun x30 =>
vPick x27 x30 cf fun x31 =>
gH x31 true (ldA x1 (takeN 6)) s fun x32 s =>
gH x31 true (c (.mk .d0 .d1 .d6 .d0) [x32, (.str [120])]) s fun x33 s =>
gV x31 true (bEqF x33 (.int .i64 (-1))) fun x34 =>
vPick x31 x34 cf fun x35 =>
gH x35 true (ldA x1 (takeN 6)) s fun x36 s =>
gH x35 true (c (.mk .d0 .d4 .d4 .d4) [x36, (.str [120])]) s fun x37 s =>
gV x35 true (bEqF x37 (ci 0)) fun x38 =>
vPick x35 x38 cf fun x39 =>
gH x39 true (ldA x1 (takeN 6)) s fun x40 s =>
gH x39 true (c (.mk .d0 .d4 .d4 .d4) [x40, (.str [109, 97, 105, 110])]) s fun x41 s =>
gV x39 true (bEqF x41 (.int .i64 (-1))) fun x42 =>
vPick x39 x42 cf fun x43 =>
K x43 s)
def F385 : F2 := .pur H385 true mNo
theorem fe385 : feE Tryz.prog ann 385 0 [] = some F385 := by kernel_rfl
def M385 (k : Nat) : F2 := .pur H385 true (Bool.rec mNo (mVal (.bool true)) (Nat.ble 3 k))
/- daguerre/daguerreref3.eqMethod -/
def H386 : F2C := fun c k v s K =>
pop v fun x0 v =>
pop v fun x1 v =>
endE v (
zTbox x0 s fun x2 s =>
zTbox x1 s fun x3 s =>
fa1 x2 0 fun x4 =>
ldA x4 take1 s fun x5 s =>
fa1 x3 0 fun x6 =>
ldA x6 take1 s fun x7 s =>
bEqT x5 x7 fun x8 =>
gV x8 false (fa1 x2 1) fun x9 =>
gH x8 false (ldA x9 take1) s fun x10 s =>
gV x8 false (fa1 x3 1) fun x11 =>
gH x8 false (ldA x11 take1) s fun x12 s =>
gH x8 false (c (.mk .d0 .d0 .d1 .d1) [x10, x12]) s fun x13 s =>
gV x8 false (vGen (.un .not (.c x13))) fun x14 =>
vPick x8 ct x14 fun x15 =>
gV x15 false (fa1 x2 2) fun x16 =>
gH x15 false (ldA x16 take1) s fun x17 s =>
gV x15 false (fa1 x3 2) fun x18 =>
gH x15 false (ldA x18 take1) s fun x19 s =>
gV x15 false (bEqT x17 x19) fun x20 =>
vPick x15 ct x20 fun x21 =>
gV x21 false (fa1 x2 3) fun x22 =>
gH x21 false (ldA x22 take1) s fun x23 s =>
gV x21 false (fa1 x3 3) fun x24 =>
gH x21 false (ldA x24 take1) s fun x25 s =>
gV x21 false (vBeq true x23 x25) fun x26 =>
vPick x21 ct x26 fun x27 =>
gV x27 false (fa1 x2 4) fun x28 =>
gH x27 false (ldA x28 take1) s fun x29 s =>
gV x27 false (fa1 x3 4) fun x30 =>
gH x27 false (ldA x30 take1) s fun x31 s =>
gV x27 false (vBeq true x29 x31) fun x32 =>
vPick x27 ct x32 fun x33 =>
gV x33 false (fa1 x2 5) fun x34 =>
gH x33 false (ldA x34 take1) s fun x35 s =>
gV x33 false (fa1 x3 5) fun x36 =>
gH x33 false (ldA x36 take1) s fun x37 s =>
gV x33 false (bEqT x35 x37) fun x38 =>
vPick x33 ct x38 fun x39 =>
gV x39 false (fa1 x2 6) fun x40 =>
gH x39 false (ldA x40 take1) s fun x41 s =>
gV x39 false (fa1 x3 6) fun x42 =>
gH x39 false (ldA x42 take1) s fun x43 s =>
gV x39 false (bEqT x41 x43) fun x44 =>
vPick x39 ct x44 fun x45 =>
gV x45 false (fa1 x2 7) fun x46 =>
gH x45 false (ldA x46 take1) s fun x47 s =>
gV x45 false (vLenS x47) fun x48 =>
gV x45 false (fa1 x3 7) fun x49 =>
gH x45 false (ldA x49 take1) s fun x50 s =>
gV x45 false (vLenS x50) fun x51 =>
gV x45 false (bEqT x48 x51) fun x52 =>
vPick x45 ct x52 fun x53 =>
gV x53 false (fa1 x2 8) fun x54 =>
gH x53 false (ldA x54 take1) s fun x55 s =>
gV x53 false (vLenS x55) fun x56 =>
gV x53 false (fa1 x3 8) fun x57 =>
gH x53 false (ldA x57 take1) s fun x58 s =>
gV x53 false (vLenS x58) fun x59 =>
gV x53 false (bEqT x56 x59) fun x60 =>
vPick x53 ct x60 fun x61 =>
gV x61 false (fa1 x2 9) fun x62 =>
gH x61 false (ldA x62 take1) s fun x63 s =>
gV x61 false (vLenS x63) fun x64 =>
gV x61 false (fa1 x3 9) fun x65 =>
gH x61 false (ldA x65 take1) s fun x66 s =>
gV x61 false (vLenS x66) fun x67 =>
gV x61 false (bEqT x64 x67) fun x68 =>
vPick x61 ct x68 fun x69 =>
cnd x69 (none)
(jn (fun _ s =>
jn (fun _ s =>
jn (fun _ s =>
K ct s) fun K72 =>
loopE k (fun _ v s =>
pop v fun x74 _ =>
fa1 x2 9 fun x75 =>
ldA x75 take1 s fun x76 s =>
vLenS x76 fun x77 =>
bLt x74 x77 fun x78 =>
cnd x78 (none)
(K72 [] s)) [(ci 0)] s) fun K71 =>
loopE k (fun _ v s =>
pop v fun x80 _ =>
fa1 x2 8 fun x81 =>
ldA x81 take1 s fun x82 s =>
vLenS x82 fun x83 =>
bLt x80 x83 fun x84 =>
cnd x84 (none)
(K71 [] s)) [(ci 0)] s) fun K70 =>
loopE k (fun K85 v s =>
pop v fun x86 _ =>
fa1 x2 7 fun x87 =>
ldA x87 take1 s fun x88 s =>
vLenS x88 fun x89 =>
bLt x86 x89 fun x90 =>
cnd x90 (jn (fun _ s =>
bAdd x86 (ci 1) fun x92 =>
K85 [x92] s) fun K91 =>
lgE qNoE (zV (fa1 x2 7)) s fun x93 e94 s =>
lgE (qLdE x93 1) (ldA x93 take1) s fun x95 e96 s =>
lgE qNoE (zK x86) s fun x97 e98 s =>
lgE qNoE (zV (vIaS x95 x97 4)) s fun x99 e100 s =>
lgE (qLdE x99 4) (ldA x99 (takeN 4)) s fun x101 e102 s =>
lgE qNoE (zV (fa1 x3 7)) s fun x103 e104 s =>
lgE (qLdE x103 1) (ldA x103 take1) s fun x105 e106 s =>
lgE qNoE (zK x86) s fun x107 e108 s =>
lgE qNoE (zV (vIaS x105 x107 4)) s fun x109 e110 s =>
lgE (qLdE x109 4) (ldA x109 (takeN 4)) s fun x111 e112 s =>
lgE qNoE (c (.mk .d0 .d6 .d2 .d5) [x101, x111]) s fun x113 e114 s =>
lgE qNoE (zV (vGen (.un .not (.c x113)))) s fun x115 e116 s =>
calmE [(1, 6), (4, 6), (1, 9), (4, 9)] [e94, e96, e98, e100, e102, e104, e106, e108, e110, e112, e114, e116] (fun s =>
cnd x115 (none)
(K91 [] s)) s)
(K70 [] s)) [(ci 0)] s))
def F386 : F2 := .fn H386 true
theorem fe386 : feE Tryz.prog ann 386 2 [.cl, .j [], .j [5], .j [], .j [], .cl, .j [], .j [6], .cl, .j [], .ch, .j [], .j [9], .cl, .j [], .ch] = some F386 := by kernel_rfl
/- (*daguerre/file.writer).num -/
def H387 : F2C := fun c _ v s K =>
pop v fun x0 v =>
pop v fun x1 v =>
endE v (
vChk x0 fun x2 =>
fa1 x2 1 fun x3 =>
ldA x3 take1 s fun x4 s =>
c (.mk .d0 .d5 .d6 .d5) [x4, x1] s fun x5 s =>
vChk x0 fun x6 =>
fa1 x6 1 fun x7 =>
zSt x7 x5 1 s fun _ s =>
K (.tup []) s)
def F387 : F2 := .fn H387 true
theorem fe387 : feE Tryz.prog ann 387 2 [] = some F387 := by kernel_rfl
/- (*daguerre/file.writer).ins -/
def H389 : F2C := fun c _ v s K =>
pop v fun x0 v =>
pop v fun x1 v =>
endE v (
zTbox x1 s fun x2 s =>
fa1 x2 0 fun x3 =>
ldA x3 take1 s fun x4 s =>
c (.mk .d0 .d6 .d0 .d3) [x0, x4] s fun _ s =>
fa1 x2 1 fun x6 =>
ldA x6 take1 s fun x7 s =>
c (.mk .d0 .d6 .d0 .d3) [x0, x7] s fun _ s =>
fa1 x2 2 fun x9 =>
ldA x9 take1 s fun x10 s =>
c (.mk .d0 .d5 .d5 .d6) [x0, x10] s fun _ s =>
fa1 x2 3 fun x12 =>
ldA x12 take1 s fun x13 s =>
c (.mk .d0 .d5 .d5 .d6) [x0, x13] s fun _ s =>
K (.tup []) s)
def F389 : F2 := .fn H389 true
theorem fe389 : feE Tryz.prog ann 389 2 [] = some F389 := by kernel_rfl
/- daguerre/file.list[daguerre/api.Ins] -/
def H388 : F2C := fun c k v s K =>
pop v fun x0 v =>
pop v fun x1 v =>
pop v fun x2 v =>
endE v (
vLenS x1 fun x3 =>
c (.mk .d0 .d6 .d0 .d3) [x0, x3] s fun _ s =>
vLenS x1 fun x5 =>
jn (fun _ s =>
K (.tup []) s) fun K6 =>
loopE k (fun K7 v s =>
pop v fun x8 _ =>
bLt x8 x5 fun x9 =>
cnd x9 (jn (fun _ s =>
bAdd x8 (ci 1) fun x11 =>
K7 [x11] s) fun K10 =>
vIaS x1 x8 4 fun x12 =>
ldA x12 (takeN 4) s fun x13 s =>
boxD false [.int .i64 0, .int .i64 0, .str [], .str []] s fun x14 s =>
zSt x14 x13 4 s fun _ s =>
ldA x14 (takeN 4) s fun x16 s =>
zCallV c x2 [x16] s fun _ s =>
K10 [] s)
(K6 [] s)) [(ci 0)] s)
def F388 : F2 := .fn H388 true
theorem fe388 : feE Tryz.prog ann 388 3 [.j [], .j [14], .j [], .j []] = some F388 := by kernel_rfl
/- daguerre/file.list[daguerre/api.Map] -/
def H390 : F2C := fun c k v s K =>
pop v fun x0 v =>
pop v fun x1 v =>
pop v fun _ v =>
endE v (
vLenS x1 fun x3 =>
c (.mk .d0 .d6 .d0 .d3) [x0, x3] s fun _ s =>
vLenS x1 fun x5 =>
jn (fun _ s =>
K (.tup []) s) fun K6 =>
loopE k (fun _ v s =>
pop v fun x8 _ =>
bLt x8 x5 fun x9 =>
cnd x9 (none)
(K6 [] s)) [(ci 0)] s)
def F390 : F2 := .fn H390 true
theorem fe390 : feE Tryz.prog ann 390 3 [.j [], .j [14], .cl, .j []] = some F390 := by kernel_rfl
/- daguerre/file.list[daguerre/api.Trap] -/
def H392 : F2C := fun c k v s K =>
pop v fun x0 v =>
pop v fun x1 v =>
pop v fun _ v =>
endE v (
vLenS x1 fun x3 =>
c (.mk .d0 .d6 .d0 .d3) [x0, x3] s fun _ s =>
vLenS x1 fun x5 =>
jn (fun _ s =>
K (.tup []) s) fun K6 =>
loopE k (fun _ v s =>
pop v fun x8 _ =>
bLt x8 x5 fun x9 =>
cnd x9 (none)
(K6 [] s)) [(ci 0)] s)
def F392 : F2 := .fn H392 true
theorem fe392 : feE Tryz.prog ann 392 3 [.j [], .j [14], .cl, .j []] = some F392 := by kernel_rfl
/- daguerre/num.GetText -/
def H395 : F2C := fun c _ v s K =>
pop v fun x0 v =>
endE v (
c (.mk .d0 .d6 .d2 .d6) [x0] s fun x1 s =>
vExt x1 0 fun x2 =>
vExt x1 1 fun x3 =>
vExt x1 2 fun x4 =>
jn (fun _ s =>
bAdd x3 x2 fun x6 =>
vSlt x0 (eX x3) (eX x6) 1 fun x7 =>
b2sA x7 s fun x8 s =>
bAdd x3 x2 fun x9 =>
K (.tup [x8, x9, (ci 0)]) s) fun K5 =>
bEqT x4 (ci 0) fun x10 =>
cnd x10 (none)
(bLt x2 (ci 0) fun x11 =>
gK x11 false x2 fun x12 =>
gV x11 false (bGt x12 (ci 1048576)) fun x13 =>
vPick x11 ct x13 fun x14 =>
cnd x14 (none)
(vLenS x0 fun x15 =>
bSub x15 x3 fun x16 =>
bGt x2 x16 fun x17 =>
cnd x17 (none)
(K5 [] s))))
def F395 : F2 := .fn H395 true
theorem fe395 : feE Tryz.prog ann 395 1 [.j [], .cl, .cl, .cl] = some F395 := by kernel_rfl
/- (*daguerre/file.reader).skip -/
def H396 : F2C := fun _ _ v s K =>
pop v fun x0 v =>
pop v fun x1 v =>
pop v fun x2 v =>
endE v (
vChk x0 fun x3 =>
fa1 x3 2 fun x4 =>
ldA x4 take1 s fun x5 s =>
gK x5 false x2 fun x6 =>
gV x5 false (bEqT x6 (ci 0)) fun x7 =>
vPick x5 ct x7 fun x8 =>
vChk x0 fun x9 =>
fa1 x9 2 fun x10 =>
zSt x10 x8 1 s fun _ s =>
vChk x0 fun x12 =>
fa1 x12 2 fun x13 =>
ldA x13 take1 s fun x14 s =>
vGen (.un .not (.c x14)) fun x15 =>
cnd x15 (vChk x0 fun x16 =>
fa1 x16 1 fun x17 =>
ldA x17 take1 s fun x18 s =>
vSlt x18 (eX x1) eN 1 fun x19 =>
vChk x0 fun x20 =>
fa1 x20 1 fun x21 =>
zSt x21 x19 1 s fun _ s =>
K (.tup []) s)
(none))
def F396 : F2 := .fn H396 true
theorem fe396 : feE Tryz.prog ann 396 3 [.cr] = some F396 := by kernel_rfl
/- (*daguerre/file.reader).num -/
def H394 : F2C := fun c _ v s K =>
pop v fun x0 v =>
endE v (
vChk x0 fun x1 =>
fa1 x1 1 fun x2 =>
ldA x2 take1 s fun x3 s =>
c (.mk .d0 .d6 .d2 .d6) [x3] s fun x4 s =>
vExt x4 0 fun x5 =>
vExt x4 1 fun x6 =>
vExt x4 2 fun x7 =>
c (.mk .d0 .d6 .d1 .d4) [x0, x6, x7] s fun _ s =>
vChk x0 fun x9 =>
fa1 x9 2 fun x10 =>
ldA x10 take1 s fun x11 s =>
cnd x11 (none)
(K x5 s))
def F394 : F2 := .fn H394 true
theorem fe394 : feE Tryz.prog ann 394 1 [.cl] = some F394 := by kernel_rfl
/- (*daguerre/file.reader).ins -/
def H398 : F2C := fun c _ v s K =>
pop v fun x0 v =>
endE v (
boxD false [.int .i64 0, .int .i64 0, .str [], .str []] s fun x1 s =>
c (.mk .d0 .d6 .d1 .d2) [x0] s fun x2 s =>
c (.mk .d0 .d6 .d1 .d2) [x0] s fun x3 s =>
c (.mk .d0 .d5 .d7 .d2) [x0] s fun x4 s =>
c (.mk .d0 .d5 .d7 .d2) [x0] s fun x5 s =>
vBld [.int .i64 0, .int .i64 0, .str [], .str []] (eCons 0 1 x2 (eCons 1 1 x3 (eCons 2 1 x4 (eCons 3 1 x5 eNil)))) fun x6 =>
zSt x1 x6 4 s fun _ s =>
ldA x1 (takeN 4) s K)
def F398 : F2 := .fn H398 true
theorem fe398 : feE Tryz.prog ann 398 1 [] = some F398 := by kernel_rfl
/- daguerre/file.read[daguerre/api.Ins] -/
def H397 : F2C := fun c k v s K =>
pop v fun x0 v =>
pop v fun x1 v =>
endE v (
c (.mk .d0 .d6 .d1 .d2) [x0] s fun x2 s =>
jn (fun v s =>
pop v fun x4 _ =>
K x4 s) fun K3 =>
loopE k (fun K5 v s =>
pop v fun x6 v =>
pop v fun x7 _ =>
bGt x6 (ci 0) fun x8 =>
gK x8 true x0 fun x9 =>
gV x8 true (vChk x9) fun x10 =>
gV x8 true (fa1 x10 2) fun x11 =>
gH x8 true (ldA x11 take1) s fun x12 s =>
gV x8 true (vGen (.un .not (.c x12))) fun x13 =>
vPick x8 x13 cf fun x14 =>
cnd x14 (jn (fun v s =>
pop v fun x16 _ =>
bSub x6 (ci 1) fun x17 =>
K5 [x17, x16] s) fun K15 =>
zCallV c x1 [] s fun x18 s =>
zBsl [.int .i64 0, .int .i64 0, .str [], .str []] 4 1 (eCons 0 4 x18 eNil) s fun x19 s =>
appB 4 48 x7 x19 s fun x20 s =>
K15 [x20] s)
(K3 [x7] s)) [x2, (.nil .sl)] s)
def F397 : F2 := .fn H397 true
theorem fe397 : feE Tryz.prog ann 397 2 [.j [5], .j [6, 5], .j [], .j [5]] = some F397 := by kernel_rfl
/- daguerre/file.read[daguerre/api.Map] -/
def H399 : F2C := fun c k v s K =>
pop v fun x0 v =>
pop v fun _ v =>
endE v (
c (.mk .d0 .d6 .d1 .d2) [x0] s fun x2 s =>
jn (fun v s =>
pop v fun x4 _ =>
K x4 s) fun K3 =>
loopE k (fun _ v s =>
pop v fun x6 v =>
pop v fun x7 _ =>
bGt x6 (ci 0) fun x8 =>
gK x8 true x0 fun x9 =>
gV x8 true (vChk x9) fun x10 =>
gV x8 true (fa1 x10 2) fun x11 =>
gH x8 true (ldA x11 take1) s fun x12 s =>
gV x8 true (vGen (.un .not (.c x12))) fun x13 =>
vPick x8 x13 cf fun x14 =>
cnd x14 (none)
(K3 [x7] s)) [x2, (.nil .sl)] s)
def F399 : F2 := .fn H399 true
theorem fe399 : feE Tryz.prog ann 399 2 [.j [5], .j [6, 5], .cl, .j [5]] = some F399 := by kernel_rfl
/- daguerre/file.read[daguerre/api.Trap] -/
def H401 : F2C := fun c k v s K =>
pop v fun x0 v =>
pop v fun _ v =>
endE v (
c (.mk .d0 .d6 .d1 .d2) [x0] s fun x2 s =>
jn (fun v s =>
pop v fun x4 _ =>
K x4 s) fun K3 =>
loopE k (fun _ v s =>
pop v fun x6 v =>
pop v fun x7 _ =>
bGt x6 (ci 0) fun x8 =>
gK x8 true x0 fun x9 =>
gV x8 true (vChk x9) fun x10 =>
gV x8 true (fa1 x10 2) fun x11 =>
gH x8 true (ldA x11 take1) s fun x12 s =>
gV x8 true (vGen (.un .not (.c x12))) fun x13 =>
vPick x8 x13 cf fun x14 =>
cnd x14 (none)
(K3 [x7] s)) [x2, (.nil .sl)] s)
def F401 : F2 := .fn H401 true
theorem fe401 : feE Tryz.prog ann 401 2 [.j [5], .j [6, 5], .cl, .j [5]] = some F401 := by kernel_rfl
/- daguerre/daguerrelaw4.Begun -/
def H403 : F2C := fun c _ v s K =>
endE v (
c (.mk .d0 .d6 .d2 .d7) [] s fun x0 s =>
K x0 s)
def F403 : F2 := .pur H403 true mNo
theorem fe403 : feE Tryz.prog ann 403 0 [] = some F403 := by kernel_rfl
/- daguerre/class.Eq -/
def H404 : F2C := fun c _ v s K =>
pop v fun x0 v =>
pop v fun x1 v =>
endE v (
zTbox x0 s fun x2 s =>
zTbox x1 s fun x3 s =>
fa1 x2 0 fun x4 =>
ldA x4 take1 s fun x5 s =>
fa1 x3 0 fun x6 =>
ldA x6 take1 s fun x7 s =>
bEqF x5 x7 fun x8 =>
gV x8 true (fa1 x2 1) fun x9 =>
gH x8 true (ldA x9 take1) s fun x10 s =>
gV x8 true (fa1 x3 1) fun x11 =>
gH x8 true (ldA x11 take1) s fun x12 s =>
gV x8 true (bEqF x10 x12) fun x13 =>
vPick x8 x13 cf fun x14 =>
gV x14 true (fa1 x2 2) fun x15 =>
gH x14 true (ldA x15 take1) s fun x16 s =>
gV x14 true (fa1 x3 2) fun x17 =>
gH x14 true (ldA x17 take1) s fun x18 s =>
gV x14 true (vBeq false x16 x18) fun x19 =>
vPick x14 x19 cf fun x20 =>
gV x20 true (fa1 x2 3) fun x21 =>
gH x20 true (ldA x21 take1) s fun x22 s =>
gV x20 true (fa1 x3 3) fun x23 =>
gH x20 true (ldA x23 take1) s fun x24 s =>
gH x20 true (c (.mk .d0 .d4 .d3 .d0) [x22, x24]) s fun x25 s =>
vPick x20 x25 cf fun x26 =>
gV x26 true (fa1 x2 4) fun x27 =>
gH x26 true (ldA x27 take1) s fun x28 s =>
gV x26 true (fa1 x3 4) fun x29 =>
gH x26 true (ldA x29 take1) s fun x30 s =>
gH x26 true (c (.mk .d0 .d6 .d3 .d0) [x28, x30]) s fun x31 s =>
vPick x26 x31 cf fun x32 =>
gV x32 true (fa1 x2 5) fun x33 =>
gH x32 true (ldA x33 take1) s fun x34 s =>
gV x32 true (fa1 x3 5) fun x35 =>
gH x32 true (ldA x35 take1) s fun x36 s =>
gH x32 true (c (.mk .d0 .d6 .d3 .d1) [x34, x36, (.fn 410 [] [])]) s fun x37 s =>
vPick x32 x37 cf fun x38 =>
K x38 s)
def F404 : F2 := .fn H404 true
theorem fe404 : feE Tryz.prog ann 404 2 [] = some F404 := by kernel_rfl
/- daguerre/daguerreref3.EqIns -/
def H405 : F2C := fun _ _ v s K =>
pop v fun x0 v =>
pop v fun x1 v =>
endE v (
zTbox x0 s fun x2 s =>
zTbox x1 s fun x3 s =>
fa1 x2 0 fun x4 =>
ldA x4 take1 s fun x5 s =>
fa1 x3 0 fun x6 =>
ldA x6 take1 s fun x7 s =>
bEqF x5 x7 fun x8 =>
gV x8 true (fa1 x2 1) fun x9 =>
gH x8 true (ldA x9 take1) s fun x10 s =>
gV x8 true (fa1 x3 1) fun x11 =>
gH x8 true (ldA x11 take1) s fun x12 s =>
gV x8 true (bEqF x10 x12) fun x13 =>
vPick x8 x13 cf fun x14 =>
gV x14 true (fa1 x2 2) fun x15 =>
gH x14 true (ldA x15 take1) s fun x16 s =>
gV x14 true (fa1 x3 2) fun x17 =>
gH x14 true (ldA x17 take1) s fun x18 s =>
gV x14 true (bEqF x16 x18) fun x19 =>
vPick x14 x19 cf fun x20 =>
gV x20 true (fa1 x2 3) fun x21 =>
gH x20 true (ldA x21 take1) s fun x22 s =>
gV x20 true (fa1 x3 3) fun x23 =>
gH x20 true (ldA x23 take1) s fun x24 s =>
gV x20 true (bEqF x22 x24) fun x25 =>
vPick x20 x25 cf fun x26 =>
K x26 s)
def F405 : F2 := .fn H405 true
theorem fe405 : feE Tryz.prog ann 405 2 [] = some F405 := by kernel_rfl
/- daguerre/num.Get -/
def H406 : F2C := fun _ k v s K =>
pop v fun x0 v =>
endE v (
vLenS x0 fun x1 =>
jn (fun _ s =>
K (.tup [(ci 0), (ci 0), (ci 2)]) s) fun K2 =>
loopE k (fun K3 v s =>
pop v fun x4 v =>
pop v fun x5 _ =>
bLt x4 x1 fun x6 =>
cnd x6 (jn (fun v s =>
pop v fun x8 _ =>
bAdd x4 (ci 1) fun x9 =>
K3 [x9, x8] s) fun _ =>
vIaS x0 x4 1 fun x10 =>
ldA x10 take1 s fun x11 s =>
bEqF x4 (ci 9) fun x12 =>
gK x12 true x11 fun x13 =>
gV x12 true (bGt x13 (cu 1)) fun x14 =>
vPick x12 x14 cf fun x15 =>
cnd x15 (none)
(bAnd x11 (cu 127) fun x16 =>
vCv .u64 x16 fun x17 =>
bMul (ci 7) x4 fun x18 =>
bShl x17 x18 fun x19 =>
bOr x5 x19 fun x20 =>
bGt x11 (cu 127) fun x21 =>
cnd x21 (none)
(bGt x4 (ci 0) fun x22 =>
gK x22 true x11 fun x23 =>
gV x22 true (bEqF x23 (cu 0)) fun x24 =>
vPick x22 x24 cf fun x25 =>
cnd x25 (none)
(bShr x20 (.int .u64 1) fun x26 =>
vCv .i64 x26 fun x27 =>
bAnd x20 (.int .u64 1) fun x28 =>
bEqF x28 (.int .u64 1) fun x29 =>
cnd x29 (none)
(bAdd x4 (ci 1) fun x30 =>
K (.tup [x27, x30, (ci 0)]) s)))))
(K2 [] s)) [(ci 0), (.int .u64 0)] s)
def F406 : F2 := .fn H406 true
theorem fe406 : feE Tryz.prog ann 406 1 [.j [], .j [11, 5], .j [], .j [5], .cl, .cl, .cl, .cl] = some F406 := by kernel_rfl
/- daguerre/daguerrelaw4.begun -/
def H407 : F2C := fun c _ v s K =>
endE v (
vBld [.int .i64 0, .int .i64 0, .str [], .str []] (eCons 0 1 (ci 43) (eCons 2 1 (.str [65, 98]) (eCons 3 1 (.str [102]) eNil))) fun x0 =>
boxD false [.int .i64 0, .int .i64 0, .str [], .str []] s fun x1 s =>
zSt x1 x0 4 s fun _ s =>
ldA x1 (takeN 4) s fun x3 s =>
c (.mk .d0 .d6 .d3 .d3) [(.nil .sl), x3] s fun x4 s =>
appB 1 1 (.nil .sl) x4 s fun x5 s =>
zBsl [.int .u8 0] 1 1 (eCons 0 1 (cu 1) eNil) s fun x6 s =>
zTree (appB 1 1 x5 x6) s fun x7 s =>
c (.mk .d0 .d6 .d3 .d4) [x7] s fun x8 s =>
vExt x8 0 fun x9 =>
vExt x8 1 fun x10 =>
vExt x8 2 fun x11 =>
boxD false [.int .i64 0, .int .i64 0, .str [], .str []] s fun x12 s =>
zSt x12 x9 4 s fun _ s =>
c (.mk .d0 .d6 .d3 .d4) [(.nil .sl)] s fun x14 s =>
vExt x14 0 fun x15 =>
vExt x14 1 fun _ =>
vExt x14 2 fun x17 =>
boxD false [.int .i64 0, .int .i64 0, .str [], .str []] s fun x18 s =>
zSt x18 x15 4 s fun _ s =>
zBsl [.int .u8 0] 1 1 (eCons 0 1 (cu 0) eNil) s fun x20 s =>
c (.mk .d0 .d6 .d3 .d4) [x20] s fun x21 s =>
vExt x21 0 fun x22 =>
vExt x21 1 fun _ =>
vExt x21 2 fun x24 =>
boxD false [.int .i64 0, .int .i64 0, .str [], .str []] s fun x25 s =>
zSt x25 x22 4 s fun _ s =>
c (.mk .d0 .d6 .d3 .d5) [] s fun x27 s =>
gH x27 true (ldA x1 (takeN 4)) s fun x28 s =>
gH x27 true (c (.mk .d0 .d4 .d7 .d0) [x28]) s fun x29 s =>
vPick x27 x29 cf fun x30 =>
gV x30 true (vBld [.int .i64 0, .int .i64 0, .str [], .str []] (eCons 0 1 (ci 43) eNil)) fun x31 =>
gH x30 true (c (.mk .d0 .d4 .d7 .d0) [x31]) s fun x32 s =>
gV x30 true (vGen (.un .not (.c x32))) fun x33 =>
vPick x30 x33 cf fun x34 =>
gH x34 true (c (.mk .d0 .d1 .d4 .d7) [(ci 20)]) s fun x35 s =>
vPick x34 x35 cf fun x36 =>
gH x36 true (c (.mk .d0 .d1 .d4 .d7) [(ci 37)]) s fun x37 s =>
gV x36 true (vGen (.un .not (.c x37))) fun x38 =>
vPick x36 x38 cf fun x39 =>
gH x39 true (c (.mk .d0 .d1 .d5 .d1) [(ci 46)]) s fun x40 s =>
vPick x39 x40 cf fun x41 =>
gH x41 true (c (.mk .d0 .d1 .d5 .d1) [(ci 8)]) s fun x42 s =>
gV x41 true (vGen (.un .not (.c x42))) fun x43 =>
vPick x41 x43 cf fun x44 =>
gK x44 true x4 fun x45 =>
gV x44 true (vLenS x45) fun x46 =>
gV x44 true (bGt x46 (ci 4)) fun x47 =>
vPick x44 x47 cf fun x48 =>
gK x48 true x11 fun x49 =>
gV x48 true (bEqF x49 (ci 0)) fun x50 =>
vPick x48 x50 cf fun x51 =>
gK x51 true x10 fun x52 =>
gK x51 true x4 fun x53 =>
gV x51 true (vLenS x53) fun x54 =>
gV x51 true (bEqF x52 x54) fun x55 =>
vPick x51 x55 cf fun x56 =>
gH x56 true (ldA x1 (takeN 4)) s fun x57 s =>
gH x56 true (ldA x12 (takeN 4)) s fun x58 s =>
gH x56 true (c (.mk .d0 .d6 .d2 .d5) [x57, x58]) s fun x59 s =>
vPick x56 x59 cf fun x60 =>
gK x60 true x17 fun x61 =>
gV x60 true (bEqF x61 (ci 2)) fun x62 =>
vPick x60 x62 cf fun x63 =>
gK x63 true x24 fun x64 =>
gV x63 true (bEqF x64 (ci 1)) fun x65 =>
vPick x63 x65 cf fun x66 =>
K x66 s)
def F407 : F2 := .pur H407 true mNo
theorem fe407 : feE Tryz.prog ann 407 0 [] = some F407 := by kernel_rfl
def M407 (k : Nat) : F2 := .pur H407 true (Bool.rec mNo (mVal (.bool true)) (Nat.ble 2 k))
/- slices.Equal[[]daguerre/api.Field,daguerre/api.Field] -/
def H408 : F2C := fun _ k v s K =>
pop v fun x0 v =>
pop v fun x1 v =>
endE v (
vLenS x0 fun x2 =>
vLenS x1 fun x3 =>
bEqT x2 x3 fun x4 =>
cnd x4 (none)
(vLenS x0 fun x5 =>
jn (fun _ s =>
K ct s) fun K6 =>
loopE k (fun K7 v s =>
pop v fun x8 _ =>
bLt x8 x5 fun x9 =>
cnd x9 (jn (fun _ s =>
bAdd x8 (ci 1) fun x11 =>
K7 [x11] s) fun K10 =>
lgE qNoE (zK x0) s fun x12 e13 s =>
lgE qNoE (zK x8) s fun x14 e15 s =>
lgE qNoE (zV (vIaS x12 x14 3)) s fun x16 e17 s =>
lgE (qLdE x16 3) (ldA x16 (takeN 3)) s fun x18 e19 s =>
lgE qNoE (zK x1) s fun x20 e21 s =>
lgE qNoE (zK x8) s fun x22 e23 s =>
lgE qNoE (zV (vIaS x20 x22 3)) s fun x24 e25 s =>
lgE (qLdE x24 3) (ldA x24 (takeN 3)) s fun x26 e27 s =>
lgE qNoE (zV (vGen (.eqs true [(0, 1), (1, 1), (2, 2)] (.c x18) (.c x26)))) s fun x28 e29 s =>
calmE [(3, 7)] [e13, e15, e17, e19, e21, e23, e25, e27, e29] (fun s =>
cnd x28 (none)
(K10 [] s)) s)
(K6 [] s)) [(ci 0)] s))
def F408 : F2 := .fn H408 true
theorem fe408 : feE Tryz.prog ann 408 2 [.cl, .j [], .j [13], .j [], .j [], .cl] = some F408 := by kernel_rfl
/- slices.EqualFunc[[]daguerre/api.Method,[]daguerre/api.Method,daguerre/api.Method,daguerre/api.Method] -/
def H409 : F2C := fun c k v s K =>
pop v fun x0 v =>
pop v fun x1 v =>
pop v fun x2 v =>
endE v (
vLenS x0 fun x3 =>
vLenS x1 fun x4 =>
bEqT x3 x4 fun x5 =>
cnd x5 (none)
(vLenS x0 fun x6 =>
jn (fun _ s =>
K ct s) fun K7 =>
loopE k (fun K8 v s =>
pop v fun x9 _ =>
bLt x9 x6 fun x10 =>
cnd x10 (jn (fun _ s =>
bAdd x9 (ci 1) fun x12 =>
K8 [x12] s) fun K11 =>
vIaS x0 x9 10 fun x13 =>
ldA x13 (takeN 10) s fun x14 s =>
boxD false [.str [], .nil .sl, .str [], .bool false, .bool false, .int .i64 0, .int .i64 0, .nil .sl, .nil .sl, .nil .sl] s fun x15 s =>
zSt x15 x14 10 s fun _ s =>
vIaS x1 x9 10 fun x17 =>
ldA x17 (takeN 10) s fun x18 s =>
boxD false [.str [], .nil .sl, .str [], .bool false, .bool false, .int .i64 0, .int .i64 0, .nil .sl, .nil .sl, .nil .sl] s fun x19 s =>
zSt x19 x18 10 s fun _ s =>
ldA x15 (takeN 10) s fun x21 s =>
ldA x19 (takeN 10) s fun x22 s =>
zCallV c x2 [x21, x22] s fun x23 s =>
vGen (.un .not (.c x23)) fun x24 =>
cnd x24 (K cf s)
(K11 [] s))
(K7 [] s)) [(ci 0)] s))
def F409 : F2 := .fn H409 true
theorem fe409 : feE Tryz.prog ann 409 3 [.cl, .j [], .j [17], .j [], .j [], .j []] = some F409 := by kernel_rfl
/- daguerre/class.eqMethod -/
def H410 : F2C := fun c _ v s K =>
pop v fun x0 v =>
pop v fun x1 v =>
endE v (
zTbox x0 s fun x2 s =>
zTbox x1 s fun x3 s =>
fa1 x2 8 fun x4 =>
ldA x4 take1 s fun x5 s =>
fa1 x3 8 fun x6 =>
ldA x6 take1 s fun x7 s =>
c (.mk .d0 .d6 .d3 .d6) [x5, x7, (.fn 415 [] [])] s fun x8 s =>
fa1 x2 0 fun x9 =>
ldA x9 take1 s fun x10 s =>
fa1 x3 0 fun x11 =>
ldA x11 take1 s fun x12 s =>
bEqF x10 x12 fun x13 =>
gV x13 true (fa1 x2 1) fun x14 =>
gH x13 true (ldA x14 take1) s fun x15 s =>
gV x13 true (fa1 x3 1) fun x16 =>
gH x13 true (ldA x16 take1) s fun x17 s =>
gH x13 true (c (.mk .d0 .d4 .d3 .d0) [x15, x17]) s fun x18 s =>
vPick x13 x18 cf fun x19 =>
gV x19 true (fa1 x2 2) fun x20 =>
gH x19 true (ldA x20 take1) s fun x21 s =>
gV x19 true (fa1 x3 2) fun x22 =>
gH x19 true (ldA x22 take1) s fun x23 s =>
gV x19 true (bEqF x21 x23) fun x24 =>
vPick x19 x24 cf fun x25 =>
gV x25 true (fa1 x2 3) fun x26 =>
gH x25 true (ldA x26 take1) s fun x27 s =>
gV x25 true (fa1 x3 3) fun x28 =>
gH x25 true (ldA x28 take1) s fun x29 s =>
gV x25 true (vBeq false x27 x29) fun x30 =>
vPick x25 x30 cf fun x31 =>
gV x31 true (fa1 x2 4) fun x32 =>
gH x31 true (ldA x32 take1) s fun x33 s =>
gV x31 true (fa1 x3 4) fun x34 =>
gH x31 true (ldA x34 take1) s fun x35 s =>
gV x31 true (vBeq false x33 x35) fun x36 =>
vPick x31 x36 cf fun x37 =>
gK x8 true x37 fun x38 =>
vPick x8 x38 cf fun x39 =>
gV x39 true (fa1 x2 5) fun x40 =>
gH x39 true (ldA x40 take1) s fun x41 s =>
gV x39 true (fa1 x3 5) fun x42 =>
gH x39 true (ldA x42 take1) s fun x43 s =>
gV x39 true (bEqF x41 x43) fun x44 =>
vPick x39 x44 cf fun x45 =>
gV x45 true (fa1 x2 6) fun x46 =>
gH x45 true (ldA x46 take1) s fun x47 s =>
gV x45 true (fa1 x3 6) fun x48 =>
gH x45 true (ldA x48 take1) s fun x49 s =>
gV x45 true (bEqF x47 x49) fun x50 =>
vPick x45 x50 cf fun x51 =>
gV x51 true (fa1 x2 7) fun x52 =>
gH x51 true (ldA x52 take1) s fun x53 s =>
gV x51 true (fa1 x3 7) fun x54 =>
gH x51 true (ldA x54 take1) s fun x55 s =>
gH x51 true (c (.mk .d0 .d6 .d4 .d0) [x53, x55]) s fun x56 s =>
vPick x51 x56 cf fun x57 =>
gV x57 true (fa1 x2 9) fun x58 =>
gH x57 true (ldA x58 take1) s fun x59 s =>
gV x57 true (fa1 x3 9) fun x60 =>
gH x57 true (ldA x60 take1) s fun x61 s =>
gH x57 true (c (.mk .d0 .d6 .d4 .d1) [x59, x61]) s fun x62 s =>
vPick x57 x62 cf fun x63 =>
K x63 s)
def F410 : F2 := .fn H410 true
theorem fe410 : feE Tryz.prog ann 410 2 [] = some F410 := by kernel_rfl
/- daguerre/op.Put -/
def H411 : F2C := fun c _ v s K =>
pop v fun x0 v =>
pop v fun x1 v =>
endE v (
zTbox x1 s fun x2 s =>
fa1 x2 0 fun x3 =>
ldA x3 take1 s fun x4 s =>
c (.mk .d0 .d5 .d6 .d5) [x0, x4] s fun x5 s =>
fa1 x2 0 fun x6 =>
ldA x6 take1 s fun x7 s =>
c (.mk .d0 .d6 .d4 .d2) [x7] s fun x8 s =>
cnd x8 (none)
(fa1 x2 0 fun x9 =>
ldA x9 take1 s fun x10 s =>
c (.mk .d0 .d5 .d3 .d0) [x10] s fun x11 s =>
cnd x11 (fa1 x2 2 fun x12 =>
ldA x12 take1 s fun x13 s =>
c (.mk .d0 .d5 .d6 .d6) [x5, x13] s fun x14 s =>
fa1 x2 0 fun x15 =>
ldA x15 take1 s fun x16 s =>
c (.mk .d0 .d5 .d3 .d1) [x16] s fun x17 s =>
cnd x17 (fa1 x2 3 fun x18 =>
ldA x18 take1 s fun x19 s =>
c (.mk .d0 .d5 .d6 .d6) [x14, x19] s fun x20 s =>
K x20 s)
(none))
(none)))
def F411 : F2 := .fn H411 true
theorem fe411 : feE Tryz.prog ann 411 2 [.cl, .cr, .cr] = some F411 := by kernel_rfl
/- daguerre/op.Get -/
def H412 : F2C := fun c _ v s K =>
pop v fun x0 v =>
endE v (
boxD false [.int .i64 0, .int .i64 0, .str [], .str []] s fun x1 s =>
vBld [.nil .sl, .int .i64 0, .int .i64 0] (eCons 0 1 x0 eNil) fun x2 =>
zBox false x2 s fun x3 s =>
c (.mk .d0 .d6 .d4 .d3) [x3, (.fn 326 [] [])] s fun x4 s =>
vBld [.int .i64 0, .int .i64 0, .str [], .str []] (eCons 0 1 x4 eNil) fun x5 =>
boxD false [.int .i64 0, .int .i64 0, .str [], .str []] s fun x6 s =>
zSt x6 x5 4 s fun _ s =>
fa1 x6 0 fun x8 =>
ldA x8 take1 s fun x9 s =>
c (.mk .d0 .d6 .d4 .d2) [x9] s fun x10 s =>
cnd x10 (none)
(fa1 x6 0 fun x11 =>
ldA x11 take1 s fun x12 s =>
c (.mk .d0 .d5 .d3 .d0) [x12] s fun x13 s =>
jn (fun _ s =>
fa1 x6 0 fun x15 =>
ldA x15 take1 s fun x16 s =>
c (.mk .d0 .d5 .d3 .d1) [x16] s fun x17 s =>
jn (fun _ s =>
vChk x3 fun x19 =>
fa1 x19 2 fun x20 =>
ldA x20 take1 s fun x21 s =>
bEqT x21 (ci 0) fun x22 =>
cnd x22 (lgE qNoE (zV (vBld [.int .i64 0, .int .i64 0, .str [], .str []] eNil)) s fun x23 e24 s =>
lgE qNoE (zK x3) s fun x25 e26 s =>
lgE qNoE (zV (vChk x25)) s fun x27 e28 s =>
lgE qNoE (zV (fa1 x27 2)) s fun x29 e30 s =>
lgE (qLdE x29 1) (ldA x29 take1) s fun x31 e32 s =>
lgE qNoE (zSt x1 x23 4) s fun _ e34 s =>
lgE qNoE (zK (ci 0)) s fun x35 e36 s =>
lgE qNoE (zK x31) s fun x37 e38 s =>
calmE [(0, 4), (4, 5)] [e24, e26, e28, e30, e32, e34, e36, e38] (fun s =>
ldA x1 (takeN 4) s fun x39 s => K (.tup [x39, x35, x37]) s) s)
(lgE (qLdE x6 4) (ldA x6 (takeN 4)) s fun x40 e41 s =>
lgE qNoE (zK x3) s fun x42 e43 s =>
lgE qNoE (zV (vChk x42)) s fun x44 e45 s =>
lgE qNoE (zV (fa1 x44 1)) s fun x46 e47 s =>
lgE (qLdE x46 1) (ldA x46 take1) s fun x48 e49 s =>
lgE qNoE (zSt x1 x40 4) s fun _ e51 s =>
lgE qNoE (zK x48) s fun x52 e53 s =>
lgE qNoE (zK (ci 0)) s fun x54 e55 s =>
calmE [(0, 4), (4, 5)] [e41, e43, e45, e47, e49, e51, e53, e55] (fun s =>
ldA x1 (takeN 4) s fun x56 s => K (.tup [x56, x52, x54]) s) s)) fun K18 =>
cnd x17 (vGen (.mkf 423 [] [(.c x6)]) fun x57 =>
c (.mk .d0 .d6 .d4 .d5) [x3, x57] s fun x58 s =>
fa1 x6 3 fun x59 =>
zSt x59 x58 1 s fun _ s =>
K18 [] s)
(K18 [] s)) fun K14 =>
cnd x13 (vGen (.mkf 422 [] [(.c x6)]) fun x61 =>
c (.mk .d0 .d6 .d4 .d5) [x3, x61] s fun x62 s =>
fa1 x6 2 fun x63 =>
zSt x63 x62 1 s fun _ s =>
K14 [] s)
(K14 [] s)))
def F412 : F2 := .fn H412 true
theorem fe412 : feE Tryz.prog ann 412 1 [.cl, .j [], .j [], .j []] = some F412 := by kernel_rfl
/- daguerre/daguerrelaw3.Begun -/
def H413 : F2C := fun c _ v s K =>
endE v (
c (.mk .d0 .d6 .d5 .d0) [] s fun x0 s =>
K x0 s)
def F413 : F2 := .pur H413 true mNo
theorem fe413 : feE Tryz.prog ann 413 0 [] = some F413 := by kernel_rfl
/- slices.EqualFunc[[]daguerre/api.Map,[]daguerre/api.Map,daguerre/api.Map,daguerre/api.Map] -/
def H414 : F2C := fun _ k v s K =>
pop v fun x0 v =>
pop v fun x1 v =>
pop v fun _ v =>
endE v (
vLenS x0 fun x3 =>
vLenS x1 fun x4 =>
bEqT x3 x4 fun x5 =>
cnd x5 (none)
(vLenS x0 fun x6 =>
jn (fun _ s =>
K ct s) fun K7 =>
loopE k (fun _ v s =>
pop v fun x9 _ =>
bLt x9 x6 fun x10 =>
cnd x10 (none)
(K7 [] s)) [(ci 0)] s))
def F414 : F2 := .fn H414 true
theorem fe414 : feE Tryz.prog ann 414 3 [.cl, .j [], .j [17], .cl, .j [], .ch] = some F414 := by kernel_rfl
/- slices.Equal[[]daguerre/api.Ins,daguerre/api.Ins] -/
def H416 : F2C := fun _ k v s K =>
pop v fun x0 v =>
pop v fun x1 v =>
endE v (
vLenS x0 fun x2 =>
vLenS x1 fun x3 =>
bEqT x2 x3 fun x4 =>
cnd x4 (none)
(vLenS x0 fun x5 =>
jn (fun _ s =>
K ct s) fun K6 =>
loopE k (fun K7 v s =>
pop v fun x8 _ =>
bLt x8 x5 fun x9 =>
cnd x9 (jn (fun _ s =>
bAdd x8 (ci 1) fun x11 =>
K7 [x11] s) fun K10 =>
lgE qNoE (zK x0) s fun x12 e13 s =>
lgE qNoE (zK x8) s fun x14 e15 s =>
lgE qNoE (zV (vIaS x12 x14 4)) s fun x16 e17 s =>
lgE (qLdE x16 4) (ldA x16 (takeN 4)) s fun x18 e19 s =>
lgE qNoE (zK x1) s fun x20 e21 s =>
lgE qNoE (zK x8) s fun x22 e23 s =>
lgE qNoE (zV (vIaS x20 x22 4)) s fun x24 e25 s =>
lgE (qLdE x24 4) (ldA x24 (takeN 4)) s fun x26 e27 s =>
lgE qNoE (zV (vGen (.eqs true [(0, 0), (1, 0), (2, 1), (3, 1)] (.c x18) (.c x26)))) s fun x28 e29 s =>
calmE [(3, 7)] [e13, e15, e17, e19, e21, e23, e25, e27, e29] (fun s =>
cnd x28 (none)
(K10 [] s)) s)
(K6 [] s)) [(ci 0)] s))
def F416 : F2 := .fn H416 true
theorem fe416 : feE Tryz.prog ann 416 2 [.cl, .j [], .j [13], .j [], .j [], .cl] = some F416 := by kernel_rfl
/- slices.Equal[[]daguerre/api.Trap,daguerre/api.Trap] -/
def H417 : F2C := fun _ k v s K =>
pop v fun x0 v =>
pop v fun x1 v =>
endE v (
vLenS x0 fun x2 =>
vLenS x1 fun x3 =>
bEqT x2 x3 fun x4 =>
cnd x4 (none)
(vLenS x0 fun x5 =>
jn (fun _ s =>
K ct s) fun K6 =>
loopE k (fun _ v s =>
pop v fun x8 _ =>
bLt x8 x5 fun x9 =>
cnd x9 (none)
(K6 [] s)) [(ci 0)] s))
def F417 : F2 := .fn H417 true
theorem fe417 : feE Tryz.prog ann 417 2 [.cl, .j [], .j [13], .cl, .j [], .ch] = some F417 := by kernel_rfl
/- daguerre/op.a -/
def H418 : F2C := fun c _ v s K =>
pop v fun x0 v =>
endE v (
bEqF x0 (ci 1) fun x1 =>
gK x1 false x0 fun x2 =>
gV x1 false (bEqF x2 (ci 3)) fun x3 =>
vPick x1 ct x3 fun x4 =>
gK x4 false x0 fun x5 =>
gV x4 false (bEqF x5 (ci 4)) fun x6 =>
vPick x4 ct x6 fun x7 =>
gK x7 false x0 fun x8 =>
gH x7 false (c (.mk .d0 .d1 .d4 .d7) [x8]) s fun x9 s =>
vPick x7 ct x9 fun x10 =>
K x10 s)
def F418 : F2 := .fn H418 true
theorem fe418 : feE Tryz.prog ann 418 1 [] = some F418 := by kernel_rfl
/- (*daguerre/op.reader).num -/
def H419 : F2C := fun c _ v s K =>
pop v fun x0 v =>
pop v fun x1 v =>
endE v (
vChk x0 fun x2 =>
fa1 x2 2 fun x3 =>
ldA x3 take1 s fun x4 s =>
bEqT x4 (ci 0) fun x5 =>
cnd x5 (none)
(lgE qNoE (zK x0) s fun x6 e7 s =>
lgE qNoE (zV (vChk x6)) s fun x8 e9 s =>
lgE qNoE (zV (fa1 x8 0)) s fun x10 e11 s =>
lgE (qLdE x10 1) (ldA x10 take1) s fun x12 e13 s =>
lgE qNoE (zK x0) s fun x14 e15 s =>
lgE qNoE (zV (vChk x14)) s fun x16 e17 s =>
lgE qNoE (zV (fa1 x16 1)) s fun x18 e19 s =>
lgE (qLdE x18 1) (ldA x18 take1) s fun x20 e21 s =>
lgE qNoE (zV (vSlt x12 (eX x20) eN 1)) s fun x22 e23 s =>
lgE qNoE (c (.mk .d0 .d6 .d2 .d6) [x22]) s fun x24 e25 s =>
lgE qNoE (zK x24) s fun x26 e27 s =>
lgE qNoE (zV (vExt x26 0)) s fun x28 e29 s =>
lgE qNoE (zV (vExt x26 1)) s fun x30 e31 s =>
lgE qNoE (zV (vExt x26 2)) s fun x32 e33 s =>
lgE qNoE (zK x28) s fun x34 e35 s =>
lgE qNoE (zK x30) s fun x36 e37 s =>
lgE qNoE (zK x32) s fun x38 e39 s =>
calmE [(3, 7)] [e7, e9, e11, e13, e15, e17, e19, e21, e23, e25, e27, e29, e31, e33, e35, e37, e39] (fun s =>
bEqF x38 (ci 0) fun x40 =>
gK x40 true x1 fun x41 =>
gK x40 true x34 fun x42 =>
gH x40 true (zCallV c x41 [x42]) s fun x43 s =>
gV x40 true (vGen (.un .not (.c x43))) fun x44 =>
vPick x40 x44 cf fun x45 =>
jn (fun v s =>
pop v fun x47 _ =>
vChk x0 fun x48 =>
fa1 x48 1 fun x49 =>
ldA x49 take1 s fun x50 s =>
bAdd x50 x36 fun x51 =>
vChk x0 fun x52 =>
fa1 x52 1 fun x53 =>
zSt x53 x51 1 s fun _ s =>
vChk x0 fun x55 =>
fa1 x55 2 fun x56 =>
zSt x56 x47 1 s fun _ s =>
K x34 s) fun K46 =>
cnd x45 (K46 [(ci 1)] s)
(K46 [x38] s)) s))
def F419 : F2 := .fn H419 true
theorem fe419 : feE Tryz.prog ann 419 2 [.cl, .j [7]] = some F419 := by kernel_rfl
/- daguerre/op.Get$2 -/
def H422 : F2C := fun c _ v s K =>
pop v fun x0 v =>
pop v fun x1 v =>
endE v (
fa1 x1 0 fun x2 =>
ldA x2 take1 s fun x3 s =>
c (.mk .d0 .d5 .d1 .d0) [x3, x0] s fun x4 s =>
K x4 s)
def F422 : F2 := .fn H422 true
theorem fe422 : feE Tryz.prog ann 422 2 [] = some F422 := by kernel_rfl
/- (*daguerre/op.reader).text -/
def H421 : F2C := fun c _ v s K =>
pop v fun x0 v =>
pop v fun x1 v =>
endE v (
vChk x0 fun x2 =>
fa1 x2 2 fun x3 =>
ldA x3 take1 s fun x4 s =>
bEqT x4 (ci 0) fun x5 =>
cnd x5 (none)
(lgE qNoE (zK x0) s fun x6 e7 s =>
lgE qNoE (zV (vChk x6)) s fun x8 e9 s =>
lgE qNoE (zV (fa1 x8 0)) s fun x10 e11 s =>
lgE (qLdE x10 1) (ldA x10 take1) s fun x12 e13 s =>
lgE qNoE (zK x0) s fun x14 e15 s =>
lgE qNoE (zV (vChk x14)) s fun x16 e17 s =>
lgE qNoE (zV (fa1 x16 1)) s fun x18 e19 s =>
lgE (qLdE x18 1) (ldA x18 take1) s fun x20 e21 s =>
lgE qNoE (zV (vSlt x12 (eX x20) eN 1)) s fun x22 e23 s =>
lgE qNoE (c (.mk .d0 .d6 .d1 .d3) [x22]) s fun x24 e25 s =>
lgE qNoE (zK x24) s fun x26 e27 s =>
lgE qNoE (zV (vExt x26 0)) s fun x28 e29 s =>
lgE qNoE (zV (vExt x26 1)) s fun x30 e31 s =>
lgE qNoE (zV (vExt x26 2)) s fun x32 e33 s =>
lgE qNoE (zK x28) s fun x34 e35 s =>
lgE qNoE (zK x30) s fun x36 e37 s =>
lgE qNoE (zK x32) s fun x38 e39 s =>
calmE [(3, 7)] [e7, e9, e11, e13, e15, e17, e19, e21, e23, e25, e27, e29, e31, e33, e35, e37, e39] (fun s =>
bEqF x38 (ci 0) fun x40 =>
gK x40 true x1 fun x41 =>
gK x40 true x34 fun x42 =>
gH x40 true (zCallV c x41 [x42]) s fun x43 s =>
gV x40 true (vGen (.un .not (.c x43))) fun x44 =>
vPick x40 x44 cf fun x45 =>
cnd x45 (none)
(vChk x0 fun x46 =>
fa1 x46 1 fun x47 =>
ldA x47 take1 s fun x48 s =>
bAdd x48 x36 fun x49 =>
vChk x0 fun x50 =>
fa1 x50 1 fun x51 =>
zSt x51 x49 1 s fun _ s =>
vChk x0 fun x53 =>
fa1 x53 2 fun x54 =>
zSt x54 x38 1 s fun _ s =>
K x34 s)) s))
def F421 : F2 := .fn H421 true
theorem fe421 : feE Tryz.prog ann 421 2 [.cl, .cl] = some F421 := by kernel_rfl
/- daguerre/op.Get$3 -/
def H423 : F2C := fun c _ v s K =>
pop v fun x0 v =>
pop v fun x1 v =>
endE v (
fa1 x1 0 fun x2 =>
ldA x2 take1 s fun x3 s =>
c (.mk .d0 .d5 .d1 .d1) [x3, x0] s fun x4 s =>
K x4 s)
def F423 : F2 := .fn H423 true
theorem fe423 : feE Tryz.prog ann 423 2 [] = some F423 := by kernel_rfl
/- daguerre/daguerrelaw3.begun -/
def H424 : F2C := fun c _ v s K =>
endE v (
c (.mk .d0 .d2 .d2 .d6) [(.str [91, 91, 65, 98])] s fun x0 s =>
vExt x0 0 fun x1 =>
vExt x0 1 fun x2 =>
c (.mk .d0 .d2 .d2 .d6) [(.str [65, 98])] s fun x3 s =>
vExt x3 0 fun _ =>
vExt x3 1 fun x5 =>
c (.mk .d0 .d2 .d6 .d1) [(.str [65, 98])] s fun x6 s =>
gH x6 true (c (.mk .d0 .d2 .d6 .d1) [(.str [65])]) s fun x7 s =>
gV x6 true (vGen (.un .not (.c x7))) fun x8 =>
vPick x6 x8 cf fun x9 =>
gH x9 true (c (.mk .d0 .d2 .d5 .d3) [(.str [97, 98])]) s fun x10 s =>
vPick x9 x10 cf fun x11 =>
gH x11 true (c (.mk .d0 .d2 .d5 .d3) [(.str [36, 105, 110, 105, 116])]) s fun x12 s =>
vPick x11 x12 cf fun x13 =>
gH x13 true (c (.mk .d0 .d2 .d5 .d3) [(.str [65, 98])]) s fun x14 s =>
gV x13 true (vGen (.un .not (.c x14))) fun x15 =>
vPick x13 x15 cf fun x16 =>
gH x16 true (c (.mk .d0 .d2 .d5 .d4) [(.str [91, 91, 73])]) s fun x17 s =>
vPick x16 x17 cf fun x18 =>
gH x18 true (c (.mk .d0 .d2 .d5 .d4) [(.str [91, 91, 91, 73])]) s fun x19 s =>
gV x18 true (vGen (.un .not (.c x19))) fun x20 =>
vPick x18 x20 cf fun x21 =>
gH x21 true (c (.mk .d0 .d4 .d1 .d4) [(.str [86])]) s fun x22 s =>
vPick x21 x22 cf fun x23 =>
gH x23 true (c (.mk .d0 .d2 .d5 .d4) [(.str [86])]) s fun x24 s =>
gV x23 true (vGen (.un .not (.c x24))) fun x25 =>
vPick x23 x25 cf fun x26 =>
gH x26 true (c (.mk .d0 .d1 .d6 .d5) [(.str [91, 73])]) s fun x27 s =>
vPick x26 x27 cf fun x28 =>
gH x28 true (c (.mk .d0 .d1 .d6 .d5) [(.str [73])]) s fun x29 s =>
gV x28 true (vGen (.un .not (.c x29))) fun x30 =>
vPick x28 x30 cf fun x31 =>
gK x31 true x1 fun x32 =>
gV x31 true (bEqF x32 (.str [91, 65, 98])) fun x33 =>
vPick x31 x33 cf fun x34 =>
gK x34 true x2 fun x35 =>
vPick x34 x35 cf fun x36 =>
gK x36 true x5 fun x37 =>
gV x36 true (vGen (.un .not (.c x37))) fun x38 =>
vPick x36 x38 cf fun x39 =>
gH x39 true (c (.mk .d0 .d3 .d6 .d5) [(.str [73])]) s fun x40 s =>
gV x39 true (bEqF x40 (.str [91, 73])) fun x41 =>
vPick x39 x41 cf fun x42 =>
gH x42 true (c (.mk .d0 .d3 .d6 .d5) [(.str [91, 91, 73])]) s fun x43 s =>
gV x42 true (bEqF x43 (.str [])) fun x44 =>
vPick x42 x44 cf fun x45 =>
K x45 s)
def F424 : F2 := .pur H424 true mNo
theorem fe424 : feE Tryz.prog ann 424 0 [] = some F424 := by kernel_rfl
def M424 (k : Nat) : F2 := .pur H424 true (Bool.rec mNo (mVal (.bool true)) (Nat.ble 1 k))
/- daguerre/kind.Array -/
def H245 : F2C := fun c _ v s K =>
pop v fun x0 v =>
endE v (
c (.mk .d0 .d2 .d5 .d4) [x0] s fun x1 s =>
vGen (.un .not (.c x1)) fun x2 =>
gK x2 false x0 fun x3 =>
gV x2 false (bAdd (.str [91]) x3) fun x4 =>
gH x2 false (c (.mk .d0 .d2 .d5 .d4) [x4]) s fun x5 s =>
gV x2 false (vGen (.un .not (.c x5))) fun x6 =>
vPick x2 ct x6 fun x7 =>
cnd x7 (K (.str []) s)
(bAdd (.str [91]) x0 fun x8 =>
K x8 s))
def F245 : F2 := .fn H245 true
theorem fe245 : feE Tryz.prog ann 245 1 [.j []] = some F245 := by kernel_rfl
structure Hy (k : Nat) : Prop where
  h424 : 1 ≤ k → PureC Tryz.prog ann 424 [] (.bool true)
  h407 : 2 ≤ k → PureC Tryz.prog ann 407 [] (.bool true)
  h385 : 3 ≤ k → PureC Tryz.prog ann 385 [] (.bool true)
  h355 : 4 ≤ k → PureC Tryz.prog ann 355 [] (.bool true)
  h341 : 5 ≤ k → PureC Tryz.prog ann 341 [] (.bool true)
  h298 : 6 ≤ k → PureC Tryz.prog ann 298 [] (.bool true)
  h324 : 7 ≤ k → PureC Tryz.prog ann 324 [] (.bool true)
  h261 : 8 ≤ k → PureC Tryz.prog ann 261 [] (.bool true)
  h77 : 9 ≤ k → PureC Tryz.prog ann 77 [] (.bool true)
  h114 : 10 ≤ k → PureC Tryz.prog ann 114 [] (.bool true)
  h296 : 11 ≤ k → PureC Tryz.prog ann 296 [] (.bool true)
  h115 : 12 ≤ k → PureC Tryz.prog ann 115 [] (.bool true)
  h299 : 13 ≤ k → PureC Tryz.prog ann 299 [] (.bool true)
  h116 : 14 ≤ k → PureC Tryz.prog ann 116 [] (.bool true)
  h12 : 15 ≤ k → PureC Tryz.prog ann 12 [] (.bool true)
  h78 : 16 ≤ k → PureC Tryz.prog ann 78 [] (.bool true)
  h7 : 17 ≤ k → PureC Tryz.prog ann 7 [] (.bool true)
  h158 : 18 ≤ k → PureC Tryz.prog ann 158 [] (.bool true)
  h26 : 19 ≤ k → PureC Tryz.prog ann 26 [] (.bool true)
theorem fm424 (k : Nat) (h : 1 ≤ k → PureC Tryz.prog ann 424 [] (.bool true)) : F2ok Tryz.prog ann 424 (M424 k) := by
  have h0 : F2ok Tryz.prog ann 424 (.pur H424 true mNo) := fe2_of fe424
  unfold M424
  cases hb : Nat.ble 1 k with
  | true => exact fe2_memo h0 (h (Nat.le_of_ble_eq_true hb))
  | false => exact h0
theorem fm407 (k : Nat) (h : 2 ≤ k → PureC Tryz.prog ann 407 [] (.bool true)) : F2ok Tryz.prog ann 407 (M407 k) := by
  have h0 : F2ok Tryz.prog ann 407 (.pur H407 true mNo) := fe2_of fe407
  unfold M407
  cases hb : Nat.ble 2 k with
  | true => exact fe2_memo h0 (h (Nat.le_of_ble_eq_true hb))
  | false => exact h0
theorem fm385 (k : Nat) (h : 3 ≤ k → PureC Tryz.prog ann 385 [] (.bool true)) : F2ok Tryz.prog ann 385 (M385 k) := by
  have h0 : F2ok Tryz.prog ann 385 (.pur H385 true mNo) := fe2_of fe385
  unfold M385
  cases hb : Nat.ble 3 k with
  | true => exact fe2_memo h0 (h (Nat.le_of_ble_eq_true hb))
  | false => exact h0
theorem fm355 (k : Nat) (h : 4 ≤ k → PureC Tryz.prog ann 355 [] (.bool true)) : F2ok Tryz.prog ann 355 (M355 k) := by
  have h0 : F2ok Tryz.prog ann 355 (.pur H355 true mNo) := fe2_of fe355
  unfold M355
  cases hb : Nat.ble 4 k with
  | true => exact fe2_memo h0 (h (Nat.le_of_ble_eq_true hb))
  | false => exact h0
theorem fm341 (k : Nat) (h : 5 ≤ k → PureC Tryz.prog ann 341 [] (.bool true)) : F2ok Tryz.prog ann 341 (M341 k) := by
  have h0 : F2ok Tryz.prog ann 341 (.pur H341 true mNo) := fe2_of fe341
  unfold M341
  cases hb : Nat.ble 5 k with
  | true => exact fe2_memo h0 (h (Nat.le_of_ble_eq_true hb))
  | false => exact h0
theorem fm298 (k : Nat) (h : 6 ≤ k → PureC Tryz.prog ann 298 [] (.bool true)) : F2ok Tryz.prog ann 298 (M298 k) := by
  have h0 : F2ok Tryz.prog ann 298 (.pur H298 true mNo) := fe2_of fe298
  unfold M298
  cases hb : Nat.ble 6 k with
  | true => exact fe2_memo h0 (h (Nat.le_of_ble_eq_true hb))
  | false => exact h0
theorem fm324 (k : Nat) (h : 7 ≤ k → PureC Tryz.prog ann 324 [] (.bool true)) : F2ok Tryz.prog ann 324 (M324 k) := by
  have h0 : F2ok Tryz.prog ann 324 (.pur H324 true mNo) := fe2_of fe324
  unfold M324
  cases hb : Nat.ble 7 k with
  | true => exact fe2_memo h0 (h (Nat.le_of_ble_eq_true hb))
  | false => exact h0
theorem fm261 (k : Nat) (h : 8 ≤ k → PureC Tryz.prog ann 261 [] (.bool true)) : F2ok Tryz.prog ann 261 (M261 k) := by
  have h0 : F2ok Tryz.prog ann 261 (.pur H261 true mNo) := fe2_of fe261
  unfold M261
  cases hb : Nat.ble 8 k with
  | true => exact fe2_memo h0 (h (Nat.le_of_ble_eq_true hb))
  | false => exact h0
theorem fm77 (k : Nat) (h : 9 ≤ k → PureC Tryz.prog ann 77 [] (.bool true)) : F2ok Tryz.prog ann 77 (M77 k) := by
  have h0 : F2ok Tryz.prog ann 77 (.pur H77 true mNo) := fe2_of fe77
  unfold M77
  cases hb : Nat.ble 9 k with
  | true => exact fe2_memo h0 (h (Nat.le_of_ble_eq_true hb))
  | false => exact h0
theorem fm114 (k : Nat) (h : 10 ≤ k → PureC Tryz.prog ann 114 [] (.bool true)) : F2ok Tryz.prog ann 114 (M114 k) := by
  have h0 : F2ok Tryz.prog ann 114 (.pur H114 true mNo) := fe2_of fe114
  unfold M114
  cases hb : Nat.ble 10 k with
  | true => exact fe2_memo h0 (h (Nat.le_of_ble_eq_true hb))
  | false => exact h0
theorem fm296 (k : Nat) (h : 11 ≤ k → PureC Tryz.prog ann 296 [] (.bool true)) : F2ok Tryz.prog ann 296 (M296 k) := by
  have h0 : F2ok Tryz.prog ann 296 (.pur H296 true mNo) := fe2_of fe296
  unfold M296
  cases hb : Nat.ble 11 k with
  | true => exact fe2_memo h0 (h (Nat.le_of_ble_eq_true hb))
  | false => exact h0
theorem fm115 (k : Nat) (h : 12 ≤ k → PureC Tryz.prog ann 115 [] (.bool true)) : F2ok Tryz.prog ann 115 (M115 k) := by
  have h0 : F2ok Tryz.prog ann 115 (.pur H115 true mNo) := fe2_of fe115
  unfold M115
  cases hb : Nat.ble 12 k with
  | true => exact fe2_memo h0 (h (Nat.le_of_ble_eq_true hb))
  | false => exact h0
theorem fm299 (k : Nat) (h : 13 ≤ k → PureC Tryz.prog ann 299 [] (.bool true)) : F2ok Tryz.prog ann 299 (M299 k) := by
  have h0 : F2ok Tryz.prog ann 299 (.pur H299 true mNo) := fe2_of fe299
  unfold M299
  cases hb : Nat.ble 13 k with
  | true => exact fe2_memo h0 (h (Nat.le_of_ble_eq_true hb))
  | false => exact h0
theorem fm116 (k : Nat) (h : 14 ≤ k → PureC Tryz.prog ann 116 [] (.bool true)) : F2ok Tryz.prog ann 116 (M116 k) := by
  have h0 : F2ok Tryz.prog ann 116 (.pur H116 true mNo) := fe2_of fe116
  unfold M116
  cases hb : Nat.ble 14 k with
  | true => exact fe2_memo h0 (h (Nat.le_of_ble_eq_true hb))
  | false => exact h0
theorem fm12 (k : Nat) (h : 15 ≤ k → PureC Tryz.prog ann 12 [] (.bool true)) : F2ok Tryz.prog ann 12 (M12 k) := by
  have h0 : F2ok Tryz.prog ann 12 (.pur H12 true mNo) := fe2_of fe12
  unfold M12
  cases hb : Nat.ble 15 k with
  | true => exact fe2_memo h0 (h (Nat.le_of_ble_eq_true hb))
  | false => exact h0
theorem fm78 (k : Nat) (h : 16 ≤ k → PureC Tryz.prog ann 78 [] (.bool true)) : F2ok Tryz.prog ann 78 (M78 k) := by
  have h0 : F2ok Tryz.prog ann 78 (.pur H78 true mNo) := fe2_of fe78
  unfold M78
  cases hb : Nat.ble 16 k with
  | true => exact fe2_memo h0 (h (Nat.le_of_ble_eq_true hb))
  | false => exact h0
theorem fm7 (k : Nat) (h : 17 ≤ k → PureC Tryz.prog ann 7 [] (.bool true)) : F2ok Tryz.prog ann 7 (M7 k) := by
  have h0 : F2ok Tryz.prog ann 7 (.pur H7 true mNo) := fe2_of fe7
  unfold M7
  cases hb : Nat.ble 17 k with
  | true => exact fe2_memo h0 (h (Nat.le_of_ble_eq_true hb))
  | false => exact h0
theorem fm158 (k : Nat) (h : 18 ≤ k → PureC Tryz.prog ann 158 [] (.bool true)) : F2ok Tryz.prog ann 158 (M158 k) := by
  have h0 : F2ok Tryz.prog ann 158 (.pur H158 true mNo) := fe2_of fe158
  unfold M158
  cases hb : Nat.ble 18 k with
  | true => exact fe2_memo h0 (h (Nat.le_of_ble_eq_true hb))
  | false => exact h0
theorem fm26 (k : Nat) (h : 19 ≤ k → PureC Tryz.prog ann 26 [] (.bool true)) : F2ok Tryz.prog ann 26 (M26 k) := by
  have h0 : F2ok Tryz.prog ann 26 (.pur H26 true mNo) := fe2_of fe26
  unfold M26
  cases hb : Nat.ble 19 k with
  | true => exact fe2_memo h0 (h (Nat.le_of_ble_eq_true hb))
  | false => exact h0
def tbN : N8 (Option F2) := ⟨none, none, none, none, none, none, none, none⟩
def tbNN : N8 (N8 (Option F2)) := ⟨tbN, tbN, tbN, tbN, tbN, tbN, tbN, tbN⟩
def tbNNN : N8 (N8 (N8 (Option F2))) := ⟨tbNN, tbNN, tbNN, tbNN, tbNN, tbNN, tbNN, tbNN⟩
theorem zN (b : Nat) : Lf Tryz.prog ann b tbN := ⟨trivial, trivial, trivial, trivial, trivial, trivial, trivial, trivial⟩
theorem zNN (b : Nat) : Lg Tryz.prog ann b tbNN := ⟨zN _, zN _, zN _, zN _, zN _, zN _, zN _, zN _⟩
theorem zNNN (b : Nat) : Lh Tryz.prog ann b tbNNN := ⟨zNN _, zNN _, zNN _, zNN _, zNN _, zNN _, zNN _, zNN _⟩
def tb0_0_0 (_k : Nat) : N8 (Option F2) := ⟨none, none, none, some F3, some F4, some F5, some F6, some (M7 _k)⟩
theorem l0_0_0 (_k : Nat) (_h : Hy _k) : Lf Tryz.prog ann 0 (tb0_0_0 _k) := ⟨trivial, trivial, trivial, (fe2_of fe3), (fe2_of fe4), (fe2_of fe5), (fe2_of fe6), (fm7 _k _h.h7)⟩
def tb0_0_1 (_k : Nat) : N8 (Option F2) := ⟨some F8, some F9, some F10, some F11, some (M12 _k), some F13, some F14, some F15⟩
theorem l0_0_1 (_k : Nat) (_h : Hy _k) : Lf Tryz.prog ann 8 (tb0_0_1 _k) := ⟨(fe2_of fe8), (fe2_of fe9), (fe2_of fe10), (fe2_of fe11), (fm12 _k _h.h12), (fe2_of fe13), (fe2_of fe14), (fe2_of fe15)⟩
def tb0_0_2 (_k : Nat) : N8 (Option F2) := ⟨some F16, some F17, some F18, some F19, some F20, some F21, some F22, some F23⟩
theorem l0_0_2 (_k : Nat) (_h : Hy _k) : Lf Tryz.prog ann 16 (tb0_0_2 _k) := ⟨(fe2_of fe16), (fe2_of fe17), (fe2_of fe18), (fe2_of fe19), (fe2_of fe20), (fe2_of fe21), (fe2_of fe22), (fe2_of fe23)⟩
def tb0_0_3 (_k : Nat) : N8 (Option F2) := ⟨some F24, some F25, some (M26 _k), some F27, some F28, some F29, some F30, some F31⟩
theorem l0_0_3 (_k : Nat) (_h : Hy _k) : Lf Tryz.prog ann 24 (tb0_0_3 _k) := ⟨(fe2_of fe24), (fe2_of fe25), (fm26 _k _h.h26), (fe2_of fe27), (fe2_of fe28), (fe2_of fe29), (fe2_of fe30), (fe2_of fe31)⟩
def tb0_0_4 (_k : Nat) : N8 (Option F2) := ⟨some F32, some F33, some F34, some F35, some F36, some F37, some F38, some F39⟩
theorem l0_0_4 (_k : Nat) (_h : Hy _k) : Lf Tryz.prog ann 32 (tb0_0_4 _k) := ⟨(fe2_of fe32), (fe2_of fe33), (fe2_of fe34), (fe2_of fe35), (fe2_of fe36), (fe2_of fe37), (fe2_of fe38), (fe2_of fe39)⟩
def tb0_0_5 (_k : Nat) : N8 (Option F2) := ⟨some F40, some F41, some F42, some F43, some F44, some F45, some F46, some F47⟩
theorem l0_0_5 (_k : Nat) (_h : Hy _k) : Lf Tryz.prog ann 40 (tb0_0_5 _k) := ⟨(fe2_of fe40), (fe2_of fe41), (fe2_of fe42), (fe2_of fe43), (fe2_of fe44), (fe2_of fe45), (fe2_of fe46), (fe2_of fe47)⟩
def tb0_0_6 (_k : Nat) : N8 (Option F2) := ⟨some F48, some F49, some F50, some F51, some F52, some F53, some F54, some F55⟩
theorem l0_0_6 (_k : Nat) (_h : Hy _k) : Lf Tryz.prog ann 48 (tb0_0_6 _k) := ⟨(fe2_of fe48), (fe2_of fe49), (fe2_of fe50), (fe2_of fe51), (fe2_of fe52), (fe2_of fe53), (fe2_of fe54), (fe2_of fe55)⟩
def tb0_0_7 (_k : Nat) : N8 (Option F2) := ⟨some F56, some F57, some F58, some F59, some F60, none, some F62, some F63⟩
theorem l0_0_7 (_k : Nat) (_h : Hy _k) : Lf Tryz.prog ann 56 (tb0_0_7 _k) := ⟨(fe2_of fe56), (fe2_of fe57), (fe2_of fe58), (fe2_of fe59), (fe2_of fe60), trivial, (fe2_of fe62), (fe2_of fe63)⟩
def tb0_0 (_k : Nat) : N8 (N8 (Option F2)) := ⟨tb0_0_0 _k, tb0_0_1 _k, tb0_0_2 _k, tb0_0_3 _k, tb0_0_4 _k, tb0_0_5 _k, tb0_0_6 _k, tb0_0_7 _k⟩
theorem l0_0 (_k : Nat) (_h : Hy _k) : Lg Tryz.prog ann 0 (tb0_0 _k) := ⟨l0_0_0 _k _h, l0_0_1 _k _h, l0_0_2 _k _h, l0_0_3 _k _h, l0_0_4 _k _h, l0_0_5 _k _h, l0_0_6 _k _h, l0_0_7 _k _h⟩
def tb0_1_0 (_k : Nat) : N8 (Option F2) := ⟨some F64, some F65, some F66, some F67, none, some F69, some F70, some F71⟩
theorem l0_1_0 (_k : Nat) (_h : Hy _k) : Lf Tryz.prog ann 64 (tb0_1_0 _k) := ⟨(fe2_of fe64), (fe2_of fe65), (fe2_of fe66), (fe2_of fe67), trivial, (fe2_of fe69), (fe2_of fe70), (fe2_of fe71)⟩
def tb0_1_1 (_k : Nat) : N8 (Option F2) := ⟨some F72, some F73, some F74, some F75, some F76, some (M77 _k), some (M78 _k), some F79⟩
theorem l0_1_1 (_k : Nat) (_h : Hy _k) : Lf Tryz.prog ann 72 (tb0_1_1 _k) := ⟨(fe2_of fe72), (fe2_of fe73), (fe2_of fe74), (fe2_of fe75), (fe2_of fe76), (fm77 _k _h.h77), (fm78 _k _h.h78), (fe2_of fe79)⟩
def tb0_1_2 (_k : Nat) : N8 (Option F2) := ⟨some F80, some F81, some F82, some F83, some F84, some F85, some F86, some F87⟩
theorem l0_1_2 (_k : Nat) (_h : Hy _k) : Lf Tryz.prog ann 80 (tb0_1_2 _k) := ⟨(fe2_of fe80), (fe2_of fe81), (fe2_of fe82), (fe2_of fe83), (fe2_of fe84), (fe2_of fe85), (fe2_of fe86), (fe2_of fe87)⟩
def tb0_1_3 (_k : Nat) : N8 (Option F2) := ⟨some F88, some F89, some F90, some F91, some F92, some F93, some F94, some F95⟩
theorem l0_1_3 (_k : Nat) (_h : Hy _k) : Lf Tryz.prog ann 88 (tb0_1_3 _k) := ⟨(fe2_of fe88), (fe2_of fe89), (fe2_of fe90), (fe2_of fe91), (fe2_of fe92), (fe2_of fe93), (fe2_of fe94), (fe2_of fe95)⟩
def tb0_1_4 (_k : Nat) : N8 (Option F2) := ⟨some F96, some F97, some F98, some F99, some F100, some F101, some F102, some F103⟩
theorem l0_1_4 (_k : Nat) (_h : Hy _k) : Lf Tryz.prog ann 96 (tb0_1_4 _k) := ⟨(fe2_of fe96), (fe2_of fe97), (fe2_of fe98), (fe2_of fe99), (fe2_of fe100), (fe2_of fe101), (fe2_of fe102), (fe2_of fe103)⟩
def tb0_1_5 (_k : Nat) : N8 (Option F2) := ⟨some F104, some F105, some F106, some F107, some F108, some F109, some F110, some F111⟩
theorem l0_1_5 (_k : Nat) (_h : Hy _k) : Lf Tryz.prog ann 104 (tb0_1_5 _k) := ⟨(fe2_of fe104), (fe2_of fe105), (fe2_of fe106), (fe2_of fe107), (fe2_of fe108), (fe2_of fe109), (fe2_of fe110), (fe2_of fe111)⟩
def tb0_1_6 (_k : Nat) : N8 (Option F2) := ⟨some F112, some F113, some (M114 _k), some (M115 _k), some (M116 _k), some F117, some F118, some F119⟩
theorem l0_1_6 (_k : Nat) (_h : Hy _k) : Lf Tryz.prog ann 112 (tb0_1_6 _k) := ⟨(fe2_of fe112), (fe2_of fe113), (fm114 _k _h.h114), (fm115 _k _h.h115), (fm116 _k _h.h116), (fe2_of fe117), (fe2_of fe118), (fe2_of fe119)⟩
def tb0_1_7 (_k : Nat) : N8 (Option F2) := ⟨some F120, none, some F122, none, none, some F125, some F126, none⟩
theorem l0_1_7 (_k : Nat) (_h : Hy _k) : Lf Tryz.prog ann 120 (tb0_1_7 _k) := ⟨(fe2_of fe120), trivial, (fe2_of fe122), trivial, trivial, (fe2_of fe125), (fe2_of fe126), trivial⟩
def tb0_1 (_k : Nat) : N8 (N8 (Option F2)) := ⟨tb0_1_0 _k, tb0_1_1 _k, tb0_1_2 _k, tb0_1_3 _k, tb0_1_4 _k, tb0_1_5 _k, tb0_1_6 _k, tb0_1_7 _k⟩
theorem l0_1 (_k : Nat) (_h : Hy _k) : Lg Tryz.prog ann 64 (tb0_1 _k) := ⟨l0_1_0 _k _h, l0_1_1 _k _h, l0_1_2 _k _h, l0_1_3 _k _h, l0_1_4 _k _h, l0_1_5 _k _h, l0_1_6 _k _h, l0_1_7 _k _h⟩
def tb0_2_0 (_k : Nat) : N8 (Option F2) := ⟨none, none, some F130, none, none, none, none, none⟩
theorem l0_2_0 (_k : Nat) (_h : Hy _k) : Lf Tryz.prog ann 128 (tb0_2_0 _k) := ⟨trivial, trivial, (fe2_of fe130), trivial, trivial, trivial, trivial, trivial⟩
def tb0_2_1 (_k : Nat) : N8 (Option F2) := ⟨none, some F137, some F138, some F139, some F140, some F141, some F142, some F143⟩
theorem l0_2_1 (_k : Nat) (_h : Hy _k) : Lf Tryz.prog ann 136 (tb0_2_1 _k) := ⟨trivial, (fe2_of fe137), (fe2_of fe138), (fe2_of fe139), (fe2_of fe140), (fe2_of fe141), (fe2_of fe142), (fe2_of fe143)⟩
def tb0_2_2 (_k : Nat) : N8 (Option F2) := ⟨some F144, some F145, some F146, some F147, some F148, some F149, some F150, none⟩
theorem l0_2_2 (_k : Nat) (_h : Hy _k) : Lf Tryz.prog ann 144 (tb0_2_2 _k) := ⟨(fe2_of fe144), (fe2_of fe145), (fe2_of fe146), (fe2_of fe147), (fe2_of fe148), (fe2_of fe149), (fe2_of fe150), trivial⟩
def tb0_2_3 (_k : Nat) : N8 (Option F2) := ⟨some F152, some F153, some F154, some F155, some F156, some F157, some (M158 _k), some F159⟩
theorem l0_2_3 (_k : Nat) (_h : Hy _k) : Lf Tryz.prog ann 152 (tb0_2_3 _k) := ⟨(fe2_of fe152), (fe2_of fe153), (fe2_of fe154), (fe2_of fe155), (fe2_of fe156), (fe2_of fe157), (fm158 _k _h.h158), (fe2_of fe159)⟩
def tb0_2_4 (_k : Nat) : N8 (Option F2) := ⟨some F160, some F161, some F162, some F163, some F164, some F165, some F166, some F167⟩
theorem l0_2_4 (_k : Nat) (_h : Hy _k) : Lf Tryz.prog ann 160 (tb0_2_4 _k) := ⟨(fe2_of fe160), (fe2_of fe161), (fe2_of fe162), (fe2_of fe163), (fe2_of fe164), (fe2_of fe165), (fe2_of fe166), (fe2_of fe167)⟩
def tb0_2_5 (_k : Nat) : N8 (Option F2) := ⟨some F168, some F169, some F170, some F171, some F172, some F173, some F174, some F175⟩
theorem l0_2_5 (_k : Nat) (_h : Hy _k) : Lf Tryz.prog ann 168 (tb0_2_5 _k) := ⟨(fe2_of fe168), (fe2_of fe169), (fe2_of fe170), (fe2_of fe171), (fe2_of fe172), (fe2_of fe173), (fe2_of fe174), (fe2_of fe175)⟩
def tb0_2_6 (_k : Nat) : N8 (Option F2) := ⟨some F176, some F177, some F178, none, some F180, some F181, some F182, some F183⟩
theorem l0_2_6 (_k : Nat) (_h : Hy _k) : Lf Tryz.prog ann 176 (tb0_2_6 _k) := ⟨(fe2_of fe176), (fe2_of fe177), (fe2_of fe178), trivial, (fe2_of fe180), (fe2_of fe181), (fe2_of fe182), (fe2_of fe183)⟩
def tb0_2_7 (_k : Nat) : N8 (Option F2) := ⟨some F184, some F185, some F186, some F187, some F188, some F189, some F190, some F191⟩
theorem l0_2_7 (_k : Nat) (_h : Hy _k) : Lf Tryz.prog ann 184 (tb0_2_7 _k) := ⟨(fe2_of fe184), (fe2_of fe185), (fe2_of fe186), (fe2_of fe187), (fe2_of fe188), (fe2_of fe189), (fe2_of fe190), (fe2_of fe191)⟩
def tb0_2 (_k : Nat) : N8 (N8 (Option F2)) := ⟨tb0_2_0 _k, tb0_2_1 _k, tb0_2_2 _k, tb0_2_3 _k, tb0_2_4 _k, tb0_2_5 _k, tb0_2_6 _k, tb0_2_7 _k⟩
theorem l0_2 (_k : Nat) (_h : Hy _k) : Lg Tryz.prog ann 128 (tb0_2 _k) := ⟨l0_2_0 _k _h, l0_2_1 _k _h, l0_2_2 _k _h, l0_2_3 _k _h, l0_2_4 _k _h, l0_2_5 _k _h, l0_2_6 _k _h, l0_2_7 _k _h⟩
def tb0_3_0 (_k : Nat) : N8 (Option F2) := ⟨some F192, some F193, some F194, none, some F196, some F197, some F198, some F199⟩
theorem l0_3_0 (_k : Nat) (_h : Hy _k) : Lf Tryz.prog ann 192 (tb0_3_0 _k) := ⟨(fe2_of fe192), (fe2_of fe193), (fe2_of fe194), trivial, (fe2_of fe196), (fe2_of fe197), (fe2_of fe198), (fe2_of fe199)⟩
def tb0_3_1 (_k : Nat) : N8 (Option F2) := ⟨some F200, some F201, some F202, some F203, some F204, none, some F206, some F207⟩
theorem l0_3_1 (_k : Nat) (_h : Hy _k) : Lf Tryz.prog ann 200 (tb0_3_1 _k) := ⟨(fe2_of fe200), (fe2_of fe201), (fe2_of fe202), (fe2_of fe203), (fe2_of fe204), trivial, (fe2_of fe206), (fe2_of fe207)⟩
def tb0_3_2 (_k : Nat) : N8 (Option F2) := ⟨some F208, none, some F210, some F211, some F212, some F213, some F214, some F215⟩
theorem l0_3_2 (_k : Nat) (_h : Hy _k) : Lf Tryz.prog ann 208 (tb0_3_2 _k) := ⟨(fe2_of fe208), trivial, (fe2_of fe210), (fe2_of fe211), (fe2_of fe212), (fe2_of fe213), (fe2_of fe214), (fe2_of fe215)⟩
def tb0_3_3 (_k : Nat) : N8 (Option F2) := ⟨some F216, some F217, some F218, some F219, some F220, some F221, some F222, some F223⟩
theorem l0_3_3 (_k : Nat) (_h : Hy _k) : Lf Tryz.prog ann 216 (tb0_3_3 _k) := ⟨(fe2_of fe216), (fe2_of fe217), (fe2_of fe218), (fe2_of fe219), (fe2_of fe220), (fe2_of fe221), (fe2_of fe222), (fe2_of fe223)⟩
def tb0_3_4 (_k : Nat) : N8 (Option F2) := ⟨some F224, some F225, some F226, some F227, some F228, some F229, some F230, some F231⟩
theorem l0_3_4 (_k : Nat) (_h : Hy _k) : Lf Tryz.prog ann 224 (tb0_3_4 _k) := ⟨(fe2_of fe224), (fe2_of fe225), (fe2_of fe226), (fe2_of fe227), (fe2_of fe228), (fe2_of fe229), (fe2_of fe230), (fe2_of fe231)⟩
def tb0_3_5 (_k : Nat) : N8 (Option F2) := ⟨some F232, some F233, some F234, some F235, some F236, none, some F238, some F239⟩
theorem l0_3_5 (_k : Nat) (_h : Hy _k) : Lf Tryz.prog ann 232 (tb0_3_5 _k) := ⟨(fe2_of fe232), (fe2_of fe233), (fe2_of fe234), (fe2_of fe235), (fe2_of fe236), trivial, (fe2_of fe238), (fe2_of fe239)⟩
def tb0_3_6 (_k : Nat) : N8 (Option F2) := ⟨none, none, some F242, none, none, some F245, some F246, none⟩
theorem l0_3_6 (_k : Nat) (_h : Hy _k) : Lf Tryz.prog ann 240 (tb0_3_6 _k) := ⟨trivial, trivial, (fe2_of fe242), trivial, trivial, (fe2_of fe245), (fe2_of fe246), trivial⟩
def tb0_3_7 (_k : Nat) : N8 (Option F2) := ⟨some F248, some F249, some F250, none, some F252, some F253, some H254, some F255⟩
theorem l0_3_7 (_k : Nat) (_h : Hy _k) : Lf Tryz.prog ann 248 (tb0_3_7 _k) := ⟨(fe2_of fe248), (fe2_of fe249), (fe2_of fe250), trivial, (fe2_of fe252), (fe2_of fe253), ok254, (fe2_of fe255)⟩
def tb0_3 (_k : Nat) : N8 (N8 (Option F2)) := ⟨tb0_3_0 _k, tb0_3_1 _k, tb0_3_2 _k, tb0_3_3 _k, tb0_3_4 _k, tb0_3_5 _k, tb0_3_6 _k, tb0_3_7 _k⟩
theorem l0_3 (_k : Nat) (_h : Hy _k) : Lg Tryz.prog ann 192 (tb0_3 _k) := ⟨l0_3_0 _k _h, l0_3_1 _k _h, l0_3_2 _k _h, l0_3_3 _k _h, l0_3_4 _k _h, l0_3_5 _k _h, l0_3_6 _k _h, l0_3_7 _k _h⟩
def tb0_4_0 (_k : Nat) : N8 (Option F2) := ⟨some F256, some F257, some F258, some F259, some F260, some (M261 _k), some F262, some F263⟩
theorem l0_4_0 (_k : Nat) (_h : Hy _k) : Lf Tryz.prog ann 256 (tb0_4_0 _k) := ⟨(fe2_of fe256), (fe2_of fe257), (fe2_of fe258), (fe2_of fe259), (fe2_of fe260), (fm261 _k _h.h261), (fe2_of fe262), (fe2_of fe263)⟩
def tb0_4_1 (_k : Nat) : N8 (Option F2) := ⟨some F264, some F265, some F266, some F267, some F268, some F269, some F270, some F271⟩
theorem l0_4_1 (_k : Nat) (_h : Hy _k) : Lf Tryz.prog ann 264 (tb0_4_1 _k) := ⟨(fe2_of fe264), (fe2_of fe265), (fe2_of fe266), (fe2_of fe267), (fe2_of fe268), (fe2_of fe269), (fe2_of fe270), (fe2_of fe271)⟩
def tb0_4_2 (_k : Nat) : N8 (Option F2) := ⟨some F272, some F273, some F274, some F275, none, some F277, some F278, some F279⟩
theorem l0_4_2 (_k : Nat) (_h : Hy _k) : Lf Tryz.prog ann 272 (tb0_4_2 _k) := ⟨(fe2_of fe272), (fe2_of fe273), (fe2_of fe274), (fe2_of fe275), trivial, (fe2_of fe277), (fe2_of fe278), (fe2_of fe279)⟩
def tb0_4_3 (_k : Nat) : N8 (Option F2) := ⟨some F280, some F281, some F282, some F283, some F284, some F285, some F286, some F287⟩
theorem l0_4_3 (_k : Nat) (_h : Hy _k) : Lf Tryz.prog ann 280 (tb0_4_3 _k) := ⟨(fe2_of fe280), (fe2_of fe281), (fe2_of fe282), (fe2_of fe283), (fe2_of fe284), (fe2_of fe285), (fe2_of fe286), (fe2_of fe287)⟩
def tb0_4_4 (_k : Nat) : N8 (Option F2) := ⟨none, some F289, some F290, some F291, some F292, some F293, some F294, some F295⟩
theorem l0_4_4 (_k : Nat) (_h : Hy _k) : Lf Tryz.prog ann 288 (tb0_4_4 _k) := ⟨trivial, (fe2_of fe289), (fe2_of fe290), (fe2_of fe291), (fe2_of fe292), (fe2_of fe293), (fe2_of fe294), (fe2_of fe295)⟩
def tb0_4_5 (_k : Nat) : N8 (Option F2) := ⟨some (M296 _k), some F297, some (M298 _k), some (M299 _k), some F300, some F301, some F302, some F303⟩
theorem l0_4_5 (_k : Nat) (_h : Hy _k) : Lf Tryz.prog ann 296 (tb0_4_5 _k) := ⟨(fm296 _k _h.h296), (fe2_of fe297), (fm298 _k _h.h298), (fm299 _k _h.h299), (fe2_of fe300), (fe2_of fe301), (fe2_of fe302), (fe2_of fe303)⟩
def tb0_4_6 (_k : Nat) : N8 (Option F2) := ⟨some F304, some F305, some F306, some F307, some F308, some F309, some F310, some F311⟩
theorem l0_4_6 (_k : Nat) (_h : Hy _k) : Lf Tryz.prog ann 304 (tb0_4_6 _k) := ⟨(fe2_of fe304), (fe2_of fe305), (fe2_of fe306), (fe2_of fe307), (fe2_of fe308), (fe2_of fe309), (fe2_of fe310), (fe2_of fe311)⟩
def tb0_4_7 (_k : Nat) : N8 (Option F2) := ⟨some F312, some F313, some F314, some F315, some F316, some F317, some F318, some F319⟩
theorem l0_4_7 (_k : Nat) (_h : Hy _k) : Lf Tryz.prog ann 312 (tb0_4_7 _k) := ⟨(fe2_of fe312), (fe2_of fe313), (fe2_of fe314), (fe2_of fe315), (fe2_of fe316), (fe2_of fe317), (fe2_of fe318), (fe2_of fe319)⟩
def tb0_4 (_k : Nat) : N8 (N8 (Option F2)) := ⟨tb0_4_0 _k, tb0_4_1 _k, tb0_4_2 _k, tb0_4_3 _k, tb0_4_4 _k, tb0_4_5 _k, tb0_4_6 _k, tb0_4_7 _k⟩
theorem l0_4 (_k : Nat) (_h : Hy _k) : Lg Tryz.prog ann 256 (tb0_4 _k) := ⟨l0_4_0 _k _h, l0_4_1 _k _h, l0_4_2 _k _h, l0_4_3 _k _h, l0_4_4 _k _h, l0_4_5 _k _h, l0_4_6 _k _h, l0_4_7 _k _h⟩
def tb0_5_0 (_k : Nat) : N8 (Option F2) := ⟨some F320, some F321, some F322, some F323, some (M324 _k), some F325, some F326, some F327⟩
theorem l0_5_0 (_k : Nat) (_h : Hy _k) : Lf Tryz.prog ann 320 (tb0_5_0 _k) := ⟨(fe2_of fe320), (fe2_of fe321), (fe2_of fe322), (fe2_of fe323), (fm324 _k _h.h324), (fe2_of fe325), (fe2_of fe326), (fe2_of fe327)⟩
def tb0_5_1 (_k : Nat) : N8 (Option F2) := ⟨some F328, some F329, some F330, none, none, none, none, none⟩
theorem l0_5_1 (_k : Nat) (_h : Hy _k) : Lf Tryz.prog ann 328 (tb0_5_1 _k) := ⟨(fe2_of fe328), (fe2_of fe329), (fe2_of fe330), trivial, trivial, trivial, trivial, trivial⟩
def tb0_5_2 (_k : Nat) : N8 (Option F2) := ⟨none, none, none, none, some F340, some (M341 _k), some F342, some F343⟩
theorem l0_5_2 (_k : Nat) (_h : Hy _k) : Lf Tryz.prog ann 336 (tb0_5_2 _k) := ⟨trivial, trivial, trivial, trivial, (fe2_of fe340), (fm341 _k _h.h341), (fe2_of fe342), (fe2_of fe343)⟩
def tb0_5_3 (_k : Nat) : N8 (Option F2) := ⟨some F344, some F345, none, none, none, none, none, none⟩
theorem l0_5_3 (_k : Nat) (_h : Hy _k) : Lf Tryz.prog ann 344 (tb0_5_3 _k) := ⟨(fe2_of fe344), (fe2_of fe345), trivial, trivial, trivial, trivial, trivial, trivial⟩
def tb0_5_4 (_k : Nat) : N8 (Option F2) := ⟨some F352, some F353, none, some (M355 _k), some F356, none, none, none⟩
theorem l0_5_4 (_k : Nat) (_h : Hy _k) : Lf Tryz.prog ann 352 (tb0_5_4 _k) := ⟨(fe2_of fe352), (fe2_of fe353), trivial, (fm355 _k _h.h355), (fe2_of fe356), trivial, trivial, trivial⟩
def tb0_5_5 (_k : Nat) : N8 (Option F2) := ⟨some F360, some F361, some F362, some F363, some H364, none, some F366, some F367⟩
theorem l0_5_5 (_k : Nat) (_h : Hy _k) : Lf Tryz.prog ann 360 (tb0_5_5 _k) := ⟨(fe2_of fe360), (fe2_of fe361), (fe2_of fe362), (fe2_of fe363), ok364, trivial, (fe2_of fe366), (fe2_of fe367)⟩
def tb0_5_6 (_k : Nat) : N8 (Option F2) := ⟨some F368, some F369, some F370, some F371, some F372, some F373, some F374, some F375⟩
theorem l0_5_6 (_k : Nat) (_h : Hy _k) : Lf Tryz.prog ann 368 (tb0_5_6 _k) := ⟨(fe2_of fe368), (fe2_of fe369), (fe2_of fe370), (fe2_of fe371), (fe2_of fe372), (fe2_of fe373), (fe2_of fe374), (fe2_of fe375)⟩
def tb0_5_7 (_k : Nat) : N8 (Option F2) := ⟨some F376, some F377, some F378, some F379, some F380, some F381, some F382, some F383⟩
theorem l0_5_7 (_k : Nat) (_h : Hy _k) : Lf Tryz.prog ann 376 (tb0_5_7 _k) := ⟨(fe2_of fe376), (fe2_of fe377), (fe2_of fe378), (fe2_of fe379), (fe2_of fe380), (fe2_of fe381), (fe2_of fe382), (fe2_of fe383)⟩
def tb0_5 (_k : Nat) : N8 (N8 (Option F2)) := ⟨tb0_5_0 _k, tb0_5_1 _k, tb0_5_2 _k, tb0_5_3 _k, tb0_5_4 _k, tb0_5_5 _k, tb0_5_6 _k, tb0_5_7 _k⟩
theorem l0_5 (_k : Nat) (_h : Hy _k) : Lg Tryz.prog ann 320 (tb0_5 _k) := ⟨l0_5_0 _k _h, l0_5_1 _k _h, l0_5_2 _k _h, l0_5_3 _k _h, l0_5_4 _k _h, l0_5_5 _k _h, l0_5_6 _k _h, l0_5_7 _k _h⟩
def tb0_6_0 (_k : Nat) : N8 (Option F2) := ⟨some F384, some (M385 _k), some F386, some F387, some F388, some F389, some F390, none⟩
theorem l0_6_0 (_k : Nat) (_h : Hy _k) : Lf Tryz.prog ann 384 (tb0_6_0 _k) := ⟨(fe2_of fe384), (fm385 _k _h.h385), (fe2_of fe386), (fe2_of fe387), (fe2_of fe388), (fe2_of fe389), (fe2_of fe390), trivial⟩
def tb0_6_1 (_k : Nat) : N8 (Option F2) := ⟨some F392, none, some F394, some F395, some F396, some F397, some F398, some F399⟩
theorem l0_6_1 (_k : Nat) (_h : Hy _k) : Lf Tryz.prog ann 392 (tb0_6_1 _k) := ⟨(fe2_of fe392), trivial, (fe2_of fe394), (fe2_of fe395), (fe2_of fe396), (fe2_of fe397), (fe2_of fe398), (fe2_of fe399)⟩
def tb0_6_2 (_k : Nat) : N8 (Option F2) := ⟨none, some F401, none, some F403, some F404, some F405, some F406, some (M407 _k)⟩
theorem l0_6_2 (_k : Nat) (_h : Hy _k) : Lf Tryz.prog ann 400 (tb0_6_2 _k) := ⟨trivial, (fe2_of fe401), trivial, (fe2_of fe403), (fe2_of fe404), (fe2_of fe405), (fe2_of fe406), (fm407 _k _h.h407)⟩
def tb0_6_3 (_k : Nat) : N8 (Option F2) := ⟨some F408, some F409, some F410, some F411, some F412, some F413, some F414, none⟩
theorem l0_6_3 (_k : Nat) (_h : Hy _k) : Lf Tryz.prog ann 408 (tb0_6_3 _k) := ⟨(fe2_of fe408), (fe2_of fe409), (fe2_of fe410), (fe2_of fe411), (fe2_of fe412), (fe2_of fe413), (fe2_of fe414), trivial⟩
def tb0_6_4 (_k : Nat) : N8 (Option F2) := ⟨some F416, some F417, some F418, some F419, none, some F421, some F422, some F423⟩
theorem l0_6_4 (_k : Nat) (_h : Hy _k) : Lf Tryz.prog ann 416 (tb0_6_4 _k) := ⟨(fe2_of fe416), (fe2_of fe417), (fe2_of fe418), (fe2_of fe419), trivial, (fe2_of fe421), (fe2_of fe422), (fe2_of fe423)⟩
def tb0_6_5 (_k : Nat) : N8 (Option F2) := ⟨some (M424 _k), none, none, none, none, none, none, none⟩
theorem l0_6_5 (_k : Nat) (_h : Hy _k) : Lf Tryz.prog ann 424 (tb0_6_5 _k) := ⟨(fm424 _k _h.h424), trivial, trivial, trivial, trivial, trivial, trivial, trivial⟩
def tb0_6_7 (_k : Nat) : N8 (Option F2) := ⟨none, some F441, some F442, some F443, some F444, some F445, none, none⟩
theorem l0_6_7 (_k : Nat) (_h : Hy _k) : Lf Tryz.prog ann 440 (tb0_6_7 _k) := ⟨trivial, (fe2_of fe441), (fe2_of fe442), (fe2_of fe443), (fe2_of fe444), (fe2_of fe445), trivial, trivial⟩
def tb0_6 (_k : Nat) : N8 (N8 (Option F2)) := ⟨tb0_6_0 _k, tb0_6_1 _k, tb0_6_2 _k, tb0_6_3 _k, tb0_6_4 _k, tb0_6_5 _k, tbN, tb0_6_7 _k⟩
theorem l0_6 (_k : Nat) (_h : Hy _k) : Lg Tryz.prog ann 384 (tb0_6 _k) := ⟨l0_6_0 _k _h, l0_6_1 _k _h, l0_6_2 _k _h, l0_6_3 _k _h, l0_6_4 _k _h, l0_6_5 _k _h, zN _, l0_6_7 _k _h⟩
def tb0 (_k : Nat) : N8 (N8 (N8 (Option F2))) := ⟨tb0_0 _k, tb0_1 _k, tb0_2 _k, tb0_3 _k, tb0_4 _k, tb0_5 _k, tb0_6 _k, tbNN⟩
theorem l0 (_k : Nat) (_h : Hy _k) : Lh Tryz.prog ann 0 (tb0 _k) := ⟨l0_0 _k _h, l0_1 _k _h, l0_2 _k _h, l0_3 _k _h, l0_4 _k _h, l0_5 _k _h, l0_6 _k _h, zNN _⟩
def tb (_k : Nat) : TB2 := ⟨tb0 _k, tbNNN, tbNNN, tbNNN, tbNNN, tbNNN, tbNNN, tbNNN⟩
theorem tbok (_k : Nat) (_h : Hy _k) : TBok2 Tryz.prog ann (tb _k) := tb2_ok ⟨l0 _k _h, zNNN _, zNNN _, zNNN _, zNNN _, zNNN _, zNNN _, zNNN _⟩
end
end Go.Proofs.SlimCode
