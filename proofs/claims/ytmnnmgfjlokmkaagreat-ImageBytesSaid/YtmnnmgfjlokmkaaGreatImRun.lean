import Derived.Test.YtmnnmgfjlokmkaaGreatImAnn
import Derived.Test.YtmnnmgfjlokmkaaGreatAbsXc
import Derived.KernelRfl
section
open Go Go.Abs
namespace Go.Proofs.SlimCode
set_option maxRecDepth 100000
noncomputable section
def H14 : F2C := fun c _ v s K =>
endE v (
c (.mk .d0 .d0 .d3 .d3) [] s fun x0 s =>
boxD false [.nil .sl, .nil .sl, .int .i64 0, .int .i64 0, .nil .sl, .nil .sl, .nil .sl, .nil .sl, .nil .sl] s fun x1 s =>
zSt x1 x0 9 s fun _ s =>
ldA x1 (takeN 9) s fun x3 s =>
c (.mk .d0 .d0 .d2 .d0) [x3] s fun x4 s =>
c (.mk .d0 .d0 .d2 .d1) [x4] s fun x5 s =>
vExt x5 0 fun x6 =>
vExt x5 1 fun x7 =>
boxD false [.nil .sl, .nil .sl, .int .i64 0, .int .i64 0, .nil .sl, .nil .sl, .nil .sl, .nil .sl, .nil .sl] s fun x8 s =>
zSt x8 x6 9 s fun _ s =>
c (.mk .d0 .d0 .d2 .d1) [(.nil .sl)] s fun x10 s =>
vExt x10 0 fun x11 =>
vExt x10 1 fun x12 =>
boxD false [.nil .sl, .nil .sl, .int .i64 0, .int .i64 0, .nil .sl, .nil .sl, .nil .sl, .nil .sl, .nil .sl] s fun x13 s =>
zSt x13 x11 9 s fun _ s =>
c (.mk .d0 .d0 .d3 .d3) [] s fun x15 s =>
boxD false [.nil .sl, .nil .sl, .int .i64 0, .int .i64 0, .nil .sl, .nil .sl, .nil .sl, .nil .sl, .nil .sl] s fun x16 s =>
zSt x16 x15 9 s fun _ s =>
fa1 x16 2 fun x18 =>
zSt x18 (ci 1) 1 s fun _ s =>
c (.mk .d0 .d0 .d4 .d0) [] s fun x20 s =>
gH x20 true (c (.mk .d0 .d0 .d4 .d1) []) s fun x21 s =>
vPick x20 x21 cf fun x22 =>
gK x22 true x4 fun x23 =>
gV x22 true (vLenS x23) fun x24 =>
gV x22 true (bGt x24 (ci 20)) fun x25 =>
vPick x22 x25 cf fun x26 =>
gK x26 true x4 fun x27 =>
gV x26 true (vIaS x27 (ci 0) 1) fun x28 =>
gH x26 true (ldA x28 take1) s fun x29 s =>
gV x26 true (bEqF x29 (cu 68)) fun x30 =>
vPick x26 x30 cf fun x31 =>
gK x31 true x7 fun x32 =>
gV x31 true (bEqF x32 (ci 0)) fun x33 =>
vPick x31 x33 cf fun x34 =>
gH x34 true (ldA x8 (takeN 9)) s fun x35 s =>
gH x34 true (ldA x1 (takeN 9)) s fun x36 s =>
gH x34 true (c (.mk .d0 .d0 .d2 .d2) [x35, x36]) s fun x37 s =>
vPick x34 x37 cf fun x38 =>
gK x38 true x12 fun x39 =>
gV x38 true (bEqF x39 (ci 6)) fun x40 =>
vPick x38 x40 cf fun x41 =>
gH x41 true (ldA x1 (takeN 9)) s fun x42 s =>
gH x41 true (ldA x1 (takeN 9)) s fun x43 s =>
gH x41 true (c (.mk .d0 .d0 .d2 .d3) [x42, x43]) s fun x44 s =>
vPick x41 x44 cf fun x45 =>
gH x45 true (ldA x1 (takeN 9)) s fun x46 s =>
gH x45 true (ldA x16 (takeN 9)) s fun x47 s =>
gH x45 true (c (.mk .d0 .d0 .d2 .d3) [x46, x47]) s fun x48 s =>
gV x45 true (vGen (.un .not (.c x48))) fun x49 =>
vPick x45 x49 cf fun x50 =>
K x50 s)
def F14 : F2 := .pur H14 true mNo
theorem fe14 : feE Tryz.prog ann 14 0 [] = some F14 := by kernel_rfl
def M14 (k : Nat) : F2 := .pur H14 true (Bool.rec mNo (mVal (.bool true)) (Nat.ble 7 k))
def H27 : F2C := fun _ k v s K =>
endE v (
boxD false [.nil .sl, .nil .sl, .int .i64 0, .int .i64 0, .nil .sl, .nil .sl, .nil .sl, .nil .sl, .nil .sl] s fun x0 s =>
vBld [.int .i64 0, .int .i64 0, .int .i64 0, .int .i64 0] (eCons 0 1 (ci 46) eNil) fun x1 =>
zHbs [.int .i64 0, .int .i64 0, .int .i64 0, .int .i64 0] 4 1 (eCons 0 4 x1 eNil) s fun x2 s =>
vBld [.int .i64 0, .int .i64 0, .int .i64 0, .bool false, .nil .sl, .nil .sl] (eCons 4 1 x2 eNil) fun x3 =>
zHbs [.int .i64 0, .int .i64 0, .int .i64 0, .bool false, .nil .sl, .nil .sl] 6 1 (eCons 0 6 x3 eNil) s fun x4 s =>
zHbs [.int .i32 0, .int .i32 0, .int .i32 0, .int .i32 0, .int .i32 0] 1 5 (eCons 0 1 (cj 0) (eCons 1 1 (cj 0) (eCons 2 1 (cj 10) (eCons 3 1 (cj 1) (eCons 4 1 (cj 1) eNil))))) s fun x5 s =>
zHbs [.int .i64 0] 1 1 (eCons 0 1 (ci 4) eNil) s fun x6 s =>
zHbs [.int .i32 0, .int .i32 0] 1 2 (eCons 0 1 (cj 5) (eCons 1 1 (cj 3) eNil)) s fun x7 s =>
zHbs [.bool false, .bool false] 1 2 (eCons 0 1 cf (eCons 1 1 ct eNil)) s fun x8 s =>
vBld [.nil .sl, .nil .sl, .int .i64 0, .int .i64 0, .nil .sl, .nil .sl, .nil .sl, .nil .sl, .nil .sl] (eCons 3 1 (.int .i64 (-1)) (eCons 1 1 x4 (eCons 5 1 x5 (eCons 6 1 x6 (eCons 7 1 x7 (eCons 8 1 x8 eNil)))))) fun x9 =>
boxD false [.nil .sl, .nil .sl, .int .i64 0, .int .i64 0, .nil .sl, .nil .sl, .nil .sl, .nil .sl, .nil .sl] s fun x10 s =>
zSt x10 x9 9 s fun _ s =>
jn (fun _ s =>
ldA x10 (takeN 9) s fun x13 s =>
zSt x0 x13 9 s fun _ s =>
ldA x0 (takeN 9) s K) fun K12 =>
loopE k (fun K15 v s =>
pop v fun x16 _ =>
bLt x16 (ci 11) fun x17 =>
cnd x17 (jn (fun _ s =>
bAdd x16 (ci 1) fun x19 =>
K15 [x19] s) fun K18 =>
bAdd (ci 97) x16 fun x20 =>
vCv .u8 x20 fun x21 =>
zHbs [.int .u8 0, .int .u8 0] 1 2 (eCons 0 1 (cu 67) (eCons 1 1 x21 eNil)) s fun x22 s =>
b2sA x22 s fun x23 s =>
zHbs [.int .i64 0] 1 1 (eCons 0 1 x16 eNil) s fun x24 s =>
bGt x16 (ci 0) fun x25 =>
gK x25 true x16 fun x26 =>
gV x25 true (bLt x26 (ci 10)) fun x27 =>
vPick x25 x27 cf fun x28 =>
vBld [.str [], .int .i64 0, .int .i64 0, .nil .sl, .nil .sl, .nil .sl, .nil .sl, .int .i64 0, .int .i64 0, .bool false] (eCons 0 1 x23 (eCons 1 1 (.int .i64 (-1)) (eCons 2 1 (.int .i64 (-1)) (eCons 4 1 x24 (eCons 8 1 (.int .i64 (-1)) (eCons 9 1 x28 eNil)))))) fun x29 =>
boxD false [.str [], .int .i64 0, .int .i64 0, .nil .sl, .nil .sl, .nil .sl, .nil .sl, .int .i64 0, .int .i64 0, .bool false] s fun x30 s =>
zSt x30 x29 10 s fun _ s =>
bEqF x16 (ci 10) fun x32 =>
jn (fun _ s =>
fa1 x10 0 fun x34 =>
ldA x34 take1 s fun x35 s =>
ldA x30 (takeN 10) s fun x36 s =>
zBsl [.str [], .int .i64 0, .int .i64 0, .nil .sl, .nil .sl, .nil .sl, .nil .sl, .int .i64 0, .int .i64 0, .bool false] 10 1 (eCons 0 10 x36 eNil) s fun x37 s =>
appB 10 152 x35 x37 s fun x38 s =>
fa1 x10 0 fun x39 =>
zSt x39 x38 1 s fun _ s =>
K18 [] s) fun K33 =>
cnd x32 (fa1 x30 7 fun x41 =>
zSt x41 (ci 2) 1 s fun _ s =>
fa1 x30 8 fun x43 =>
zSt x43 (ci 0) 1 s fun _ s =>
K33 [] s)
(fa1 x10 4 fun x45 =>
ldA x45 take1 s fun x46 s =>
zBsl [.int .i64 0] 1 1 (eCons 0 1 x16 eNil) s fun x47 s =>
appB 1 8 x46 x47 s fun x48 s =>
fa1 x10 4 fun x49 =>
zSt x49 x48 1 s fun _ s =>
K33 [] s))
(K12 [] s)) [(ci 0)] s)
def F27 : F2 := .fn H27 true
theorem fe27 : feE Tryz.prog ann 27 0 [.j [], .j [2], .j [], .j [], .j []] = some F27 := by kernel_rfl
def H16 : F2C := fun c _ v s K =>
pop v fun x0 v =>
endE v (
zTbox x0 s fun x1 s =>
fa1 x1 0 fun x2 =>
ldA x2 take1 s fun x3 s =>
c (.mk .d0 .d0 .d4 .d4) [x3, (.fn 37 [] [])] s fun x4 s =>
cnd x4 (none)
(vBld [.nil .sl] eNil fun x5 =>
zBox true x5 s fun x6 s =>
fa1 x1 0 fun x7 =>
ldA x7 take1 s fun x8 s =>
vGen (.mkf 39 [(.c x6)] []) fun x9 =>
c (.mk .d0 .d0 .d4 .d6) [x6, x8, x9] s fun _ s =>
fa1 x1 1 fun x11 =>
ldA x11 take1 s fun x12 s =>
vGen (.mkf 41 [(.c x6)] []) fun x13 =>
c (.mk .d0 .d0 .d5 .d0) [x6, x12, x13] s fun _ s =>
fa1 x1 2 fun x15 =>
ldA x15 take1 s fun x16 s =>
c (.mk .d0 .d0 .d5 .d2) [x6, x16] s fun _ s =>
fa1 x1 3 fun x18 =>
ldA x18 take1 s fun x19 s =>
c (.mk .d0 .d0 .d5 .d2) [x6, x19] s fun _ s =>
fa1 x1 4 fun x21 =>
ldA x21 take1 s fun x22 s =>
vGen (.mkf 42 [(.c x6)] []) fun x23 =>
c (.mk .d0 .d0 .d5 .d3) [x6, x22, x23] s fun _ s =>
fa1 x1 5 fun x25 =>
ldA x25 take1 s fun x26 s =>
vGen (.mkf 45 [(.c x6)] []) fun x27 =>
c (.mk .d0 .d0 .d5 .d4) [x6, x26, x27] s fun _ s =>
fa1 x1 6 fun x29 =>
ldA x29 take1 s fun x30 s =>
vGen (.mkf 42 [(.c x6)] []) fun x31 =>
c (.mk .d0 .d0 .d5 .d3) [x6, x30, x31] s fun _ s =>
fa1 x1 7 fun x33 =>
ldA x33 take1 s fun x34 s =>
vGen (.mkf 45 [(.c x6)] []) fun x35 =>
c (.mk .d0 .d0 .d5 .d4) [x6, x34, x35] s fun _ s =>
fa1 x1 8 fun x37 =>
ldA x37 take1 s fun x38 s =>
vGen (.mkf 47 [(.c x6)] []) fun x39 =>
c (.mk .d0 .d0 .d5 .d6) [x6, x38, x39] s fun _ s =>
vChk x6 fun x41 =>
fa1 x41 0 fun x42 =>
ldA x42 take1 s fun x43 s =>
vLenS x43 fun x44 =>
bAdd (ci 8) x44 fun x45 =>
bAdd x45 (ci 4) fun x46 =>
bGt x46 (ci 1048576) fun x47 =>
cnd x47 (none)
(lgE qNoE (zHbs [.int .u8 0, .int .u8 0, .int .u8 0, .int .u8 0] 1 4 (eCons 0 1 (cu 68) (eCons 1 1 (cu 65) (eCons 2 1 (cu 71) (eCons 3 1 (cu 85) eNil))))) s fun x48 e49 s =>
lgE qNoE (zCvs x48) s fun x50 e51 s =>
lgE qNoE (zK x46) s fun x52 e53 s =>
lgE qNoE (zV (vCv .u32 x52)) s fun x54 e55 s =>
lgE qNoE (c (.mk .d0 .d0 .d6 .d0) [x54]) s fun x56 e57 s =>
lgE qNoE (appB 1 1 x50 x56) s fun x58 e59 s =>
lgE qNoE (zK x6) s fun x60 e61 s =>
lgE qNoE (zV (vChk x60)) s fun x62 e63 s =>
lgE qNoE (zV (fa1 x62 0)) s fun x64 e65 s =>
lgE (qLdE x64 1) (ldA x64 take1) s fun x66 e67 s =>
lgE qNoE (appB 1 1 x58 x66) s fun x68 e69 s =>
lgE qNoE (zK x68) s fun x70 e71 s =>
calmE [(0, 3), (1, 3), (0, 4), (1, 4), (0, 9), (1, 9), (3, 9), (4, 9), (5, 9)] [e49, e51, e53, e55, e57, e59, e61, e63, e65, e67, e69, e71] (fun s =>
c (.mk .d0 .d0 .d6 .d1) [x70] s fun x72 s =>
c (.mk .d0 .d0 .d6 .d0) [x72] s fun x73 s =>
c (.mk .d0 .d0 .d6 .d2) [x73] s fun _ s =>
appB 1 1 x70 x73 s fun x75 s =>
K x75 s) s)))
def F16 : F2 := .fn H16 true
theorem fe16 : feE Tryz.prog ann 16 1 [.cl, .cl] = some F16 := by kernel_rfl
def H17 : F2C := fun c _ v s K =>
pop v fun x0 v =>
endE v (
boxD false [.nil .sl, .nil .sl, .int .i64 0, .int .i64 0, .nil .sl, .nil .sl, .nil .sl, .nil .sl, .nil .sl] s fun x1 s =>
vLenS x0 fun x2 =>
bLt x2 (ci 12) fun x3 =>
gK x3 false x0 fun x4 =>
gV x3 false (vLenS x4) fun x5 =>
gV x3 false (bGt x5 (ci 1048576)) fun x6 =>
vPick x3 ct x6 fun x7 =>
cnd x7 (vBld [.nil .sl, .nil .sl, .int .i64 0, .int .i64 0, .nil .sl, .nil .sl, .nil .sl, .nil .sl, .nil .sl] eNil fun x8 =>
zSt x1 x8 9 s fun _ s =>
ldA x1 (takeN 9) s fun x10 s => K (.tup [x10, (ci 6)]) s)
(vLenS x0 fun x11 =>
bSub x11 (ci 4) fun x12 =>
vSlt x0 (eX (ci 8)) (eX x12) 1 fun x13 =>
vBld [.nil .sl, .bool false] (eCons 0 1 x13 eNil) fun x14 =>
zBox false x14 s fun x15 s =>
vGen (.mkf 52 [(.c x15)] []) fun x16 =>
c (.mk .d0 .d0 .d6 .d3) [x15, x16] s fun x17 s =>
vGen (.mkf 54 [(.c x15)] []) fun x18 =>
c (.mk .d0 .d0 .d6 .d5) [x15, x18] s fun x19 s =>
c (.mk .d0 .d0 .d6 .d7) [x15] s fun x20 s =>
c (.mk .d0 .d0 .d6 .d7) [x15] s fun x21 s =>
vBld [.nil .sl, .nil .sl, .int .i64 0, .int .i64 0, .nil .sl, .nil .sl, .nil .sl, .nil .sl, .nil .sl] (eCons 0 1 x17 (eCons 1 1 x19 (eCons 2 1 x20 (eCons 3 1 x21 eNil)))) fun x22 =>
boxD false [.nil .sl, .nil .sl, .int .i64 0, .int .i64 0, .nil .sl, .nil .sl, .nil .sl, .nil .sl, .nil .sl] s fun x23 s =>
zSt x23 x22 9 s fun _ s =>
vGen (.mkf 55 [(.c x15)] []) fun x25 =>
c (.mk .d0 .d0 .d7 .d0) [x15, x25] s fun x26 s =>
vGen (.mkf 58 [(.c x15)] []) fun x27 =>
c (.mk .d0 .d0 .d7 .d1) [x15, x27] s fun x28 s =>
vGen (.mkf 55 [(.c x15)] []) fun x29 =>
c (.mk .d0 .d0 .d7 .d0) [x15, x29] s fun x30 s =>
fa1 x23 4 fun x31 =>
zSt x31 x26 1 s fun _ s =>
fa1 x23 5 fun x33 =>
zSt x33 x28 1 s fun _ s =>
fa1 x23 6 fun x35 =>
zSt x35 x30 1 s fun _ s =>
vGen (.mkf 58 [(.c x15)] []) fun x37 =>
c (.mk .d0 .d0 .d7 .d1) [x15, x37] s fun x38 s =>
vGen (.mkf 60 [(.c x15)] []) fun x39 =>
c (.mk .d0 .d0 .d7 .d3) [x15, x39] s fun x40 s =>
fa1 x23 7 fun x41 =>
zSt x41 x38 1 s fun _ s =>
fa1 x23 8 fun x43 =>
zSt x43 x40 1 s fun _ s =>
ldA x23 (takeN 9) s fun x45 s =>
c (.mk .d0 .d0 .d2 .d0) [x45] s fun x46 s =>
vChk x15 fun x47 =>
fa1 x47 1 fun x48 =>
ldA x48 take1 s fun x49 s =>
gK x49 false x46 fun x50 =>
gV x49 false (vNil false .sl x50) fun x51 =>
vPick x49 ct x51 fun x52 =>
gK x52 false x46 fun x53 =>
gK x52 false x0 fun x54 =>
gH x52 false (c (.mk .d0 .d0 .d7 .d5) [x53, x54]) s fun x55 s =>
gV x52 false (vGen (.un .not (.c x55))) fun x56 =>
vPick x52 ct x56 fun x57 =>
cnd x57 (none)
(ldA x23 (takeN 9) s fun x58 s =>
zSt x1 x58 9 s fun _ s =>
ldA x1 (takeN 9) s fun x60 s => K (.tup [x60, (ci 0)]) s)))
def F17 : F2 := .fn H17 true
theorem fe17 : feE Tryz.prog ann 17 1 [.j [], .cl] = some F17 := by kernel_rfl
def H32 : F2C := fun c _ v s K =>
endE v (
c (.mk .d0 .d1 .d3 .d4) [] s fun x0 s =>
K x0 s)
def F32 : F2 := .pur H32 true mNo
theorem fe32 : feE Tryz.prog ann 32 0 [] = some F32 := by kernel_rfl
def M32 (k : Nat) : F2 := .pur H32 true (Bool.rec mNo (mVal (.bool true)) (Nat.ble 2 k))
def H33 : F2C := fun c _ v s K =>
endE v (
c (.mk .d0 .d1 .d3 .d5) [] s fun x0 s =>
K x0 s)
def F33 : F2 := .pur H33 true mNo
theorem fe33 : feE Tryz.prog ann 33 0 [] = some F33 := by kernel_rfl
def M33 (k : Nat) : F2 := .pur H33 true (Bool.rec mNo (mVal (.bool true)) (Nat.ble 6 k))
def H18 : F2C := fun c k v s K =>
pop v fun x0 v =>
pop v fun x1 v =>
endE v (
zTbox x0 s fun x2 s =>
zTbox x1 s fun x3 s =>
fa1 x2 0 fun x4 =>
ldA x4 take1 s fun x5 s =>
vLenS x5 fun x6 =>
fa1 x3 0 fun x7 =>
ldA x7 take1 s fun x8 s =>
vLenS x8 fun x9 =>
bEqT x6 x9 fun x10 =>
gV x10 false (fa1 x2 1) fun x11 =>
gH x10 false (ldA x11 take1) s fun x12 s =>
gV x10 false (vLenS x12) fun x13 =>
gV x10 false (fa1 x3 1) fun x14 =>
gH x10 false (ldA x14 take1) s fun x15 s =>
gV x10 false (vLenS x15) fun x16 =>
gV x10 false (bEqT x13 x16) fun x17 =>
vPick x10 ct x17 fun x18 =>
gV x18 false (fa1 x2 2) fun x19 =>
gH x18 false (ldA x19 take1) s fun x20 s =>
gV x18 false (fa1 x3 2) fun x21 =>
gH x18 false (ldA x21 take1) s fun x22 s =>
gV x18 false (bEqT x20 x22) fun x23 =>
vPick x18 ct x23 fun x24 =>
gV x24 false (fa1 x2 3) fun x25 =>
gH x24 false (ldA x25 take1) s fun x26 s =>
gV x24 false (fa1 x3 3) fun x27 =>
gH x24 false (ldA x27 take1) s fun x28 s =>
gV x24 false (bEqT x26 x28) fun x29 =>
vPick x24 ct x29 fun x30 =>
gV x30 false (fa1 x2 4) fun x31 =>
gH x30 false (ldA x31 take1) s fun x32 s =>
gV x30 false (fa1 x3 4) fun x33 =>
gH x30 false (ldA x33 take1) s fun x34 s =>
gH x30 false (c (.mk .d0 .d0 .d7 .d6) [x32, x34]) s fun x35 s =>
gV x30 false (vGen (.un .not (.c x35))) fun x36 =>
vPick x30 ct x36 fun x37 =>
gV x37 false (fa1 x2 5) fun x38 =>
gH x37 false (ldA x38 take1) s fun x39 s =>
gV x37 false (fa1 x3 5) fun x40 =>
gH x37 false (ldA x40 take1) s fun x41 s =>
gH x37 false (c (.mk .d0 .d0 .d7 .d7) [x39, x41]) s fun x42 s =>
gV x37 false (vGen (.un .not (.c x42))) fun x43 =>
vPick x37 ct x43 fun x44 =>
gV x44 false (fa1 x2 6) fun x45 =>
gH x44 false (ldA x45 take1) s fun x46 s =>
gV x44 false (fa1 x3 6) fun x47 =>
gH x44 false (ldA x47 take1) s fun x48 s =>
gH x44 false (c (.mk .d0 .d0 .d7 .d6) [x46, x48]) s fun x49 s =>
gV x44 false (vGen (.un .not (.c x49))) fun x50 =>
vPick x44 ct x50 fun x51 =>
gV x51 false (fa1 x2 7) fun x52 =>
gH x51 false (ldA x52 take1) s fun x53 s =>
gV x51 false (fa1 x3 7) fun x54 =>
gH x51 false (ldA x54 take1) s fun x55 s =>
gH x51 false (c (.mk .d0 .d0 .d7 .d7) [x53, x55]) s fun x56 s =>
gV x51 false (vGen (.un .not (.c x56))) fun x57 =>
vPick x51 ct x57 fun x58 =>
gV x58 false (fa1 x2 8) fun x59 =>
gH x58 false (ldA x59 take1) s fun x60 s =>
gV x58 false (fa1 x3 8) fun x61 =>
gH x58 false (ldA x61 take1) s fun x62 s =>
gH x58 false (c (.mk .d0 .d1 .d0 .d0) [x60, x62]) s fun x63 s =>
gV x58 false (vGen (.un .not (.c x63))) fun x64 =>
vPick x58 ct x64 fun x65 =>
cnd x65 (none)
(jn (fun _ s =>
jn (fun _ s =>
K ct s) fun K67 =>
loopE k (fun K68 v s =>
pop v fun x69 _ =>
fa1 x2 1 fun x70 =>
ldA x70 take1 s fun x71 s =>
vLenS x71 fun x72 =>
bLt x69 x72 fun x73 =>
cnd x73 (jn (fun _ s =>
bAdd x69 (ci 1) fun x75 =>
K68 [x75] s) fun K74 =>
lgE qNoE (zV (fa1 x2 1)) s fun x76 e77 s =>
lgE (qLdE x76 1) (ldA x76 take1) s fun x78 e79 s =>
lgE qNoE (zK x69) s fun x80 e81 s =>
lgE qNoE (zV (vIaS x78 x80 6)) s fun x82 e83 s =>
lgE (qLdE x82 6) (ldA x82 (takeN 6)) s fun x84 e85 s =>
lgE qNoE (zV (fa1 x3 1)) s fun x86 e87 s =>
lgE (qLdE x86 1) (ldA x86 take1) s fun x88 e89 s =>
lgE qNoE (zK x69) s fun x90 e91 s =>
lgE qNoE (zV (vIaS x88 x90 6)) s fun x92 e93 s =>
lgE (qLdE x92 6) (ldA x92 (takeN 6)) s fun x94 e95 s =>
lgE qNoE (c (.mk .d0 .d1 .d0 .d2) [x84, x94]) s fun x96 e97 s =>
lgE qNoE (zV (vGen (.un .not (.c x96)))) s fun x98 e99 s =>
calmE [(1, 6), (4, 6), (1, 9), (4, 9)] [e77, e79, e81, e83, e85, e87, e89, e91, e93, e95, e97, e99] (fun s =>
cnd x98 (none)
(K74 [] s)) s)
(K67 [] s)) [(ci 0)] s) fun K66 =>
loopE k (fun K100 v s =>
pop v fun x101 _ =>
fa1 x2 0 fun x102 =>
ldA x102 take1 s fun x103 s =>
vLenS x103 fun x104 =>
bLt x101 x104 fun x105 =>
cnd x105 (jn (fun _ s =>
bAdd x101 (ci 1) fun x107 =>
K100 [x107] s) fun K106 =>
lgE qNoE (zV (fa1 x2 0)) s fun x108 e109 s =>
lgE (qLdE x108 1) (ldA x108 take1) s fun x110 e111 s =>
lgE qNoE (zK x101) s fun x112 e113 s =>
lgE qNoE (zV (vIaS x110 x112 10)) s fun x114 e115 s =>
lgE (qLdE x114 10) (ldA x114 (takeN 10)) s fun x116 e117 s =>
lgE qNoE (zV (fa1 x3 0)) s fun x118 e119 s =>
lgE (qLdE x118 1) (ldA x118 take1) s fun x120 e121 s =>
lgE qNoE (zK x101) s fun x122 e123 s =>
lgE qNoE (zV (vIaS x120 x122 10)) s fun x124 e125 s =>
lgE (qLdE x124 10) (ldA x124 (takeN 10)) s fun x126 e127 s =>
lgE qNoE (c (.mk .d0 .d1 .d0 .d1) [x116, x126]) s fun x128 e129 s =>
lgE qNoE (zV (vGen (.un .not (.c x128)))) s fun x130 e131 s =>
calmE [(1, 6), (4, 6), (1, 9), (4, 9)] [e109, e111, e113, e115, e117, e119, e121, e123, e125, e127, e129, e131] (fun s =>
cnd x130 (none)
(K106 [] s)) s)
(K66 [] s)) [(ci 0)] s))
def F18 : F2 := .fn H18 true
theorem fe18 : feE Tryz.prog ann 18 2 [.cl, .j [], .j [5], .j [], .j [], .cl, .j [], .j [6], .j [], .j [], .cl] = some F18 := by kernel_rfl
def H19 : F2C := fun c _ v s K =>
pop v fun x0 v =>
pop v fun x1 v =>
endE v (
zTbox x0 s fun x2 s =>
zTbox x1 s fun x3 s =>
fa1 x2 0 fun x4 =>
ldA x4 take1 s fun x5 s =>
fa1 x3 0 fun x6 =>
ldA x6 take1 s fun x7 s =>
c (.mk .d0 .d1 .d0 .d3) [x5, x7, (.fn 68 [] [])] s fun x8 s =>
gV x8 true (fa1 x2 1) fun x9 =>
gH x8 true (ldA x9 take1) s fun x10 s =>
gV x8 true (fa1 x3 1) fun x11 =>
gH x8 true (ldA x11 take1) s fun x12 s =>
gH x8 true (c (.mk .d0 .d1 .d0 .d5) [x10, x12, (.fn 70 [] [])]) s fun x13 s =>
vPick x8 x13 cf fun x14 =>
fa1 x2 5 fun x15 =>
ldA x15 take1 s fun x16 s =>
fa1 x3 5 fun x17 =>
ldA x17 take1 s fun x18 s =>
c (.mk .d0 .d1 .d0 .d7) [x16, x18] s fun x19 s =>
gV x19 true (fa1 x2 6) fun x20 =>
gH x19 true (ldA x20 take1) s fun x21 s =>
gV x19 true (fa1 x3 6) fun x22 =>
gH x19 true (ldA x22 take1) s fun x23 s =>
gH x19 true (c (.mk .d0 .d1 .d1 .d0) [x21, x23]) s fun x24 s =>
vPick x19 x24 cf fun x25 =>
gV x25 true (fa1 x2 7) fun x26 =>
gH x25 true (ldA x26 take1) s fun x27 s =>
gV x25 true (fa1 x3 7) fun x28 =>
gH x25 true (ldA x28 take1) s fun x29 s =>
gH x25 true (c (.mk .d0 .d1 .d0 .d7) [x27, x29]) s fun x30 s =>
vPick x25 x30 cf fun x31 =>
gV x31 true (fa1 x2 8) fun x32 =>
gH x31 true (ldA x32 take1) s fun x33 s =>
gV x31 true (fa1 x3 8) fun x34 =>
gH x31 true (ldA x34 take1) s fun x35 s =>
gH x31 true (c (.mk .d0 .d1 .d1 .d1) [x33, x35]) s fun x36 s =>
vPick x31 x36 cf fun x37 =>
gK x14 true x37 fun x38 =>
vPick x14 x38 cf fun x39 =>
gV x39 true (fa1 x2 2) fun x40 =>
gH x39 true (ldA x40 take1) s fun x41 s =>
gV x39 true (fa1 x3 2) fun x42 =>
gH x39 true (ldA x42 take1) s fun x43 s =>
gV x39 true (bEqF x41 x43) fun x44 =>
vPick x39 x44 cf fun x45 =>
gV x45 true (fa1 x2 3) fun x46 =>
gH x45 true (ldA x46 take1) s fun x47 s =>
gV x45 true (fa1 x3 3) fun x48 =>
gH x45 true (ldA x48 take1) s fun x49 s =>
gV x45 true (bEqF x47 x49) fun x50 =>
vPick x45 x50 cf fun x51 =>
gV x51 true (fa1 x2 4) fun x52 =>
gH x51 true (ldA x52 take1) s fun x53 s =>
gV x51 true (fa1 x3 4) fun x54 =>
gH x51 true (ldA x54 take1) s fun x55 s =>
gH x51 true (c (.mk .d0 .d1 .d1 .d0) [x53, x55]) s fun x56 s =>
vPick x51 x56 cf fun x57 =>
K x57 s)
def F19 : F2 := .fn H19 true
theorem fe19 : feE Tryz.prog ann 19 2 [] = some F19 := by kernel_rfl
def H36 : F2C := fun c _ v s K =>
pop v fun x0 v =>
pop v fun x1 v =>
endE v (
c (.mk .d0 .d1 .d3 .d6) [x0, x1] s fun x2 s =>
bGe x2 (ci 0) fun x3 =>
K x3 s)
def F36 : F2 := .fn H36 true
theorem fe36 : feE Tryz.prog ann 36 2 [] = some F36 := by kernel_rfl
def H37 : F2C := fun _ _ v s K =>
pop v fun x0 v =>
endE v (
zTbox x0 s fun x1 s =>
fa1 x1 0 fun x2 =>
ldA x2 take1 s fun x3 s =>
vLens x3 fun x4 =>
bGt x4 (ci 1048576) fun x5 =>
K x5 s)
def F37 : F2 := .fn H37 true
theorem fe37 : feE Tryz.prog ann 37 1 [] = some F37 := by kernel_rfl
def H39 : F2C := fun c k v s K =>
pop v fun x0 v =>
pop v fun x1 v =>
endE v (
zBox false x0 s fun x2 s =>
zTbox x1 s fun x3 s =>
lgE (qLdE x2 1) (ldA x2 take1) s fun x4 e5 s =>
lgE (qLdE x2 1) (ldA x2 take1) s fun x6 e7 s =>
lgE qNoE (zV (vChk x6)) s fun x8 e9 s =>
lgE qNoE (zV (fa1 x8 0)) s fun x10 e11 s =>
lgE (qLdE x10 1) (ldA x10 take1) s fun x12 e13 s =>
lgE qNoE (zV (fa1 x3 0)) s fun x14 e15 s =>
lgE (qLdE x14 1) (ldA x14 take1) s fun x16 e17 s =>
lgE qNoE (c (.mk .d0 .d1 .d3 .d7) [x12, x16]) s fun x18 e19 s =>
lgE qNoE (zV (vChk x4)) s fun x20 e21 s =>
lgE qNoE (zV (fa1 x20 0)) s fun x22 e23 s =>
lgE qNoE (zSt x22 x18 1) s fun _ e25 s =>
calmE [(0, 1), (0, 4), (0, 6), (1, 6), (4, 6), (0, 7)] [e5, e7, e9, e11, e13, e15, e17, e19, e21, e23, e25] (fun s =>
fa1 x3 1 fun x26 =>
ldA x26 take1 s fun x27 s =>
fa1 x3 2 fun x28 =>
ldA x28 take1 s fun x29 s =>
fa1 x3 7 fun x30 =>
ldA x30 take1 s fun x31 s =>
fa1 x3 8 fun x32 =>
ldA x32 take1 s fun x33 s =>
vBld [.int .i64 0, .int .i64 0, .int .i64 0, .int .i64 0] (eCons 0 1 x27 (eCons 1 1 x29 (eCons 2 1 x31 (eCons 3 1 x33 eNil)))) fun x34 =>
jn (fun _ s =>
ldA x2 take1 s fun x36 s =>
fa1 x3 9 fun x37 =>
ldA x37 take1 s fun x38 s =>
c (.mk .d0 .d0 .d5 .d7) [x36, x38] s fun _ s =>
ldA x2 take1 s fun x40 s =>
fa1 x3 3 fun x41 =>
ldA x41 take1 s fun x42 s =>
ldA x2 take1 s fun x43 s =>
vGen (.mkf 47 [(.c x43)] []) fun x44 =>
c (.mk .d0 .d0 .d5 .d6) [x40, x42, x44] s fun _ s =>
ldA x2 take1 s fun x46 s =>
fa1 x3 4 fun x47 =>
ldA x47 take1 s fun x48 s =>
ldA x2 take1 s fun x49 s =>
vGen (.mkf 42 [(.c x49)] []) fun x50 =>
c (.mk .d0 .d0 .d5 .d3) [x46, x48, x50] s fun _ s =>
ldA x2 take1 s fun x52 s =>
fa1 x3 5 fun x53 =>
ldA x53 take1 s fun x54 s =>
ldA x2 take1 s fun x55 s =>
vGen (.mkf 42 [(.c x55)] []) fun x56 =>
c (.mk .d0 .d0 .d5 .d3) [x52, x54, x56] s fun _ s =>
ldA x2 take1 s fun x58 s =>
fa1 x3 6 fun x59 =>
ldA x59 take1 s fun x60 s =>
vGen (.mkf 97 [] [(.c x2)]) fun x61 =>
c (.mk .d0 .d1 .d4 .d0) [x58, x60, x61] s fun _ s =>
K (.tup []) s) fun K35 =>
loopE k (fun K63 v s =>
pop v fun x64 _ =>
bLt x64 (ci 4) fun x65 =>
cnd x65 (jn (fun _ s =>
bAdd x64 (ci 1) fun x67 =>
K63 [x67] s) fun K66 =>
vGen (.ixa (.c x34) (.c x64) 4 1 none) fun x68 =>
ldA x2 take1 s fun x69 s =>
c (.mk .d0 .d0 .d5 .d2) [x69, x68] s fun _ s =>
K66 [] s)
(K35 [] s)) [(ci 0)] s) s)
def F39 : F2 := .fn H39 true
theorem fe39 : feE Tryz.prog ann 39 2 [.j [], .j [25], .j [], .j []] = some F39 := by kernel_rfl
def H38 : F2C := fun c k v s K =>
pop v fun x0 v =>
pop v fun x1 v =>
pop v fun x2 v =>
endE v (
vLenS x1 fun x3 =>
c (.mk .d0 .d0 .d5 .d2) [x0, x3] s fun _ s =>
vLenS x1 fun x5 =>
jn (fun _ s =>
K (.tup []) s) fun K6 =>
loopE k (fun K7 v s =>
pop v fun x8 _ =>
bLt x8 x5 fun x9 =>
cnd x9 (jn (fun _ s =>
bAdd x8 (ci 1) fun x11 =>
K7 [x11] s) fun K10 =>
vIaS x1 x8 10 fun x12 =>
ldA x12 (takeN 10) s fun x13 s =>
boxD false [.str [], .int .i64 0, .int .i64 0, .nil .sl, .nil .sl, .nil .sl, .nil .sl, .int .i64 0, .int .i64 0, .bool false] s fun x14 s =>
zSt x14 x13 10 s fun _ s =>
ldA x14 (takeN 10) s fun x16 s =>
zCallV c x2 [x16] s fun _ s =>
K10 [] s)
(K6 [] s)) [(ci 0)] s)
def F38 : F2 := .fn H38 true
theorem fe38 : feE Tryz.prog ann 38 3 [.j [], .j [14], .j [], .j []] = some F38 := by kernel_rfl
def H41 : F2C := fun c k v s K =>
pop v fun x0 v =>
pop v fun x1 v =>
endE v (
zTbox x1 s fun x2 s =>
fa1 x2 0 fun x3 =>
ldA x3 take1 s fun x4 s =>
fa1 x2 1 fun x5 =>
ldA x5 take1 s fun x6 s =>
fa1 x2 2 fun x7 =>
ldA x7 take1 s fun x8 s =>
vBld [.int .i64 0, .int .i64 0, .int .i64 0] (eCons 0 1 x4 (eCons 1 1 x6 (eCons 2 1 x8 eNil))) fun x9 =>
jn (fun _ s =>
fa1 x2 3 fun x11 =>
ldA x11 take1 s fun x12 s =>
c (.mk .d0 .d0 .d5 .d7) [x0, x12] s fun _ s =>
fa1 x2 4 fun x14 =>
ldA x14 take1 s fun x15 s =>
vGen (.mkf 99 [(.c x0)] []) fun x16 =>
c (.mk .d0 .d1 .d4 .d2) [x0, x15, x16] s fun _ s =>
fa1 x2 5 fun x18 =>
ldA x18 take1 s fun x19 s =>
vGen (.mkf 101 [(.c x0)] []) fun x20 =>
c (.mk .d0 .d1 .d4 .d4) [x0, x19, x20] s fun _ s =>
K (.tup []) s) fun K10 =>
loopE k (fun K22 v s =>
pop v fun x23 _ =>
bLt x23 (ci 3) fun x24 =>
cnd x24 (jn (fun _ s =>
bAdd x23 (ci 1) fun x26 =>
K22 [x26] s) fun K25 =>
vGen (.ixa (.c x9) (.c x23) 3 1 none) fun x27 =>
c (.mk .d0 .d0 .d5 .d2) [x0, x27] s fun _ s =>
K25 [] s)
(K10 [] s)) [(ci 0)] s)
def F41 : F2 := .fn H41 true
theorem fe41 : feE Tryz.prog ann 41 2 [.j [], .j [13], .j [], .j []] = some F41 := by kernel_rfl
def H40 : F2C := fun c k v s K =>
pop v fun x0 v =>
pop v fun x1 v =>
pop v fun x2 v =>
endE v (
vLenS x1 fun x3 =>
c (.mk .d0 .d0 .d5 .d2) [x0, x3] s fun _ s =>
vLenS x1 fun x5 =>
jn (fun _ s =>
K (.tup []) s) fun K6 =>
loopE k (fun K7 v s =>
pop v fun x8 _ =>
bLt x8 x5 fun x9 =>
cnd x9 (jn (fun _ s =>
bAdd x8 (ci 1) fun x11 =>
K7 [x11] s) fun K10 =>
vIaS x1 x8 6 fun x12 =>
ldA x12 (takeN 6) s fun x13 s =>
boxD false [.int .i64 0, .int .i64 0, .int .i64 0, .bool false, .nil .sl, .nil .sl] s fun x14 s =>
zSt x14 x13 6 s fun _ s =>
ldA x14 (takeN 6) s fun x16 s =>
zCallV c x2 [x16] s fun _ s =>
K10 [] s)
(K6 [] s)) [(ci 0)] s)
def F40 : F2 := .fn H40 true
theorem fe40 : feE Tryz.prog ann 40 3 [.j [], .j [14], .j [], .j []] = some F40 := by kernel_rfl
def H42 : F2C := fun c _ v s K =>
pop v fun x0 v =>
pop v fun x1 v =>
endE v (
vChk x0 fun x2 =>
fa1 x2 0 fun x3 =>
ldA x3 take1 s fun x4 s =>
c (.mk .d0 .d1 .d4 .d6) [x4, x1] s fun x5 s =>
vChk x0 fun x6 =>
fa1 x6 0 fun x7 =>
zSt x7 x5 1 s fun _ s =>
K (.tup []) s)
def F42 : F2 := .fn H42 true
theorem fe42 : feE Tryz.prog ann 42 2 [] = some F42 := by kernel_rfl
def H43 : F2C := fun c k v s K =>
pop v fun x0 v =>
pop v fun x1 v =>
pop v fun x2 v =>
endE v (
vLenS x1 fun x3 =>
c (.mk .d0 .d0 .d5 .d2) [x0, x3] s fun _ s =>
vLenS x1 fun x5 =>
jn (fun _ s =>
K (.tup []) s) fun K6 =>
loopE k (fun K7 v s =>
pop v fun x8 _ =>
bLt x8 x5 fun x9 =>
cnd x9 (jn (fun _ s =>
bAdd x8 (ci 1) fun x11 =>
K7 [x11] s) fun K10 =>
vIaS x1 x8 1 fun x12 =>
ldA x12 take1 s fun x13 s =>
zCallV c x2 [x13] s fun _ s =>
K10 [] s)
(K6 [] s)) [(ci 0)] s)
def F43 : F2 := .fn H43 true
theorem fe43 : feE Tryz.prog ann 43 3 [.j [], .j [14], .j [], .j []] = some F43 := by kernel_rfl
def H45 : F2C := fun c _ v s K =>
pop v fun x0 v =>
pop v fun x1 v =>
endE v (
vCv .i64 x1 fun x2 =>
c (.mk .d0 .d0 .d5 .d2) [x0, x2] s fun _ s =>
K (.tup []) s)
def F45 : F2 := .fn H45 true
theorem fe45 : feE Tryz.prog ann 45 2 [] = some F45 := by kernel_rfl
def H44 : F2C := fun c k v s K =>
pop v fun x0 v =>
pop v fun x1 v =>
pop v fun x2 v =>
endE v (
vLenS x1 fun x3 =>
c (.mk .d0 .d0 .d5 .d2) [x0, x3] s fun _ s =>
vLenS x1 fun x5 =>
jn (fun _ s =>
K (.tup []) s) fun K6 =>
loopE k (fun K7 v s =>
pop v fun x8 _ =>
bLt x8 x5 fun x9 =>
cnd x9 (jn (fun _ s =>
bAdd x8 (ci 1) fun x11 =>
K7 [x11] s) fun K10 =>
vIaS x1 x8 1 fun x12 =>
ldA x12 take1 s fun x13 s =>
zCallV c x2 [x13] s fun _ s =>
K10 [] s)
(K6 [] s)) [(ci 0)] s)
def F44 : F2 := .fn H44 true
theorem fe44 : feE Tryz.prog ann 44 3 [.j [], .j [14], .j [], .j []] = some F44 := by kernel_rfl
def H47 : F2C := fun c _ v s K =>
pop v fun x0 v =>
pop v fun x1 v =>
endE v (
jn (fun _ s =>
K (.tup []) s) fun K2 =>
cnd x1 (c (.mk .d0 .d0 .d5 .d2) [x0, (ci 1)] s fun _ s =>
K2 [] s)
(c (.mk .d0 .d0 .d5 .d2) [x0, (ci 0)] s fun _ s =>
K2 [] s))
def F47 : F2 := .fn H47 true
theorem fe47 : feE Tryz.prog ann 47 2 [.j []] = some F47 := by kernel_rfl
def H46 : F2C := fun c k v s K =>
pop v fun x0 v =>
pop v fun x1 v =>
pop v fun x2 v =>
endE v (
vLenS x1 fun x3 =>
c (.mk .d0 .d0 .d5 .d2) [x0, x3] s fun _ s =>
vLenS x1 fun x5 =>
jn (fun _ s =>
K (.tup []) s) fun K6 =>
loopE k (fun K7 v s =>
pop v fun x8 _ =>
bLt x8 x5 fun x9 =>
cnd x9 (jn (fun _ s =>
bAdd x8 (ci 1) fun x11 =>
K7 [x11] s) fun K10 =>
vIaS x1 x8 1 fun x12 =>
ldA x12 take1 s fun x13 s =>
zCallV c x2 [x13] s fun _ s =>
K10 [] s)
(K6 [] s)) [(ci 0)] s)
def F46 : F2 := .fn H46 true
theorem fe46 : feE Tryz.prog ann 46 3 [.j [], .j [14], .j [], .j []] = some F46 := by kernel_rfl
def H48 : F2C := fun _ _ v s K =>
pop v fun x0 v =>
endE v (
bShr x0 (.int .u64 24) fun x1 =>
vCv .u8 x1 fun x2 =>
bShr x0 (.int .u64 16) fun x3 =>
vCv .u8 x3 fun x4 =>
bShr x0 (.int .u64 8) fun x5 =>
vCv .u8 x5 fun x6 =>
vCv .u8 x0 fun x7 =>
zHbs [.int .u8 0, .int .u8 0, .int .u8 0, .int .u8 0] 1 4 (eCons 0 1 x2 (eCons 1 1 x4 (eCons 2 1 x6 (eCons 3 1 x7 eNil)))) s fun x8 s =>
K x8 s)
def F48 : F2 := .fn H48 true
theorem fe48 : feE Tryz.prog ann 48 1 [] = some F48 := by kernel_rfl
def H49 : F2C := fun c _ v s K =>
pop v fun x0 v =>
endE v (
c (.mk .d0 .d1 .d4 .d7) [(.int .u32 0), x0] s fun x1 s =>
K x1 s)
def F49 : F2 := .fn H49 true
theorem fe49 : feE Tryz.prog ann 49 1 [] = some F49 := by kernel_rfl
def H50 : F2C := fun _ k v s K =>
pop v fun x0 v =>
endE v (
vLenS x0 fun x1 =>
bSub x1 (ci 1) fun x2 =>
jn (fun _ s =>
K (.tup []) s) fun K3 =>
loopE k (fun K4 v s =>
pop v fun x5 v =>
pop v fun x6 _ =>
bLt x6 x5 fun x7 =>
cnd x7 (jn (fun _ s =>
bAdd x6 (ci 1) fun x9 =>
bSub x5 (ci 1) fun x10 =>
K4 [x10, x9] s) fun K8 =>
lgE qNoE (zK x0) s fun x11 e12 s =>
lgE qNoE (zK x6) s fun x13 e14 s =>
lgE qNoE (zK x0) s fun x15 e16 s =>
lgE qNoE (zK x5) s fun x17 e18 s =>
lgE qNoE (zK x0) s fun x19 e20 s =>
lgE qNoE (zK x5) s fun x21 e22 s =>
lgE qNoE (zV (vIaS x19 x21 1)) s fun x23 e24 s =>
lgE (qLdE x23 1) (ldA x23 take1) s fun x25 e26 s =>
lgE qNoE (zK x0) s fun x27 e28 s =>
lgE qNoE (zK x6) s fun x29 e30 s =>
lgE qNoE (zV (vIaS x27 x29 1)) s fun x31 e32 s =>
lgE (qLdE x31 1) (ldA x31 take1) s fun x33 e34 s =>
lgE qNoE (zV (vIaS x11 x13 1)) s fun x35 e36 s =>
lgE qNoE (zSt x35 x25 1) s fun _ e38 s =>
lgE qNoE (zV (vIaS x15 x17 1)) s fun x39 e40 s =>
lgE qNoE (zSt x39 x33 1) s fun _ e42 s =>
calmE [(7, 11)] [e12, e14, e16, e18, e20, e22, e24, e26, e28, e30, e32, e34, e36, e38, e40, e42] (fun s =>
K8 [] s) s)
(K3 [] s)) [x2, (ci 0)] s)
def F50 : F2 := .fn H50 true
theorem fe50 : feE Tryz.prog ann 50 1 [.j [], .j [3, 2], .j [], .j []] = some F50 := by kernel_rfl
def H52 : F2C := fun c _ v s K =>
pop v fun x0 v =>
endE v (
boxD false [.str [], .int .i64 0, .int .i64 0, .nil .sl, .nil .sl, .nil .sl, .nil .sl, .int .i64 0, .int .i64 0, .bool false] s fun x1 s =>
c (.mk .d0 .d1 .d5 .d0) [x0] s fun x2 s =>
c (.mk .d0 .d0 .d6 .d7) [x0] s fun x3 s =>
c (.mk .d0 .d0 .d6 .d7) [x0] s fun x4 s =>
c (.mk .d0 .d0 .d6 .d7) [x0] s fun x5 s =>
c (.mk .d0 .d0 .d6 .d7) [x0] s fun x6 s =>
c (.mk .d0 .d0 .d7 .d4) [x0] s fun x7 s =>
vBld [.str [], .int .i64 0, .int .i64 0, .nil .sl, .nil .sl, .nil .sl, .nil .sl, .int .i64 0, .int .i64 0, .bool false] (eCons 0 1 x2 (eCons 1 1 x3 (eCons 2 1 x4 (eCons 7 1 x5 (eCons 8 1 x6 (eCons 9 1 x7 eNil)))))) fun x8 =>
boxD false [.str [], .int .i64 0, .int .i64 0, .nil .sl, .nil .sl, .nil .sl, .nil .sl, .int .i64 0, .int .i64 0, .bool false] s fun x9 s =>
zSt x9 x8 10 s fun _ s =>
vGen (.mkf 60 [(.c x0)] []) fun x11 =>
c (.mk .d0 .d0 .d7 .d3) [x0, x11] s fun x12 s =>
vGen (.mkf 55 [(.c x0)] []) fun x13 =>
c (.mk .d0 .d0 .d7 .d0) [x0, x13] s fun x14 s =>
vGen (.mkf 55 [(.c x0)] []) fun x15 =>
c (.mk .d0 .d0 .d7 .d0) [x0, x15] s fun x16 s =>
fa1 x9 3 fun x17 =>
zSt x17 x12 1 s fun _ s =>
fa1 x9 4 fun x19 =>
zSt x19 x14 1 s fun _ s =>
fa1 x9 5 fun x21 =>
zSt x21 x16 1 s fun _ s =>
vGen (.mkf 106 [(.c x0)] []) fun x23 =>
c (.mk .d0 .d1 .d5 .d1) [x0, x23] s fun x24 s =>
fa1 x9 6 fun x25 =>
zSt x25 x24 1 s fun _ s =>
ldA x9 (takeN 10) s fun x27 s =>
zSt x1 x27 10 s fun _ s =>
ldA x1 (takeN 10) s K)
def F52 : F2 := .fn H52 true
theorem fe52 : feE Tryz.prog ann 52 1 [] = some F52 := by kernel_rfl
def H51 : F2C := fun c k v s K =>
pop v fun x0 v =>
pop v fun x1 v =>
endE v (
c (.mk .d0 .d0 .d6 .d7) [x0] s fun x2 s =>
jn (fun v s =>
pop v fun x4 _ =>
K x4 s) fun K3 =>
loopE k (fun K5 v s =>
pop v fun x6 v =>
pop v fun x7 _ =>
bGt x6 (ci 0) fun x8 =>
gK x8 true x0 fun x9 =>
gV x8 true (vChk x9) fun x10 =>
gV x8 true (fa1 x10 1) fun x11 =>
gH x8 true (ldA x11 take1) s fun x12 s =>
gV x8 true (vGen (.un .not (.c x12))) fun x13 =>
vPick x8 x13 cf fun x14 =>
cnd x14 (jn (fun v s =>
pop v fun x16 _ =>
bSub x6 (ci 1) fun x17 =>
K5 [x17, x16] s) fun K15 =>
zCallV c x1 [] s fun x18 s =>
zBsl [.str [], .int .i64 0, .int .i64 0, .nil .sl, .nil .sl, .nil .sl, .nil .sl, .int .i64 0, .int .i64 0, .bool false] 10 1 (eCons 0 10 x18 eNil) s fun x19 s =>
appB 10 152 x7 x19 s fun x20 s =>
K15 [x20] s)
(K3 [x7] s)) [x2, (.nil .sl)] s)
def F51 : F2 := .fn H51 true
theorem fe51 : feE Tryz.prog ann 51 2 [.j [5], .j [6, 5], .j [], .j [5]] = some F51 := by kernel_rfl
def H54 : F2C := fun c _ v s K =>
pop v fun x0 v =>
endE v (
boxD false [.int .i64 0, .int .i64 0, .int .i64 0, .bool false, .nil .sl, .nil .sl] s fun x1 s =>
c (.mk .d0 .d0 .d6 .d7) [x0] s fun x2 s =>
c (.mk .d0 .d0 .d6 .d7) [x0] s fun x3 s =>
c (.mk .d0 .d0 .d6 .d7) [x0] s fun x4 s =>
c (.mk .d0 .d0 .d7 .d4) [x0] s fun x5 s =>
vBld [.int .i64 0, .int .i64 0, .int .i64 0, .bool false, .nil .sl, .nil .sl] (eCons 0 1 x2 (eCons 1 1 x3 (eCons 2 1 x4 (eCons 3 1 x5 eNil)))) fun x6 =>
boxD false [.int .i64 0, .int .i64 0, .int .i64 0, .bool false, .nil .sl, .nil .sl] s fun x7 s =>
zSt x7 x6 6 s fun _ s =>
vGen (.mkf 108 [(.c x0)] []) fun x9 =>
c (.mk .d0 .d1 .d5 .d3) [x0, x9] s fun x10 s =>
vGen (.mkf 110 [(.c x0)] []) fun x11 =>
c (.mk .d0 .d1 .d5 .d5) [x0, x11] s fun x12 s =>
fa1 x7 4 fun x13 =>
zSt x13 x10 1 s fun _ s =>
fa1 x7 5 fun x15 =>
zSt x15 x12 1 s fun _ s =>
ldA x7 (takeN 6) s fun x17 s =>
zSt x1 x17 6 s fun _ s =>
ldA x1 (takeN 6) s K)
def F54 : F2 := .fn H54 true
theorem fe54 : feE Tryz.prog ann 54 1 [] = some F54 := by kernel_rfl
def H53 : F2C := fun c k v s K =>
pop v fun x0 v =>
pop v fun x1 v =>
endE v (
c (.mk .d0 .d0 .d6 .d7) [x0] s fun x2 s =>
jn (fun v s =>
pop v fun x4 _ =>
K x4 s) fun K3 =>
loopE k (fun K5 v s =>
pop v fun x6 v =>
pop v fun x7 _ =>
bGt x6 (ci 0) fun x8 =>
gK x8 true x0 fun x9 =>
gV x8 true (vChk x9) fun x10 =>
gV x8 true (fa1 x10 1) fun x11 =>
gH x8 true (ldA x11 take1) s fun x12 s =>
gV x8 true (vGen (.un .not (.c x12))) fun x13 =>
vPick x8 x13 cf fun x14 =>
cnd x14 (jn (fun v s =>
pop v fun x16 _ =>
bSub x6 (ci 1) fun x17 =>
K5 [x17, x16] s) fun K15 =>
zCallV c x1 [] s fun x18 s =>
zBsl [.int .i64 0, .int .i64 0, .int .i64 0, .bool false, .nil .sl, .nil .sl] 6 1 (eCons 0 6 x18 eNil) s fun x19 s =>
appB 6 80 x7 x19 s fun x20 s =>
K15 [x20] s)
(K3 [x7] s)) [x2, (.nil .sl)] s)
def F53 : F2 := .fn H53 true
theorem fe53 : feE Tryz.prog ann 53 2 [.j [5], .j [6, 5], .j [], .j [5]] = some F53 := by kernel_rfl
def H55 : F2C := fun c _ v s K =>
pop v fun x0 v =>
endE v (
vChk x0 fun x1 =>
fa1 x1 0 fun x2 =>
ldA x2 take1 s fun x3 s =>
c (.mk .d0 .d1 .d5 .d7) [x3] s fun x4 s =>
vExt x4 0 fun x5 =>
vExt x4 1 fun x6 =>
vExt x4 2 fun x7 =>
vChk x0 fun x8 =>
fa1 x8 1 fun x9 =>
ldA x9 take1 s fun x10 s =>
gK x10 false x7 fun x11 =>
gV x10 false (bEqT x11 (ci 0)) fun x12 =>
vPick x10 ct x12 fun x13 =>
vChk x0 fun x14 =>
fa1 x14 1 fun x15 =>
zSt x15 x13 1 s fun _ s =>
vChk x0 fun x17 =>
fa1 x17 1 fun x18 =>
ldA x18 take1 s fun x19 s =>
cnd x19 (none)
(vChk x0 fun x20 =>
fa1 x20 0 fun x21 =>
ldA x21 take1 s fun x22 s =>
vSlt x22 (eX x6) eN 1 fun x23 =>
vChk x0 fun x24 =>
fa1 x24 0 fun x25 =>
zSt x25 x23 1 s fun _ s =>
K x5 s))
def F55 : F2 := .fn H55 true
theorem fe55 : feE Tryz.prog ann 55 1 [.cl] = some F55 := by kernel_rfl
def H56 : F2C := fun c k v s K =>
pop v fun x0 v =>
pop v fun x1 v =>
endE v (
c (.mk .d0 .d0 .d6 .d7) [x0] s fun x2 s =>
jn (fun v s =>
pop v fun x4 _ =>
K x4 s) fun K3 =>
loopE k (fun K5 v s =>
pop v fun x6 v =>
pop v fun x7 _ =>
bGt x6 (ci 0) fun x8 =>
gK x8 true x0 fun x9 =>
gV x8 true (vChk x9) fun x10 =>
gV x8 true (fa1 x10 1) fun x11 =>
gH x8 true (ldA x11 take1) s fun x12 s =>
gV x8 true (vGen (.un .not (.c x12))) fun x13 =>
vPick x8 x13 cf fun x14 =>
cnd x14 (jn (fun v s =>
pop v fun x16 _ =>
bSub x6 (ci 1) fun x17 =>
K5 [x17, x16] s) fun K15 =>
zCallV c x1 [] s fun x18 s =>
zBsl [.int .i64 0] 1 1 (eCons 0 1 x18 eNil) s fun x19 s =>
appB 1 8 x7 x19 s fun x20 s =>
K15 [x20] s)
(K3 [x7] s)) [x2, (.nil .sl)] s)
def F56 : F2 := .fn H56 true
theorem fe56 : feE Tryz.prog ann 56 2 [.j [5], .j [6, 5], .j [], .j [5]] = some F56 := by kernel_rfl
def H58 : F2C := fun c _ v s K =>
pop v fun x0 v =>
endE v (
c (.mk .d0 .d0 .d6 .d7) [x0] s fun x1 s =>
vCv .i32 x1 fun x2 =>
K x2 s)
def F58 : F2 := .fn H58 true
theorem fe58 : feE Tryz.prog ann 58 1 [] = some F58 := by kernel_rfl
def H57 : F2C := fun c k v s K =>
pop v fun x0 v =>
pop v fun x1 v =>
endE v (
c (.mk .d0 .d0 .d6 .d7) [x0] s fun x2 s =>
jn (fun v s =>
pop v fun x4 _ =>
K x4 s) fun K3 =>
loopE k (fun K5 v s =>
pop v fun x6 v =>
pop v fun x7 _ =>
bGt x6 (ci 0) fun x8 =>
gK x8 true x0 fun x9 =>
gV x8 true (vChk x9) fun x10 =>
gV x8 true (fa1 x10 1) fun x11 =>
gH x8 true (ldA x11 take1) s fun x12 s =>
gV x8 true (vGen (.un .not (.c x12))) fun x13 =>
vPick x8 x13 cf fun x14 =>
cnd x14 (jn (fun v s =>
pop v fun x16 _ =>
bSub x6 (ci 1) fun x17 =>
K5 [x17, x16] s) fun K15 =>
zCallV c x1 [] s fun x18 s =>
zBsl [.int .i32 0] 1 1 (eCons 0 1 x18 eNil) s fun x19 s =>
appB 1 4 x7 x19 s fun x20 s =>
K15 [x20] s)
(K3 [x7] s)) [x2, (.nil .sl)] s)
def F57 : F2 := .fn H57 true
theorem fe57 : feE Tryz.prog ann 57 2 [.j [5], .j [6, 5], .j [], .j [5]] = some F57 := by kernel_rfl
def H60 : F2C := fun c _ v s K =>
pop v fun x0 v =>
endE v (
c (.mk .d0 .d0 .d6 .d7) [x0] s fun x1 s =>
bEqT x1 (ci 0) fun x2 =>
K x2 s)
def F60 : F2 := .fn H60 true
theorem fe60 : feE Tryz.prog ann 60 1 [] = some F60 := by kernel_rfl
def H59 : F2C := fun c k v s K =>
pop v fun x0 v =>
pop v fun x1 v =>
endE v (
c (.mk .d0 .d0 .d6 .d7) [x0] s fun x2 s =>
jn (fun v s =>
pop v fun x4 _ =>
K x4 s) fun K3 =>
loopE k (fun K5 v s =>
pop v fun x6 v =>
pop v fun x7 _ =>
bGt x6 (ci 0) fun x8 =>
gK x8 true x0 fun x9 =>
gV x8 true (vChk x9) fun x10 =>
gV x8 true (fa1 x10 1) fun x11 =>
gH x8 true (ldA x11 take1) s fun x12 s =>
gV x8 true (vGen (.un .not (.c x12))) fun x13 =>
vPick x8 x13 cf fun x14 =>
cnd x14 (jn (fun v s =>
pop v fun x16 _ =>
bSub x6 (ci 1) fun x17 =>
K5 [x17, x16] s) fun K15 =>
zCallV c x1 [] s fun x18 s =>
zBsl [.bool false] 1 1 (eCons 0 1 x18 eNil) s fun x19 s =>
appB 1 1 x7 x19 s fun x20 s =>
K15 [x20] s)
(K3 [x7] s)) [x2, (.nil .sl)] s)
def F59 : F2 := .fn H59 true
theorem fe59 : feE Tryz.prog ann 59 2 [.j [5], .j [6, 5], .j [], .j [5]] = some F59 := by kernel_rfl
def H61 : F2C := fun _ _ v s K =>
pop v fun x0 v =>
pop v fun x1 v =>
endE v (
b2sA x0 s fun x2 s =>
b2sA x1 s fun x3 s =>
bEqF x2 x3 fun x4 =>
K x4 s)
def F61 : F2 := .fn H61 true
theorem fe61 : feE Tryz.prog ann 61 2 [] = some F61 := by kernel_rfl
def H92 : F2C := fun c _ v s K =>
endE v (
c (.mk .d0 .d2 .d2 .d2) [(ci 10)] s fun x0 s =>
c (.mk .d0 .d2 .d2 .d3) [x0, (ci 3), (ci 2)] s fun x1 s =>
vExt x1 0 fun x2 =>
vExt x1 1 fun x3 =>
c (.mk .d0 .d2 .d2 .d3) [x0, (ci 1), (ci 3)] s fun x4 s =>
vExt x4 0 fun x5 =>
vExt x4 1 fun x6 =>
c (.mk .d0 .d2 .d2 .d3) [x0, (ci 0), (ci 0)] s fun x7 s =>
vExt x7 0 fun _ =>
vExt x7 1 fun x9 =>
c (.mk .d0 .d2 .d2 .d4) [x0, x5, (ci 2), (cj 7)] s fun x10 s =>
c (.mk .d0 .d2 .d2 .d5) [x0] s fun x11 s =>
c (.mk .d0 .d2 .d0 .d4) [x11, (ci 20)] s fun x12 s =>
vExt x12 0 fun x13 =>
vExt x12 1 fun x14 =>
gK x3 true x2 fun x15 =>
gV x3 true (bEqF x15 (ci 0)) fun x16 =>
vPick x3 x16 cf fun x17 =>
gK x17 true x6 fun x18 =>
vPick x17 x18 cf fun x19 =>
gK x19 true x5 fun x20 =>
gV x19 true (bEqF x20 (ci 4)) fun x21 =>
vPick x19 x21 cf fun x22 =>
gK x22 true x9 fun x23 =>
gV x22 true (vGen (.un .not (.c x23))) fun x24 =>
vPick x22 x24 cf fun x25 =>
gK x25 true x10 fun x26 =>
vPick x25 x26 cf fun x27 =>
gK x27 true x0 fun x28 =>
gK x27 true x2 fun x29 =>
gH x27 true (c (.mk .d0 .d2 .d1 .d1) [x28, x29]) s fun x30 s =>
gV x27 true (bEqF x30 (ci 3)) fun x31 =>
vPick x27 x31 cf fun x32 =>
gK x32 true x0 fun x33 =>
gK x32 true x5 fun x34 =>
gH x32 true (c (.mk .d0 .d2 .d1 .d0) [x33, x34]) s fun x35 s =>
gV x32 true (bEqF x35 (ci 3)) fun x36 =>
vPick x32 x36 cf fun x37 =>
gK x37 true x0 fun x38 =>
gK x37 true x5 fun x39 =>
gH x37 true (c (.mk .d0 .d2 .d2 .d6) [x38, x39, (ci 2)]) s fun x40 s =>
gV x37 true (bEqF x40 (cj 7)) fun x41 =>
vPick x37 x41 cf fun x42 =>
gK x42 true x0 fun x43 =>
gH x42 true (c (.mk .d0 .d2 .d0 .d6) [x43, (ci 1)]) s fun x44 s =>
gV x42 true (vGen (.un .not (.c x44))) fun x45 =>
vPick x42 x45 cf fun x46 =>
gK x46 true x0 fun x47 =>
gH x46 true (c (.mk .d0 .d2 .d0 .d7) [x47]) s fun x48 s =>
gV x46 true (bEqF x48 (ci 9)) fun x49 =>
vPick x46 x49 cf fun x50 =>
gK x50 true x0 fun x51 =>
gH x50 true (c (.mk .d0 .d2 .d2 .d7) [x51]) s fun x52 s =>
gV x50 true (bEqF x52 (ci 10)) fun x53 =>
vPick x50 x53 cf fun x54 =>
gK x54 true x11 fun x55 =>
gV x54 true (vLenS x55) fun x56 =>
gV x54 true (bEqF x56 (ci 9)) fun x57 =>
vPick x54 x57 cf fun x58 =>
gK x58 true x14 fun x59 =>
vPick x58 x59 cf fun x60 =>
gK x60 true x13 fun x61 =>
gH x60 true (c (.mk .d0 .d2 .d2 .d6) [x61, (ci 4), (ci 2)]) s fun x62 s =>
gV x60 true (bEqF x62 (cj 7)) fun x63 =>
vPick x60 x63 cf fun x64 =>
gK x64 true x13 fun x65 =>
gH x64 true (c (.mk .d0 .d2 .d2 .d7) [x65]) s fun x66 s =>
gV x64 true (bEqF x66 (ci 20)) fun x67 =>
vPick x64 x67 cf fun x68 =>
K x68 s)
def F92 : F2 := .pur H92 true mNo
theorem fe92 : feE Tryz.prog ann 92 0 [] = some F92 := by kernel_rfl
def M92 (k : Nat) : F2 := .pur H92 true (Bool.rec mNo (mVal (.bool true)) (Nat.ble 1 k))
def H93 : F2C := fun c _ v s K =>
endE v (
vBld [.int .i64 0, .int .i64 0, .str [], .str []] (eCons 0 1 (ci 43) (eCons 2 1 (.str [65, 98]) (eCons 3 1 (.str [102]) eNil))) fun x0 =>
boxD false [.int .i64 0, .int .i64 0, .str [], .str []] s fun x1 s =>
zSt x1 x0 4 s fun _ s =>
ldA x1 (takeN 4) s fun x3 s =>
c (.mk .d0 .d2 .d3 .d0) [(.nil .sl), x3] s fun x4 s =>
appB 1 1 (.nil .sl) x4 s fun x5 s =>
zBsl [.int .u8 0] 1 1 (eCons 0 1 (cu 1) eNil) s fun x6 s =>
zTree (appB 1 1 x5 x6) s fun x7 s =>
c (.mk .d0 .d2 .d3 .d1) [x7] s fun x8 s =>
vExt x8 0 fun x9 =>
vExt x8 1 fun x10 =>
vExt x8 2 fun x11 =>
boxD false [.int .i64 0, .int .i64 0, .str [], .str []] s fun x12 s =>
zSt x12 x9 4 s fun _ s =>
c (.mk .d0 .d2 .d3 .d1) [(.nil .sl)] s fun x14 s =>
vExt x14 0 fun x15 =>
vExt x14 1 fun _ =>
vExt x14 2 fun x17 =>
boxD false [.int .i64 0, .int .i64 0, .str [], .str []] s fun x18 s =>
zSt x18 x15 4 s fun _ s =>
zBsl [.int .u8 0] 1 1 (eCons 0 1 (cu 0) eNil) s fun x20 s =>
c (.mk .d0 .d2 .d3 .d1) [x20] s fun x21 s =>
vExt x21 0 fun x22 =>
vExt x21 1 fun _ =>
vExt x21 2 fun x24 =>
boxD false [.int .i64 0, .int .i64 0, .str [], .str []] s fun x25 s =>
zSt x25 x22 4 s fun _ s =>
c (.mk .d0 .d2 .d3 .d2) [] s fun x27 s =>
gH x27 true (ldA x1 (takeN 4)) s fun x28 s =>
gH x27 true (c (.mk .d0 .d2 .d3 .d3) [x28]) s fun x29 s =>
vPick x27 x29 cf fun x30 =>
gV x30 true (vBld [.int .i64 0, .int .i64 0, .str [], .str []] (eCons 0 1 (ci 43) eNil)) fun x31 =>
gH x30 true (c (.mk .d0 .d2 .d3 .d3) [x31]) s fun x32 s =>
gV x30 true (vGen (.un .not (.c x32))) fun x33 =>
vPick x30 x33 cf fun x34 =>
gH x34 true (c (.mk .d0 .d2 .d3 .d4) [(ci 20)]) s fun x35 s =>
vPick x34 x35 cf fun x36 =>
gH x36 true (c (.mk .d0 .d2 .d3 .d4) [(ci 37)]) s fun x37 s =>
gV x36 true (vGen (.un .not (.c x37))) fun x38 =>
vPick x36 x38 cf fun x39 =>
gH x39 true (c (.mk .d0 .d1 .d7 .d6) [(ci 46)]) s fun x40 s =>
vPick x39 x40 cf fun x41 =>
gH x41 true (c (.mk .d0 .d1 .d7 .d6) [(ci 8)]) s fun x42 s =>
gV x41 true (vGen (.un .not (.c x42))) fun x43 =>
vPick x41 x43 cf fun x44 =>
gK x44 true x4 fun x45 =>
gV x44 true (vLenS x45) fun x46 =>
gV x44 true (bGt x46 (ci 4)) fun x47 =>
vPick x44 x47 cf fun x48 =>
gK x48 true x11 fun x49 =>
gV x48 true (bEqF x49 (ci 0)) fun x50 =>
vPick x48 x50 cf fun x51 =>
gK x51 true x10 fun x52 =>
gK x51 true x4 fun x53 =>
gV x51 true (vLenS x53) fun x54 =>
gV x51 true (bEqF x52 x54) fun x55 =>
vPick x51 x55 cf fun x56 =>
gH x56 true (ldA x1 (takeN 4)) s fun x57 s =>
gH x56 true (ldA x12 (takeN 4)) s fun x58 s =>
gH x56 true (c (.mk .d0 .d2 .d3 .d5) [x57, x58]) s fun x59 s =>
vPick x56 x59 cf fun x60 =>
gK x60 true x17 fun x61 =>
gV x60 true (bEqF x61 (ci 2)) fun x62 =>
vPick x60 x62 cf fun x63 =>
gK x63 true x24 fun x64 =>
gV x63 true (bEqF x64 (ci 1)) fun x65 =>
vPick x63 x65 cf fun x66 =>
K x66 s)
def F93 : F2 := .pur H93 true mNo
theorem fe93 : feE Tryz.prog ann 93 0 [] = some F93 := by kernel_rfl
def M93 (k : Nat) : F2 := .pur H93 true (Bool.rec mNo (mVal (.bool true)) (Nat.ble 5 k))
def H62 : F2C := fun _ k v s K =>
pop v fun x0 v =>
pop v fun x1 v =>
endE v (
vLenS x0 fun x2 =>
vLenS x1 fun x3 =>
bEqT x2 x3 fun x4 =>
cnd x4 (none)
(jn (fun _ s =>
K ct s) fun K5 =>
loopE k (fun K6 v s =>
pop v fun x7 _ =>
vLenS x0 fun x8 =>
bLt x7 x8 fun x9 =>
cnd x9 (jn (fun _ s =>
bAdd x7 (ci 1) fun x11 =>
K6 [x11] s) fun K10 =>
lgE qNoE (zK x0) s fun x12 e13 s =>
lgE qNoE (zK x7) s fun x14 e15 s =>
lgE qNoE (zV (vIaS x12 x14 1)) s fun x16 e17 s =>
lgE (qLdE x16 1) (ldA x16 take1) s fun x18 e19 s =>
lgE qNoE (zK x1) s fun x20 e21 s =>
lgE qNoE (zK x7) s fun x22 e23 s =>
lgE qNoE (zV (vIaS x20 x22 1)) s fun x24 e25 s =>
lgE (qLdE x24 1) (ldA x24 take1) s fun x26 e27 s =>
lgE qNoE (zV (bEqT x18 x26)) s fun x28 e29 s =>
calmE [(3, 7)] [e13, e15, e17, e19, e21, e23, e25, e27, e29] (fun s =>
cnd x28 (none)
(K10 [] s)) s)
(K5 [] s)) [(ci 0)] s))
def F62 : F2 := .fn H62 true
theorem fe62 : feE Tryz.prog ann 62 2 [.cl, .j [], .j [5], .j [], .j [], .cl] = some F62 := by kernel_rfl
def H63 : F2C := fun _ k v s K =>
pop v fun x0 v =>
pop v fun x1 v =>
endE v (
vLenS x0 fun x2 =>
vLenS x1 fun x3 =>
bEqT x2 x3 fun x4 =>
cnd x4 (none)
(jn (fun _ s =>
K ct s) fun K5 =>
loopE k (fun K6 v s =>
pop v fun x7 _ =>
vLenS x0 fun x8 =>
bLt x7 x8 fun x9 =>
cnd x9 (jn (fun _ s =>
bAdd x7 (ci 1) fun x11 =>
K6 [x11] s) fun K10 =>
lgE qNoE (zK x0) s fun x12 e13 s =>
lgE qNoE (zK x7) s fun x14 e15 s =>
lgE qNoE (zV (vIaS x12 x14 1)) s fun x16 e17 s =>
lgE (qLdE x16 1) (ldA x16 take1) s fun x18 e19 s =>
lgE qNoE (zK x1) s fun x20 e21 s =>
lgE qNoE (zK x7) s fun x22 e23 s =>
lgE qNoE (zV (vIaS x20 x22 1)) s fun x24 e25 s =>
lgE (qLdE x24 1) (ldA x24 take1) s fun x26 e27 s =>
lgE qNoE (zV (bEqT x18 x26)) s fun x28 e29 s =>
calmE [(3, 7)] [e13, e15, e17, e19, e21, e23, e25, e27, e29] (fun s =>
cnd x28 (none)
(K10 [] s)) s)
(K5 [] s)) [(ci 0)] s))
def F63 : F2 := .fn H63 true
theorem fe63 : feE Tryz.prog ann 63 2 [.cl, .j [], .j [5], .j [], .j [], .cl] = some F63 := by kernel_rfl
def H64 : F2C := fun _ k v s K =>
pop v fun x0 v =>
pop v fun x1 v =>
endE v (
vLenS x0 fun x2 =>
vLenS x1 fun x3 =>
bEqT x2 x3 fun x4 =>
cnd x4 (none)
(jn (fun _ s =>
K ct s) fun K5 =>
loopE k (fun K6 v s =>
pop v fun x7 _ =>
vLenS x0 fun x8 =>
bLt x7 x8 fun x9 =>
cnd x9 (jn (fun _ s =>
bAdd x7 (ci 1) fun x11 =>
K6 [x11] s) fun K10 =>
lgE qNoE (zK x0) s fun x12 e13 s =>
lgE qNoE (zK x7) s fun x14 e15 s =>
lgE qNoE (zV (vIaS x12 x14 1)) s fun x16 e17 s =>
lgE (qLdE x16 1) (ldA x16 take1) s fun x18 e19 s =>
lgE qNoE (zK x1) s fun x20 e21 s =>
lgE qNoE (zK x7) s fun x22 e23 s =>
lgE qNoE (zV (vIaS x20 x22 1)) s fun x24 e25 s =>
lgE (qLdE x24 1) (ldA x24 take1) s fun x26 e27 s =>
lgE qNoE (zV (vBeq true x18 x26)) s fun x28 e29 s =>
calmE [(3, 7)] [e13, e15, e17, e19, e21, e23, e25, e27, e29] (fun s =>
cnd x28 (none)
(K10 [] s)) s)
(K5 [] s)) [(ci 0)] s))
def F64 : F2 := .fn H64 true
theorem fe64 : feE Tryz.prog ann 64 2 [.cl, .j [], .j [5], .j [], .j [], .cl] = some F64 := by kernel_rfl
def H65 : F2C := fun c k v s K =>
pop v fun x0 v =>
pop v fun x1 v =>
endE v (
zTbox x0 s fun x2 s =>
zTbox x1 s fun x3 s =>
fa1 x2 0 fun x4 =>
ldA x4 take1 s fun x5 s =>
fa1 x3 0 fun x6 =>
ldA x6 take1 s fun x7 s =>
bEqT x5 x7 fun x8 =>
gV x8 false (fa1 x2 1) fun x9 =>
gH x8 false (ldA x9 take1) s fun x10 s =>
gV x8 false (fa1 x3 1) fun x11 =>
gH x8 false (ldA x11 take1) s fun x12 s =>
gV x8 false (bEqT x10 x12) fun x13 =>
vPick x8 ct x13 fun x14 =>
gV x14 false (fa1 x2 2) fun x15 =>
gH x14 false (ldA x15 take1) s fun x16 s =>
gV x14 false (fa1 x3 2) fun x17 =>
gH x14 false (ldA x17 take1) s fun x18 s =>
gV x14 false (bEqT x16 x18) fun x19 =>
vPick x14 ct x19 fun x20 =>
gV x20 false (fa1 x2 3) fun x21 =>
gH x20 false (ldA x21 take1) s fun x22 s =>
gV x20 false (fa1 x3 3) fun x23 =>
gH x20 false (ldA x23 take1) s fun x24 s =>
gH x20 false (c (.mk .d0 .d1 .d0 .d0) [x22, x24]) s fun x25 s =>
gV x20 false (vGen (.un .not (.c x25))) fun x26 =>
vPick x20 ct x26 fun x27 =>
gV x27 false (fa1 x2 4) fun x28 =>
gH x27 false (ldA x28 take1) s fun x29 s =>
gV x27 false (fa1 x3 4) fun x30 =>
gH x27 false (ldA x30 take1) s fun x31 s =>
gH x27 false (c (.mk .d0 .d0 .d7 .d6) [x29, x31]) s fun x32 s =>
gV x27 false (vGen (.un .not (.c x32))) fun x33 =>
vPick x27 ct x33 fun x34 =>
gV x34 false (fa1 x2 5) fun x35 =>
gH x34 false (ldA x35 take1) s fun x36 s =>
gV x34 false (fa1 x3 5) fun x37 =>
gH x34 false (ldA x37 take1) s fun x38 s =>
gH x34 false (c (.mk .d0 .d0 .d7 .d6) [x36, x38]) s fun x39 s =>
gV x34 false (vGen (.un .not (.c x39))) fun x40 =>
vPick x34 ct x40 fun x41 =>
gV x41 false (fa1 x2 6) fun x42 =>
gH x41 false (ldA x42 take1) s fun x43 s =>
gV x41 false (vLenS x43) fun x44 =>
gV x41 false (fa1 x3 6) fun x45 =>
gH x41 false (ldA x45 take1) s fun x46 s =>
gV x41 false (vLenS x46) fun x47 =>
gV x41 false (bEqT x44 x47) fun x48 =>
vPick x41 ct x48 fun x49 =>
gV x49 false (fa1 x2 7) fun x50 =>
gH x49 false (ldA x50 take1) s fun x51 s =>
gV x49 false (fa1 x3 7) fun x52 =>
gH x49 false (ldA x52 take1) s fun x53 s =>
gV x49 false (bEqT x51 x53) fun x54 =>
vPick x49 ct x54 fun x55 =>
gV x55 false (fa1 x2 8) fun x56 =>
gH x55 false (ldA x56 take1) s fun x57 s =>
gV x55 false (fa1 x3 8) fun x58 =>
gH x55 false (ldA x58 take1) s fun x59 s =>
gV x55 false (bEqT x57 x59) fun x60 =>
vPick x55 ct x60 fun x61 =>
gV x61 false (fa1 x2 9) fun x62 =>
gH x61 false (ldA x62 take1) s fun x63 s =>
gV x61 false (fa1 x3 9) fun x64 =>
gH x61 false (ldA x64 take1) s fun x65 s =>
gV x61 false (vBeq true x63 x65) fun x66 =>
vPick x61 ct x66 fun x67 =>
cnd x67 (none)
(jn (fun _ s =>
K ct s) fun K68 =>
loopE k (fun _ v s =>
pop v fun x70 _ =>
fa1 x2 6 fun x71 =>
ldA x71 take1 s fun x72 s =>
vLenS x72 fun x73 =>
bLt x70 x73 fun x74 =>
cnd x74 (none)
(K68 [] s)) [(ci 0)] s))
def F65 : F2 := .fn H65 true
theorem fe65 : feE Tryz.prog ann 65 2 [.cl, .j [], .j [5], .cl, .j [], .ch] = some F65 := by kernel_rfl
def H66 : F2C := fun _ k v s K =>
pop v fun x0 v =>
pop v fun x1 v =>
endE v (
zTbox x0 s fun x2 s =>
zTbox x1 s fun x3 s =>
fa1 x2 0 fun x4 =>
ldA x4 take1 s fun x5 s =>
fa1 x3 0 fun x6 =>
ldA x6 take1 s fun x7 s =>
bEqT x5 x7 fun x8 =>
gV x8 false (fa1 x2 1) fun x9 =>
gH x8 false (ldA x9 take1) s fun x10 s =>
gV x8 false (fa1 x3 1) fun x11 =>
gH x8 false (ldA x11 take1) s fun x12 s =>
gV x8 false (bEqT x10 x12) fun x13 =>
vPick x8 ct x13 fun x14 =>
gV x14 false (fa1 x2 2) fun x15 =>
gH x14 false (ldA x15 take1) s fun x16 s =>
gV x14 false (fa1 x3 2) fun x17 =>
gH x14 false (ldA x17 take1) s fun x18 s =>
gV x14 false (bEqT x16 x18) fun x19 =>
vPick x14 ct x19 fun x20 =>
gV x20 false (fa1 x2 3) fun x21 =>
gH x20 false (ldA x21 take1) s fun x22 s =>
gV x20 false (fa1 x3 3) fun x23 =>
gH x20 false (ldA x23 take1) s fun x24 s =>
gV x20 false (vBeq true x22 x24) fun x25 =>
vPick x20 ct x25 fun x26 =>
gV x26 false (fa1 x2 4) fun x27 =>
gH x26 false (ldA x27 take1) s fun x28 s =>
gV x26 false (vLenS x28) fun x29 =>
gV x26 false (fa1 x3 4) fun x30 =>
gH x26 false (ldA x30 take1) s fun x31 s =>
gV x26 false (vLenS x31) fun x32 =>
gV x26 false (bEqT x29 x32) fun x33 =>
vPick x26 ct x33 fun x34 =>
gV x34 false (fa1 x2 5) fun x35 =>
gH x34 false (ldA x35 take1) s fun x36 s =>
gV x34 false (vLenS x36) fun x37 =>
gV x34 false (fa1 x3 5) fun x38 =>
gH x34 false (ldA x38 take1) s fun x39 s =>
gV x34 false (vLenS x39) fun x40 =>
gV x34 false (bEqT x37 x40) fun x41 =>
vPick x34 ct x41 fun x42 =>
cnd x42 (none)
(jn (fun _ s =>
jn (fun _ s =>
K ct s) fun K44 =>
loopE k (fun _ v s =>
pop v fun x46 _ =>
fa1 x2 5 fun x47 =>
ldA x47 take1 s fun x48 s =>
vLenS x48 fun x49 =>
bLt x46 x49 fun x50 =>
cnd x50 (none)
(K44 [] s)) [(ci 0)] s) fun K43 =>
loopE k (fun K51 v s =>
pop v fun x52 _ =>
fa1 x2 4 fun x53 =>
ldA x53 take1 s fun x54 s =>
vLenS x54 fun x55 =>
bLt x52 x55 fun x56 =>
cnd x56 (jn (fun _ s =>
bAdd x52 (ci 1) fun x58 =>
K51 [x58] s) fun K57 =>
lgE qNoE (zV (fa1 x2 4)) s fun x59 e60 s =>
lgE (qLdE x59 1) (ldA x59 take1) s fun x61 e62 s =>
lgE qNoE (zK x52) s fun x63 e64 s =>
lgE qNoE (zV (vIaS x61 x63 4)) s fun x65 e66 s =>
lgE (qLdE x65 4) (ldA x65 (takeN 4)) s fun x67 e68 s =>
lgE qNoE (zV (fa1 x3 4)) s fun x69 e70 s =>
lgE (qLdE x69 1) (ldA x69 take1) s fun x71 e72 s =>
lgE qNoE (zK x52) s fun x73 e74 s =>
lgE qNoE (zV (vIaS x71 x73 4)) s fun x75 e76 s =>
lgE (qLdE x75 4) (ldA x75 (takeN 4)) s fun x77 e78 s =>
lgE qNoE (boxD false [.int .i64 0, .int .i64 0, .int .i64 0, .int .i64 0]) s fun x79 e80 s =>
lgE qNoE (boxD false [.int .i64 0, .int .i64 0, .int .i64 0, .int .i64 0]) s fun x81 e82 s =>
lgE qNoE (zSt x79 x67 4) s fun _ e84 s =>
lgE qNoE (zSt x81 x77 4) s fun _ e86 s =>
calmE [(1, 6), (4, 6), (1, 9), (4, 9), (1, 10), (4, 10), (6, 10), (9, 10), (1, 11), (4, 11), (6, 11), (9, 11), (10, 11), (6, 12), (9, 12)] [e60, e62, e64, e66, e68, e70, e72, e74, e76, e78, e80, e82, e84, e86] (fun s =>
fa1 x79 0 fun x87 =>
ldA x87 take1 s fun x88 s =>
fa1 x81 0 fun x89 =>
ldA x89 take1 s fun x90 s =>
bEqT x88 x90 fun x91 =>
gV x91 false (fa1 x79 1) fun x92 =>
gH x91 false (ldA x92 take1) s fun x93 s =>
gV x91 false (fa1 x81 1) fun x94 =>
gH x91 false (ldA x94 take1) s fun x95 s =>
gV x91 false (bEqT x93 x95) fun x96 =>
vPick x91 ct x96 fun x97 =>
gV x97 false (fa1 x79 2) fun x98 =>
gH x97 false (ldA x98 take1) s fun x99 s =>
gV x97 false (fa1 x81 2) fun x100 =>
gH x97 false (ldA x100 take1) s fun x101 s =>
gV x97 false (bEqT x99 x101) fun x102 =>
vPick x97 ct x102 fun x103 =>
gV x103 false (fa1 x79 3) fun x104 =>
gH x103 false (ldA x104 take1) s fun x105 s =>
gV x103 false (fa1 x81 3) fun x106 =>
gH x103 false (ldA x106 take1) s fun x107 s =>
gV x103 false (bEqT x105 x107) fun x108 =>
vPick x103 ct x108 fun x109 =>
cnd x109 (none)
(K57 [] s)) s)
(K43 [] s)) [(ci 0)] s))
def F66 : F2 := .fn H66 true
theorem fe66 : feE Tryz.prog ann 66 2 [.cl, .j [], .j [5], .j [], .j [], .cl, .j [], .j [8], .cl, .j [], .ch] = some F66 := by kernel_rfl
def H67 : F2C := fun c k v s K =>
pop v fun x0 v =>
pop v fun x1 v =>
pop v fun x2 v =>
endE v (
vLenS x0 fun x3 =>
vLenS x1 fun x4 =>
bEqT x3 x4 fun x5 =>
cnd x5 (none)
(vLenS x0 fun x6 =>
jn (fun _ s =>
K ct s) fun K7 =>
loopE k (fun K8 v s =>
pop v fun x9 _ =>
bLt x9 x6 fun x10 =>
cnd x10 (jn (fun _ s =>
bAdd x9 (ci 1) fun x12 =>
K8 [x12] s) fun K11 =>
vIaS x0 x9 10 fun x13 =>
ldA x13 (takeN 10) s fun x14 s =>
boxD false [.str [], .int .i64 0, .int .i64 0, .nil .sl, .nil .sl, .nil .sl, .nil .sl, .int .i64 0, .int .i64 0, .bool false] s fun x15 s =>
zSt x15 x14 10 s fun _ s =>
vIaS x1 x9 10 fun x17 =>
ldA x17 (takeN 10) s fun x18 s =>
boxD false [.str [], .int .i64 0, .int .i64 0, .nil .sl, .nil .sl, .nil .sl, .nil .sl, .int .i64 0, .int .i64 0, .bool false] s fun x19 s =>
zSt x19 x18 10 s fun _ s =>
ldA x15 (takeN 10) s fun x21 s =>
ldA x19 (takeN 10) s fun x22 s =>
zCallV c x2 [x21, x22] s fun x23 s =>
vGen (.un .not (.c x23)) fun x24 =>
cnd x24 (none)
(K11 [] s))
(K7 [] s)) [(ci 0)] s))
def F67 : F2 := .fn H67 true
theorem fe67 : feE Tryz.prog ann 67 3 [.cl, .j [], .j [17], .j [], .j [], .cl] = some F67 := by kernel_rfl
def H68 : F2C := fun c _ v s K =>
pop v fun x0 v =>
pop v fun x1 v =>
endE v (
zTbox x0 s fun x2 s =>
zTbox x1 s fun x3 s =>
fa1 x2 0 fun x4 =>
ldA x4 take1 s fun x5 s =>
fa1 x3 0 fun x6 =>
ldA x6 take1 s fun x7 s =>
bEqF x5 x7 fun x8 =>
gV x8 true (fa1 x2 1) fun x9 =>
gH x8 true (ldA x9 take1) s fun x10 s =>
gV x8 true (fa1 x3 1) fun x11 =>
gH x8 true (ldA x11 take1) s fun x12 s =>
gV x8 true (bEqF x10 x12) fun x13 =>
vPick x8 x13 cf fun x14 =>
gV x14 true (fa1 x2 2) fun x15 =>
gH x14 true (ldA x15 take1) s fun x16 s =>
gV x14 true (fa1 x3 2) fun x17 =>
gH x14 true (ldA x17 take1) s fun x18 s =>
gV x14 true (bEqF x16 x18) fun x19 =>
vPick x14 x19 cf fun x20 =>
gV x20 true (fa1 x2 7) fun x21 =>
gH x20 true (ldA x21 take1) s fun x22 s =>
gV x20 true (fa1 x3 7) fun x23 =>
gH x20 true (ldA x23 take1) s fun x24 s =>
gV x20 true (bEqF x22 x24) fun x25 =>
vPick x20 x25 cf fun x26 =>
gV x26 true (fa1 x2 8) fun x27 =>
gH x26 true (ldA x27 take1) s fun x28 s =>
gV x26 true (fa1 x3 8) fun x29 =>
gH x26 true (ldA x29 take1) s fun x30 s =>
gV x26 true (bEqF x28 x30) fun x31 =>
vPick x26 x31 cf fun x32 =>
gV x32 true (fa1 x2 9) fun x33 =>
gH x32 true (ldA x33 take1) s fun x34 s =>
gV x32 true (fa1 x3 9) fun x35 =>
gH x32 true (ldA x35 take1) s fun x36 s =>
gV x32 true (vBeq false x34 x36) fun x37 =>
vPick x32 x37 cf fun x38 =>
gV x38 true (fa1 x2 3) fun x39 =>
gH x38 true (ldA x39 take1) s fun x40 s =>
gV x38 true (fa1 x3 3) fun x41 =>
gH x38 true (ldA x41 take1) s fun x42 s =>
gH x38 true (c (.mk .d0 .d1 .d1 .d1) [x40, x42]) s fun x43 s =>
vPick x38 x43 cf fun x44 =>
gV x44 true (fa1 x2 4) fun x45 =>
gH x44 true (ldA x45 take1) s fun x46 s =>
gV x44 true (fa1 x3 4) fun x47 =>
gH x44 true (ldA x47 take1) s fun x48 s =>
gH x44 true (c (.mk .d0 .d1 .d1 .d0) [x46, x48]) s fun x49 s =>
vPick x44 x49 cf fun x50 =>
gV x50 true (fa1 x2 5) fun x51 =>
gH x50 true (ldA x51 take1) s fun x52 s =>
gV x50 true (fa1 x3 5) fun x53 =>
gH x50 true (ldA x53 take1) s fun x54 s =>
gH x50 true (c (.mk .d0 .d1 .d1 .d0) [x52, x54]) s fun x55 s =>
vPick x50 x55 cf fun x56 =>
gV x56 true (fa1 x2 6) fun x57 =>
gH x56 true (ldA x57 take1) s fun x58 s =>
gV x56 true (fa1 x3 6) fun x59 =>
gH x56 true (ldA x59 take1) s fun x60 s =>
gH x56 true (c (.mk .d0 .d1 .d6 .d0) [x58, x60]) s fun x61 s =>
vPick x56 x61 cf fun x62 =>
K x62 s)
def F68 : F2 := .fn H68 true
theorem fe68 : feE Tryz.prog ann 68 2 [] = some F68 := by kernel_rfl
def H69 : F2C := fun c k v s K =>
pop v fun x0 v =>
pop v fun x1 v =>
pop v fun x2 v =>
endE v (
vLenS x0 fun x3 =>
vLenS x1 fun x4 =>
bEqT x3 x4 fun x5 =>
cnd x5 (none)
(vLenS x0 fun x6 =>
jn (fun _ s =>
K ct s) fun K7 =>
loopE k (fun K8 v s =>
pop v fun x9 _ =>
bLt x9 x6 fun x10 =>
cnd x10 (jn (fun _ s =>
bAdd x9 (ci 1) fun x12 =>
K8 [x12] s) fun K11 =>
vIaS x0 x9 6 fun x13 =>
ldA x13 (takeN 6) s fun x14 s =>
boxD false [.int .i64 0, .int .i64 0, .int .i64 0, .bool false, .nil .sl, .nil .sl] s fun x15 s =>
zSt x15 x14 6 s fun _ s =>
vIaS x1 x9 6 fun x17 =>
ldA x17 (takeN 6) s fun x18 s =>
boxD false [.int .i64 0, .int .i64 0, .int .i64 0, .bool false, .nil .sl, .nil .sl] s fun x19 s =>
zSt x19 x18 6 s fun _ s =>
ldA x15 (takeN 6) s fun x21 s =>
ldA x19 (takeN 6) s fun x22 s =>
zCallV c x2 [x21, x22] s fun x23 s =>
vGen (.un .not (.c x23)) fun x24 =>
cnd x24 (none)
(K11 [] s))
(K7 [] s)) [(ci 0)] s))
def F69 : F2 := .fn H69 true
theorem fe69 : feE Tryz.prog ann 69 3 [.cl, .j [], .j [17], .j [], .j [], .cl] = some F69 := by kernel_rfl
def H70 : F2C := fun c _ v s K =>
pop v fun x0 v =>
pop v fun x1 v =>
endE v (
zTbox x0 s fun x2 s =>
zTbox x1 s fun x3 s =>
fa1 x2 0 fun x4 =>
ldA x4 take1 s fun x5 s =>
fa1 x3 0 fun x6 =>
ldA x6 take1 s fun x7 s =>
bEqF x5 x7 fun x8 =>
gV x8 true (fa1 x2 1) fun x9 =>
gH x8 true (ldA x9 take1) s fun x10 s =>
gV x8 true (fa1 x3 1) fun x11 =>
gH x8 true (ldA x11 take1) s fun x12 s =>
gV x8 true (bEqF x10 x12) fun x13 =>
vPick x8 x13 cf fun x14 =>
gV x14 true (fa1 x2 2) fun x15 =>
gH x14 true (ldA x15 take1) s fun x16 s =>
gV x14 true (fa1 x3 2) fun x17 =>
gH x14 true (ldA x17 take1) s fun x18 s =>
gV x14 true (bEqF x16 x18) fun x19 =>
vPick x14 x19 cf fun x20 =>
gV x20 true (fa1 x2 3) fun x21 =>
gH x20 true (ldA x21 take1) s fun x22 s =>
gV x20 true (fa1 x3 3) fun x23 =>
gH x20 true (ldA x23 take1) s fun x24 s =>
gV x20 true (vBeq false x22 x24) fun x25 =>
vPick x20 x25 cf fun x26 =>
gV x26 true (fa1 x2 4) fun x27 =>
gH x26 true (ldA x27 take1) s fun x28 s =>
gV x26 true (fa1 x3 4) fun x29 =>
gH x26 true (ldA x29 take1) s fun x30 s =>
gH x26 true (c (.mk .d0 .d1 .d6 .d1) [x28, x30]) s fun x31 s =>
vPick x26 x31 cf fun x32 =>
gV x32 true (fa1 x2 5) fun x33 =>
gH x32 true (ldA x33 take1) s fun x34 s =>
gV x32 true (fa1 x3 5) fun x35 =>
gH x32 true (ldA x35 take1) s fun x36 s =>
gH x32 true (c (.mk .d0 .d1 .d6 .d2) [x34, x36]) s fun x37 s =>
vPick x32 x37 cf fun x38 =>
K x38 s)
def F70 : F2 := .fn H70 true
theorem fe70 : feE Tryz.prog ann 70 2 [] = some F70 := by kernel_rfl
def H71 : F2C := fun _ k v s K =>
pop v fun x0 v =>
pop v fun x1 v =>
endE v (
vLenS x0 fun x2 =>
vLenS x1 fun x3 =>
bEqT x2 x3 fun x4 =>
cnd x4 (none)
(vLenS x0 fun x5 =>
jn (fun _ s =>
K ct s) fun K6 =>
loopE k (fun K7 v s =>
pop v fun x8 _ =>
bLt x8 x5 fun x9 =>
cnd x9 (jn (fun _ s =>
bAdd x8 (ci 1) fun x11 =>
K7 [x11] s) fun K10 =>
lgE qNoE (zK x0) s fun x12 e13 s =>
lgE qNoE (zK x8) s fun x14 e15 s =>
lgE qNoE (zV (vIaS x12 x14 1)) s fun x16 e17 s =>
lgE (qLdE x16 1) (ldA x16 take1) s fun x18 e19 s =>
lgE qNoE (zK x1) s fun x20 e21 s =>
lgE qNoE (zK x8) s fun x22 e23 s =>
lgE qNoE (zV (vIaS x20 x22 1)) s fun x24 e25 s =>
lgE (qLdE x24 1) (ldA x24 take1) s fun x26 e27 s =>
lgE qNoE (zV (bEqT x18 x26)) s fun x28 e29 s =>
calmE [(3, 7)] [e13, e15, e17, e19, e21, e23, e25, e27, e29] (fun s =>
cnd x28 (none)
(K10 [] s)) s)
(K6 [] s)) [(ci 0)] s))
def F71 : F2 := .fn H71 true
theorem fe71 : feE Tryz.prog ann 71 2 [.cl, .j [], .j [13], .j [], .j [], .cl] = some F71 := by kernel_rfl
def H72 : F2C := fun _ k v s K =>
pop v fun x0 v =>
pop v fun x1 v =>
endE v (
vLenS x0 fun x2 =>
vLenS x1 fun x3 =>
bEqT x2 x3 fun x4 =>
cnd x4 (none)
(vLenS x0 fun x5 =>
jn (fun _ s =>
K ct s) fun K6 =>
loopE k (fun K7 v s =>
pop v fun x8 _ =>
bLt x8 x5 fun x9 =>
cnd x9 (jn (fun _ s =>
bAdd x8 (ci 1) fun x11 =>
K7 [x11] s) fun K10 =>
lgE qNoE (zK x0) s fun x12 e13 s =>
lgE qNoE (zK x8) s fun x14 e15 s =>
lgE qNoE (zV (vIaS x12 x14 1)) s fun x16 e17 s =>
lgE (qLdE x16 1) (ldA x16 take1) s fun x18 e19 s =>
lgE qNoE (zK x1) s fun x20 e21 s =>
lgE qNoE (zK x8) s fun x22 e23 s =>
lgE qNoE (zV (vIaS x20 x22 1)) s fun x24 e25 s =>
lgE (qLdE x24 1) (ldA x24 take1) s fun x26 e27 s =>
lgE qNoE (zV (bEqT x18 x26)) s fun x28 e29 s =>
calmE [(3, 7)] [e13, e15, e17, e19, e21, e23, e25, e27, e29] (fun s =>
cnd x28 (none)
(K10 [] s)) s)
(K6 [] s)) [(ci 0)] s))
def F72 : F2 := .fn H72 true
theorem fe72 : feE Tryz.prog ann 72 2 [.cl, .j [], .j [13], .j [], .j [], .cl] = some F72 := by kernel_rfl
def H73 : F2C := fun _ k v s K =>
pop v fun x0 v =>
pop v fun x1 v =>
endE v (
vLenS x0 fun x2 =>
vLenS x1 fun x3 =>
bEqT x2 x3 fun x4 =>
cnd x4 (none)
(vLenS x0 fun x5 =>
jn (fun _ s =>
K ct s) fun K6 =>
loopE k (fun K7 v s =>
pop v fun x8 _ =>
bLt x8 x5 fun x9 =>
cnd x9 (jn (fun _ s =>
bAdd x8 (ci 1) fun x11 =>
K7 [x11] s) fun K10 =>
lgE qNoE (zK x0) s fun x12 e13 s =>
lgE qNoE (zK x8) s fun x14 e15 s =>
lgE qNoE (zV (vIaS x12 x14 1)) s fun x16 e17 s =>
lgE (qLdE x16 1) (ldA x16 take1) s fun x18 e19 s =>
lgE qNoE (zK x1) s fun x20 e21 s =>
lgE qNoE (zK x8) s fun x22 e23 s =>
lgE qNoE (zV (vIaS x20 x22 1)) s fun x24 e25 s =>
lgE (qLdE x24 1) (ldA x24 take1) s fun x26 e27 s =>
lgE qNoE (zV (vBeq true x18 x26)) s fun x28 e29 s =>
calmE [(3, 7)] [e13, e15, e17, e19, e21, e23, e25, e27, e29] (fun s =>
cnd x28 (none)
(K10 [] s)) s)
(K6 [] s)) [(ci 0)] s))
def F73 : F2 := .fn H73 true
theorem fe73 : feE Tryz.prog ann 73 2 [.cl, .j [], .j [13], .j [], .j [], .cl] = some F73 := by kernel_rfl
def H94 : F2C := fun c k v s K =>
pop v fun x0 v =>
pop v fun x1 v =>
endE v (
vLenS x0 fun x2 =>
jn (fun _ s =>
K (.int .i64 (-1)) s) fun K3 =>
loopE k (fun K4 v s =>
pop v fun x5 _ =>
bLt x5 x2 fun x6 =>
cnd x6 (jn (fun _ s =>
bAdd x5 (ci 1) fun x8 =>
K4 [x8] s) fun K7 =>
vIaS x0 x5 10 fun x9 =>
ldA x9 (takeN 10) s fun x10 s =>
zCallV c x1 [x10] s fun x11 s =>
cnd x11 (none)
(K7 [] s))
(K3 [] s)) [(ci 0)] s)
def F94 : F2 := .fn H94 true
theorem fe94 : feE Tryz.prog ann 94 2 [.j [], .j [8], .j [], .j [], .cl] = some F94 := by kernel_rfl
def H95 : F2C := fun c _ v s K =>
pop v fun x0 v =>
pop v fun x1 v =>
endE v (
vLens x1 fun x2 =>
c (.mk .d0 .d1 .d4 .d6) [x0, x2] s fun x3 s =>
zAps 1 1 x3 x1 s fun x4 s =>
K x4 s)
def F95 : F2 := .fn H95 true
theorem fe95 : feE Tryz.prog ann 95 2 [] = some F95 := by kernel_rfl
def H96 : F2C := fun c k v s K =>
pop v fun x0 v =>
pop v fun x1 v =>
pop v fun _ v =>
endE v (
vLenS x1 fun x3 =>
c (.mk .d0 .d0 .d5 .d2) [x0, x3] s fun _ s =>
vLenS x1 fun x5 =>
jn (fun _ s =>
K (.tup []) s) fun K6 =>
loopE k (fun _ v s =>
pop v fun x8 _ =>
bLt x8 x5 fun x9 =>
cnd x9 (none)
(K6 [] s)) [(ci 0)] s)
def F96 : F2 := .fn H96 true
theorem fe96 : feE Tryz.prog ann 96 3 [.j [], .j [14], .cl, .j []] = some F96 := by kernel_rfl
def H99 : F2C := fun c k v s K =>
pop v fun x0 v =>
pop v fun x1 v =>
endE v (
zTbox x1 s fun x2 s =>
fa1 x2 0 fun x3 =>
ldA x3 take1 s fun x4 s =>
fa1 x2 1 fun x5 =>
ldA x5 take1 s fun x6 s =>
fa1 x2 2 fun x7 =>
ldA x7 take1 s fun x8 s =>
fa1 x2 3 fun x9 =>
ldA x9 take1 s fun x10 s =>
vBld [.int .i64 0, .int .i64 0, .int .i64 0, .int .i64 0] (eCons 0 1 x4 (eCons 1 1 x6 (eCons 2 1 x8 (eCons 3 1 x10 eNil)))) fun x11 =>
jn (fun _ s =>
K (.tup []) s) fun K12 =>
loopE k (fun K13 v s =>
pop v fun x14 _ =>
bLt x14 (ci 4) fun x15 =>
cnd x15 (jn (fun _ s =>
bAdd x14 (ci 1) fun x17 =>
K13 [x17] s) fun K16 =>
vGen (.ixa (.c x11) (.c x14) 4 1 none) fun x18 =>
c (.mk .d0 .d0 .d5 .d2) [x0, x18] s fun _ s =>
K16 [] s)
(K12 [] s)) [(ci 0)] s)
def F99 : F2 := .fn H99 true
theorem fe99 : feE Tryz.prog ann 99 2 [.j [], .j [15], .j [], .j []] = some F99 := by kernel_rfl
def H98 : F2C := fun c k v s K =>
pop v fun x0 v =>
pop v fun x1 v =>
pop v fun x2 v =>
endE v (
vLenS x1 fun x3 =>
c (.mk .d0 .d0 .d5 .d2) [x0, x3] s fun _ s =>
vLenS x1 fun x5 =>
jn (fun _ s =>
K (.tup []) s) fun K6 =>
loopE k (fun K7 v s =>
pop v fun x8 _ =>
bLt x8 x5 fun x9 =>
cnd x9 (jn (fun _ s =>
bAdd x8 (ci 1) fun x11 =>
K7 [x11] s) fun K10 =>
vIaS x1 x8 4 fun x12 =>
ldA x12 (takeN 4) s fun x13 s =>
boxD false [.int .i64 0, .int .i64 0, .int .i64 0, .int .i64 0] s fun x14 s =>
zSt x14 x13 4 s fun _ s =>
ldA x14 (takeN 4) s fun x16 s =>
zCallV c x2 [x16] s fun _ s =>
K10 [] s)
(K6 [] s)) [(ci 0)] s)
def F98 : F2 := .fn H98 true
theorem fe98 : feE Tryz.prog ann 98 3 [.j [], .j [14], .j [], .j []] = some F98 := by kernel_rfl
def H100 : F2C := fun c k v s K =>
pop v fun x0 v =>
pop v fun x1 v =>
pop v fun _ v =>
endE v (
vLenS x1 fun x3 =>
c (.mk .d0 .d0 .d5 .d2) [x0, x3] s fun _ s =>
vLenS x1 fun x5 =>
jn (fun _ s =>
K (.tup []) s) fun K6 =>
loopE k (fun _ v s =>
pop v fun x8 _ =>
bLt x8 x5 fun x9 =>
cnd x9 (none)
(K6 [] s)) [(ci 0)] s)
def F100 : F2 := .fn H100 true
theorem fe100 : feE Tryz.prog ann 100 3 [.j [], .j [14], .cl, .j []] = some F100 := by kernel_rfl
def H102 : F2C := fun _ k v s K =>
pop v fun x0 v =>
pop v fun x1 v =>
endE v (
vCv .u64 x1 fun x2 =>
bShl x2 (.int .u64 1) fun x3 =>
bLt x1 (ci 0) fun x4 =>
jn (fun v s =>
pop v fun x6 _ =>
jn (fun v s =>
pop v fun x8 v =>
pop v fun x9 _ =>
vCv .u8 x8 fun x10 =>
zBsl [.int .u8 0] 1 1 (eCons 0 1 x10 eNil) s fun x11 s =>
appB 1 1 x9 x11 s fun x12 s =>
K x12 s) fun K7 =>
loopE k (fun _ v s =>
pop v fun x14 v =>
pop v fun x15 _ =>
bGt x14 (.int .u64 127) fun x16 =>
cnd x16 (none)
(K7 [x14, x15] s)) [x6, x0] s) fun K5 =>
cnd x4 (vGen (.un .xor (.c x3)) fun x17 =>
K5 [x17] s)
(K5 [x3] s))
def F102 : F2 := .fn H102 true
theorem fe102 : feE Tryz.prog ann 102 2 [.j [5], .j [5, 0], .j [5, 0], .cl, .j [5, 0]] = some F102 := by kernel_rfl
def H103 : F2C := fun _ k v s K =>
pop v fun x0 v =>
pop v fun x1 v =>
endE v (
vGen (.un .xor (.c x0)) fun x2 =>
vLenS x1 fun x3 =>
jn (fun v s =>
pop v fun x5 _ =>
vGen (.un .xor (.c x5)) fun x6 =>
K x6 s) fun K4 =>
loopE k (fun K7 v s =>
pop v fun x8 v =>
pop v fun x9 _ =>
bLt x8 x3 fun x10 =>
cnd x10 (jn (fun v s =>
pop v fun x12 _ =>
bAdd x8 (ci 1) fun x13 =>
K7 [x13, x12] s) fun K11 =>
vIaS x1 x8 1 fun x14 =>
ldA x14 take1 s fun x15 s =>
vCv .u32 x15 fun x16 =>
bXor x9 x16 fun x17 =>
jn (fun v s =>
pop v fun x19 _ =>
K11 [x19] s) fun K18 =>
loopE k (fun K20 v s =>
pop v fun x21 v =>
pop v fun x22 _ =>
bLt x21 (ci 8) fun x23 =>
cnd x23 (jn (fun v s =>
pop v fun x25 _ =>
bAdd x21 (ci 1) fun x26 =>
K20 [x26, x25] s) fun K24 =>
bShr x22 (.int .u64 1) fun x27 =>
bAnd x22 (.int .u32 1) fun x28 =>
vGen (.un .neg (.c x28)) fun x29 =>
bAnd (.int .u32 3988292384) x29 fun x30 =>
bXor x27 x30 fun x31 =>
K24 [x31] s)
(K18 [x22] s)) [(ci 0), x17] s)
(K4 [x9] s)) [(ci 0), x2] s)
def F103 : F2 := .fn H103 true
theorem fe103 : feE Tryz.prog ann 103 2 [.j [5], .j [12, 5], .j [], .j [5], .j [5], .j [20, 5], .j [], .j [5]] = some F103 := by kernel_rfl
def H104 : F2C := fun c _ v s K =>
pop v fun x0 v =>
endE v (
vChk x0 fun x1 =>
fa1 x1 0 fun x2 =>
ldA x2 take1 s fun x3 s =>
c (.mk .d0 .d2 .d3 .d6) [x3] s fun x4 s =>
vExt x4 0 fun x5 =>
vExt x4 1 fun x6 =>
vExt x4 2 fun x7 =>
vChk x0 fun x8 =>
fa1 x8 1 fun x9 =>
ldA x9 take1 s fun x10 s =>
gK x10 false x7 fun x11 =>
gV x10 false (bEqT x11 (ci 0)) fun x12 =>
vPick x10 ct x12 fun x13 =>
vChk x0 fun x14 =>
fa1 x14 1 fun x15 =>
zSt x15 x13 1 s fun _ s =>
vChk x0 fun x17 =>
fa1 x17 1 fun x18 =>
ldA x18 take1 s fun x19 s =>
cnd x19 (none)
(vChk x0 fun x20 =>
fa1 x20 0 fun x21 =>
ldA x21 take1 s fun x22 s =>
vSlt x22 (eX x6) eN 1 fun x23 =>
vChk x0 fun x24 =>
fa1 x24 0 fun x25 =>
zSt x25 x23 1 s fun _ s =>
K x5 s))
def F104 : F2 := .fn H104 true
theorem fe104 : feE Tryz.prog ann 104 1 [.cl] = some F104 := by kernel_rfl
def H105 : F2C := fun c k v s K =>
pop v fun x0 v =>
pop v fun _ v =>
endE v (
c (.mk .d0 .d0 .d6 .d7) [x0] s fun x2 s =>
jn (fun v s =>
pop v fun x4 _ =>
K x4 s) fun K3 =>
loopE k (fun _ v s =>
pop v fun x6 v =>
pop v fun x7 _ =>
bGt x6 (ci 0) fun x8 =>
gK x8 true x0 fun x9 =>
gV x8 true (vChk x9) fun x10 =>
gV x8 true (fa1 x10 1) fun x11 =>
gH x8 true (ldA x11 take1) s fun x12 s =>
gV x8 true (vGen (.un .not (.c x12))) fun x13 =>
vPick x8 x13 cf fun x14 =>
cnd x14 (none)
(K3 [x7] s)) [x2, (.nil .sl)] s)
def F105 : F2 := .fn H105 true
theorem fe105 : feE Tryz.prog ann 105 2 [.j [5], .j [6, 5], .cl, .j [5]] = some F105 := by kernel_rfl
def H108 : F2C := fun c _ v s K =>
pop v fun x0 v =>
endE v (
boxD false [.int .i64 0, .int .i64 0, .int .i64 0, .int .i64 0] s fun x1 s =>
c (.mk .d0 .d0 .d6 .d7) [x0] s fun x2 s =>
c (.mk .d0 .d0 .d6 .d7) [x0] s fun x3 s =>
c (.mk .d0 .d0 .d6 .d7) [x0] s fun x4 s =>
c (.mk .d0 .d0 .d6 .d7) [x0] s fun x5 s =>
vBld [.int .i64 0, .int .i64 0, .int .i64 0, .int .i64 0] (eCons 0 1 x2 (eCons 1 1 x3 (eCons 2 1 x4 (eCons 3 1 x5 eNil)))) fun x6 =>
zSt x1 x6 4 s fun _ s =>
ldA x1 (takeN 4) s K)
def F108 : F2 := .fn H108 true
theorem fe108 : feE Tryz.prog ann 108 1 [] = some F108 := by kernel_rfl
def H107 : F2C := fun c k v s K =>
pop v fun x0 v =>
pop v fun x1 v =>
endE v (
c (.mk .d0 .d0 .d6 .d7) [x0] s fun x2 s =>
jn (fun v s =>
pop v fun x4 _ =>
K x4 s) fun K3 =>
loopE k (fun K5 v s =>
pop v fun x6 v =>
pop v fun x7 _ =>
bGt x6 (ci 0) fun x8 =>
gK x8 true x0 fun x9 =>
gV x8 true (vChk x9) fun x10 =>
gV x8 true (fa1 x10 1) fun x11 =>
gH x8 true (ldA x11 take1) s fun x12 s =>
gV x8 true (vGen (.un .not (.c x12))) fun x13 =>
vPick x8 x13 cf fun x14 =>
cnd x14 (jn (fun v s =>
pop v fun x16 _ =>
bSub x6 (ci 1) fun x17 =>
K5 [x17, x16] s) fun K15 =>
zCallV c x1 [] s fun x18 s =>
zBsl [.int .i64 0, .int .i64 0, .int .i64 0, .int .i64 0] 4 1 (eCons 0 4 x18 eNil) s fun x19 s =>
appB 4 32 x7 x19 s fun x20 s =>
K15 [x20] s)
(K3 [x7] s)) [x2, (.nil .sl)] s)
def F107 : F2 := .fn H107 true
theorem fe107 : feE Tryz.prog ann 107 2 [.j [5], .j [6, 5], .j [], .j [5]] = some F107 := by kernel_rfl
def H109 : F2C := fun c k v s K =>
pop v fun x0 v =>
pop v fun _ v =>
endE v (
c (.mk .d0 .d0 .d6 .d7) [x0] s fun x2 s =>
jn (fun v s =>
pop v fun x4 _ =>
K x4 s) fun K3 =>
loopE k (fun _ v s =>
pop v fun x6 v =>
pop v fun x7 _ =>
bGt x6 (ci 0) fun x8 =>
gK x8 true x0 fun x9 =>
gV x8 true (vChk x9) fun x10 =>
gV x8 true (fa1 x10 1) fun x11 =>
gH x8 true (ldA x11 take1) s fun x12 s =>
gV x8 true (vGen (.un .not (.c x12))) fun x13 =>
vPick x8 x13 cf fun x14 =>
cnd x14 (none)
(K3 [x7] s)) [x2, (.nil .sl)] s)
def F109 : F2 := .fn H109 true
theorem fe109 : feE Tryz.prog ann 109 2 [.j [5], .j [6, 5], .cl, .j [5]] = some F109 := by kernel_rfl
def H111 : F2C := fun _ k v s K =>
pop v fun x0 v =>
endE v (
vLenS x0 fun x1 =>
jn (fun _ s =>
K (.tup [(ci 0), (ci 0), (ci 2)]) s) fun K2 =>
loopE k (fun K3 v s =>
pop v fun x4 v =>
pop v fun x5 _ =>
bLt x4 x1 fun x6 =>
cnd x6 (jn (fun v s =>
pop v fun x8 _ =>
bAdd x4 (ci 1) fun x9 =>
K3 [x9, x8] s) fun _ =>
vIaS x0 x4 1 fun x10 =>
ldA x10 take1 s fun x11 s =>
bEqF x4 (ci 9) fun x12 =>
gK x12 true x11 fun x13 =>
gV x12 true (bGt x13 (cu 1)) fun x14 =>
vPick x12 x14 cf fun x15 =>
cnd x15 (none)
(bAnd x11 (cu 127) fun x16 =>
vCv .u64 x16 fun x17 =>
bMul (ci 7) x4 fun x18 =>
bShl x17 x18 fun x19 =>
bOr x5 x19 fun x20 =>
bGt x11 (cu 127) fun x21 =>
cnd x21 (none)
(bGt x4 (ci 0) fun x22 =>
gK x22 true x11 fun x23 =>
gV x22 true (bEqF x23 (cu 0)) fun x24 =>
vPick x22 x24 cf fun x25 =>
cnd x25 (none)
(bShr x20 (.int .u64 1) fun x26 =>
vCv .i64 x26 fun x27 =>
bAnd x20 (.int .u64 1) fun x28 =>
bEqF x28 (.int .u64 1) fun x29 =>
jn (fun v s =>
pop v fun x31 _ =>
bAdd x4 (ci 1) fun x32 =>
K (.tup [x31, x32, (ci 0)]) s) fun K30 =>
cnd x29 (vGen (.un .xor (.c x27)) fun x33 =>
K30 [x33] s)
(K30 [x27] s)))))
(K2 [] s)) [(ci 0), (.int .u64 0)] s)
def F111 : F2 := .fn H111 true
theorem fe111 : feE Tryz.prog ann 111 1 [.j [], .j [11, 5], .j [], .j [5], .cl, .cl, .cl, .j [8]] = some F111 := by kernel_rfl
def H146 : F2C := fun _ _ v s K =>
pop v fun x0 v =>
endE v (
vGen (.mnx true [(.c x0), (.c (ci 0))]) fun x1 =>
vGen (.mnx false [(.c x1), (.c (ci 1048576))]) fun x2 =>
vBld [.int .i64 0, .nil .sl, .nil .sl] (eCons 0 1 x2 eNil) fun x3 =>
zBox true x3 s fun x4 s =>
K x4 s)
def F146 : F2 := .fn H146 true
theorem fe146 : feE Tryz.prog ann 146 1 [] = some F146 := by kernel_rfl
def H147 : F2C := fun c _ v s K =>
pop v fun x0 v =>
pop v fun x1 v =>
pop v fun x2 v =>
endE v (
lgE qNoE (zK x0) s fun x3 e4 s =>
lgE qNoE (zV (vNil false .ptr x3)) s fun x5 e6 s =>
lgE qNoE (zK x5) s fun x7 e8 s =>
lgE (qGE x7 false qNoE) (zG x7 false (zK x1)) s fun x9 e10 s =>
lgE (qGE x7 false qNoE) (zG x7 false (zK x2)) s fun x11 e12 s =>
lgE (qGE x7 false qNoE) (zG x7 false (c (.mk .d0 .d2 .d5 .d2) [x9, x11])) s fun x13 e14 s =>
lgE (qGE x7 false qNoE) (zG x7 false (zV (vGen (.un .not (.c x13))))) s fun x15 e16 s =>
lgE qNoE (zV (vPick x7 ct x15)) s fun x17 e18 s =>
lgE qNoE (zK x17) s fun x19 e20 s =>
lgE (qGE x19 false qNoE) (zG x19 false (zK x2)) s fun x21 e22 s =>
lgE (qGE x19 false qNoE) (zG x19 false (zV (bAdd x21 (ci 2)))) s fun x23 e24 s =>
lgE (qGE x19 false qNoE) (zG x19 false (zK x0)) s fun x25 e26 s =>
lgE (qGE x19 false qNoE) (zG x19 false (zV (vChk x25))) s fun x27 e28 s =>
lgE (qGE x19 false qNoE) (zG x19 false (zV (fa1 x27 0))) s fun x29 e30 s =>
lgE (qGE x19 false (qLdE x29 1)) (zG x19 false (ldA x29 take1)) s fun x31 e32 s =>
lgE (qGE x19 false qNoE) (zG x19 false (zK x0)) s fun x33 e34 s =>
lgE (qGE x19 false qNoE) (zG x19 false (zV (vChk x33))) s fun x35 e36 s =>
lgE (qGE x19 false qNoE) (zG x19 false (zV (fa1 x35 1))) s fun x37 e38 s =>
lgE (qGE x19 false (qLdE x37 1)) (zG x19 false (ldA x37 take1)) s fun x39 e40 s =>
lgE (qGE x19 false qNoE) (zG x19 false (zV (vLenS x39))) s fun x41 e42 s =>
lgE (qGE x19 false qNoE) (zG x19 false (zV (bSub x31 x41))) s fun x43 e44 s =>
lgE (qGE x19 false qNoE) (zG x19 false (zV (bGt x23 x43))) s fun x45 e46 s =>
lgE qNoE (zV (vPick x19 ct x45)) s fun x47 e48 s =>
calmE [(14, 18), (14, 19)] [e4, e6, e8, e10, e12, e14, e16, e18, e20, e22, e24, e26, e28, e30, e32, e34, e36, e38, e40, e42, e44, e46, e48] (fun s =>
cnd x47 (K (.tup [(.int .i64 (-1)), cf]) s)
(vChk x0 fun x49 =>
fa1 x49 1 fun x50 =>
ldA x50 take1 s fun x51 s =>
vLenS x51 fun x52 =>
vChk x0 fun x53 =>
fa1 x53 1 fun x54 =>
ldA x54 take1 s fun x55 s =>
vCv .i32 x1 fun x56 =>
vCv .i32 x2 fun x57 =>
zBsl [.int .i32 0, .int .i32 0] 1 2 (eCons 0 1 x56 (eCons 1 1 x57 eNil)) s fun x58 s =>
appB 1 4 x55 x58 s fun x59 s =>
zApz 1 4 [.int .i32 0] x59 x2 s fun x60 s =>
vChk x0 fun x61 =>
fa1 x61 1 fun x62 =>
zSt x62 x60 1 s fun _ s =>
vChk x0 fun x64 =>
fa1 x64 2 fun x65 =>
ldA x65 take1 s fun x66 s =>
zBsl [.bool false] 1 1 (eCons 0 1 ct eNil) s fun x67 s =>
appB 1 1 x66 x67 s fun x68 s =>
bAdd x2 (ci 1) fun x69 =>
zApz 1 1 [.bool false] x68 x69 s fun x70 s =>
vChk x0 fun x71 =>
fa1 x71 2 fun x72 =>
zSt x72 x70 1 s fun _ s =>
K (.tup [x52, ct]) s)) s)
def F147 : F2 := .fn H147 true
theorem fe147 : feE Tryz.prog ann 147 3 [.j []] = some F147 := by kernel_rfl
def H148 : F2C := fun c _ v s K =>
pop v fun x0 v =>
pop v fun x1 v =>
pop v fun x2 v =>
pop v fun x3 v =>
endE v (
bLt x2 (ci 0) fun x4 =>
gK x4 false x2 fun x5 =>
gK x4 false x0 fun x6 =>
gK x4 false x1 fun x7 =>
gH x4 false (c (.mk .d0 .d2 .d1 .d0) [x6, x7]) s fun x8 s =>
gV x4 false (bGe x5 x8) fun x9 =>
vPick x4 ct x9 fun x10 =>
cnd x10 (none)
(vChk x0 fun x11 =>
fa1 x11 1 fun x12 =>
ldA x12 take1 s fun x13 s =>
bAdd x1 (ci 2) fun x14 =>
bAdd x14 x2 fun x15 =>
vIaS x13 x15 1 fun x16 =>
zSt x16 x3 1 s fun _ s =>
K ct s))
def F148 : F2 := .fn H148 true
theorem fe148 : feE Tryz.prog ann 148 4 [.cl] = some F148 := by kernel_rfl
def H149 : F2C := fun c _ v s K =>
pop v fun x0 v =>
endE v (
vNil false .ptr x0 fun x1 =>
cnd x1 (none)
(vChk x0 fun x2 =>
fa1 x2 1 fun x3 =>
ldA x3 take1 s fun x4 s =>
c (.mk .d0 .d2 .d2 .d1) [x4] s fun x5 s =>
K x5 s))
def F149 : F2 := .fn H149 true
theorem fe149 : feE Tryz.prog ann 149 1 [.cl] = some F149 := by kernel_rfl
def H132 : F2C := fun c k v s K =>
pop v fun x0 v =>
pop v fun x1 v =>
endE v (
c (.mk .d0 .d2 .d2 .d2) [x1] s fun x2 s =>
vLenS x0 fun x3 =>
vChk x2 fun x4 =>
fa1 x4 0 fun x5 =>
ldA x5 take1 s fun x6 s =>
bGt x3 x6 fun x7 =>
cnd x7 (none)
(lgE qNoE (zK x2) s fun x8 e9 s =>
lgE qNoE (zK x2) s fun x10 e11 s =>
lgE qNoE (zK x0) s fun x12 e13 s =>
lgE qNoE (c (.mk .d0 .d2 .d2 .d1) [x12]) s fun x14 e15 s =>
lgE qNoE (zK x0) s fun x16 e17 s =>
lgE qNoE (zV (vLenS x16)) s fun x18 e19 s =>
lgE qNoE (zMks false [.bool false] 1 1 x18 x18) s fun x20 e21 s =>
lgE qNoE (zV (vChk x8)) s fun x22 e23 s =>
lgE qNoE (zV (fa1 x22 1)) s fun x24 e25 s =>
lgE qNoE (zSt x24 x14 1) s fun _ e27 s =>
lgE qNoE (zV (vChk x10)) s fun x28 e29 s =>
lgE qNoE (zV (fa1 x28 2)) s fun x30 e31 s =>
lgE qNoE (zSt x30 x20 1) s fun _ e33 s =>
calmE [(3, 5), (3, 6), (5, 9), (6, 9)] [e9, e11, e13, e15, e17, e19, e21, e23, e25, e27, e29, e31, e33] (fun s =>
jn (fun _ s =>
K (.tup [x2, ct]) s) fun K34 =>
loopE k (fun K35 v s =>
pop v fun x36 _ =>
vLenS x0 fun x37 =>
bLt x36 x37 fun x38 =>
cnd x38 (jn (fun v s =>
pop v fun x40 _ =>
K35 [x40] s) fun K39 =>
lgE qNoE (zK x36) s fun x41 e42 s =>
lgE qNoE (zV (bAdd x41 (ci 1))) s fun x43 e44 s =>
lgE qNoE (zK x0) s fun x45 e46 s =>
lgE qNoE (zV (vLenS x45)) s fun x47 e48 s =>
lgE qNoE (zV (bEqF x43 x47)) s fun x49 e50 s =>
lgE qNoE (zK x49) s fun x51 e52 s =>
lgE (qGE x51 false qNoE) (zG x51 false (zK x0)) s fun x53 e54 s =>
lgE (qGE x51 false qNoE) (zG x51 false (zK x36)) s fun x55 e56 s =>
lgE (qGE x51 false qNoE) (zG x51 false (zV (vIaS x53 x55 1))) s fun x57 e58 s =>
lgE (qGE x51 false (qLdE x57 1)) (zG x51 false (ldA x57 take1)) s fun x59 e60 s =>
lgE (qGE x51 false qNoE) (zG x51 false (zV (vCv .i64 x59))) s fun x61 e62 s =>
lgE (qGE x51 false qNoE) (zG x51 false (zK x0)) s fun x63 e64 s =>
lgE (qGE x51 false qNoE) (zG x51 false (zK x36)) s fun x65 e66 s =>
lgE (qGE x51 false qNoE) (zG x51 false (zV (bAdd x65 (ci 1)))) s fun x67 e68 s =>
lgE (qGE x51 false qNoE) (zG x51 false (zV (vIaS x63 x67 1))) s fun x69 e70 s =>
lgE (qGE x51 false (qLdE x69 1)) (zG x51 false (ldA x69 take1)) s fun x71 e72 s =>
lgE (qGE x51 false qNoE) (zG x51 false (zV (vCv .i64 x71))) s fun x73 e74 s =>
lgE (qGE x51 false qNoE) (zG x51 false (c (.mk .d0 .d2 .d5 .d2) [x61, x73])) s fun x75 e76 s =>
lgE (qGE x51 false qNoE) (zG x51 false (zV (vGen (.un .not (.c x75))))) s fun x77 e78 s =>
lgE qNoE (zV (vPick x51 ct x77)) s fun x79 e80 s =>
lgE qNoE (zK x79) s fun x81 e82 s =>
lgE (qGE x81 false qNoE) (zG x81 false (zK x0)) s fun x83 e84 s =>
lgE (qGE x81 false qNoE) (zG x81 false (zK x36)) s fun x85 e86 s =>
lgE (qGE x81 false qNoE) (zG x81 false (zV (bAdd x85 (ci 1)))) s fun x87 e88 s =>
lgE (qGE x81 false qNoE) (zG x81 false (zV (vIaS x83 x87 1))) s fun x89 e90 s =>
lgE (qGE x81 false (qLdE x89 1)) (zG x81 false (ldA x89 take1)) s fun x91 e92 s =>
lgE (qGE x81 false qNoE) (zG x81 false (zV (vCv .i64 x91))) s fun x93 e94 s =>
lgE (qGE x81 false qNoE) (zG x81 false (zK x0)) s fun x95 e96 s =>
lgE (qGE x81 false qNoE) (zG x81 false (zV (vLenS x95))) s fun x97 e98 s =>
lgE (qGE x81 false qNoE) (zG x81 false (zK x36)) s fun x99 e100 s =>
lgE (qGE x81 false qNoE) (zG x81 false (zV (bSub x97 x99))) s fun x101 e102 s =>
lgE (qGE x81 false qNoE) (zG x81 false (zV (bSub x101 (ci 2)))) s fun x103 e104 s =>
lgE (qGE x81 false qNoE) (zG x81 false (zV (bGt x93 x103))) s fun x105 e106 s =>
lgE qNoE (zV (vPick x81 ct x105)) s fun x107 e108 s =>
calmE [(9, 15), (10, 15), (9, 16), (10, 16), (25, 28), (26, 28)] [e42, e44, e46, e48, e50, e52, e54, e56, e58, e60, e62, e64, e66, e68, e70, e72, e74, e76, e78, e80, e82, e84, e86, e88, e90, e92, e94, e96, e98, e100, e102, e104, e106, e108] (fun s =>
cnd x107 (none)
(vChk x2 fun x109 =>
fa1 x109 2 fun x110 =>
ldA x110 take1 s fun x111 s =>
vIaS x111 x36 1 fun x112 =>
zSt x112 ct 1 s fun _ s =>
bAdd x36 (ci 1) fun x114 =>
vIaS x0 x114 1 fun x115 =>
ldA x115 take1 s fun x116 s =>
vCv .i64 x116 fun x117 =>
bAdd (ci 2) x117 fun x118 =>
bAdd x36 x118 fun x119 =>
K39 [x119] s)) s)
(K34 [] s)) [(ci 0)] s) s))
def F132 : F2 := .fn H132 true
theorem fe132 : feE Tryz.prog ann 132 2 [.cl, .j [], .j [7], .j [], .j [7], .cl] = some F132 := by kernel_rfl
def H137 : F2C := fun c _ v s K =>
pop v fun x0 v =>
pop v fun x1 v =>
endE v (
c (.mk .d0 .d2 .d0 .d6) [x0, x1] s fun x2 s =>
vGen (.un .not (.c x2)) fun x3 =>
cnd x3 (none)
(vChk x0 fun x4 =>
fa1 x4 1 fun x5 =>
ldA x5 take1 s fun x6 s =>
vIaS x6 x1 1 fun x7 =>
ldA x7 take1 s fun x8 s =>
vCv .i64 x8 fun x9 =>
K x9 s))
def F137 : F2 := .fn H137 true
theorem fe137 : feE Tryz.prog ann 137 2 [.cl] = some F137 := by kernel_rfl
def H136 : F2C := fun c _ v s K =>
pop v fun x0 v =>
pop v fun x1 v =>
endE v (
c (.mk .d0 .d2 .d0 .d6) [x0, x1] s fun x2 s =>
vGen (.un .not (.c x2)) fun x3 =>
cnd x3 (none)
(vChk x0 fun x4 =>
fa1 x4 1 fun x5 =>
ldA x5 take1 s fun x6 s =>
bAdd x1 (ci 1) fun x7 =>
vIaS x6 x7 1 fun x8 =>
ldA x8 take1 s fun x9 s =>
vCv .i64 x9 fun x10 =>
K x10 s))
def F136 : F2 := .fn H136 true
theorem fe136 : feE Tryz.prog ann 136 2 [.cl] = some F136 := by kernel_rfl
def H150 : F2C := fun c _ v s K =>
pop v fun x0 v =>
pop v fun x1 v =>
pop v fun x2 v =>
endE v (
bLt x2 (ci 0) fun x3 =>
gK x3 false x2 fun x4 =>
gK x3 false x0 fun x5 =>
gK x3 false x1 fun x6 =>
gH x3 false (c (.mk .d0 .d2 .d1 .d0) [x5, x6]) s fun x7 s =>
gV x3 false (bGe x4 x7) fun x8 =>
vPick x3 ct x8 fun x9 =>
cnd x9 (none)
(vChk x0 fun x10 =>
fa1 x10 1 fun x11 =>
ldA x11 take1 s fun x12 s =>
bAdd x1 (ci 2) fun x13 =>
bAdd x13 x2 fun x14 =>
vIaS x12 x14 1 fun x15 =>
ldA x15 take1 s fun x16 s =>
K x16 s))
def F150 : F2 := .fn H150 true
theorem fe150 : feE Tryz.prog ann 150 3 [.cl] = some F150 := by kernel_rfl
def H134 : F2C := fun _ _ v s K =>
pop v fun x0 v =>
pop v fun x1 v =>
endE v (
vNil true .ptr x0 fun x2 =>
gK x2 true x1 fun x3 =>
gV x2 true (bGe x3 (ci 0)) fun x4 =>
vPick x2 x4 cf fun x5 =>
gK x5 true x1 fun x6 =>
gK x5 true x0 fun x7 =>
gV x5 true (vChk x7) fun x8 =>
gV x5 true (fa1 x8 1) fun x9 =>
gH x5 true (ldA x9 take1) s fun x10 s =>
gV x5 true (vLenS x10) fun x11 =>
gV x5 true (bLt x6 x11) fun x12 =>
vPick x5 x12 cf fun x13 =>
gK x13 true x0 fun x14 =>
gV x13 true (vChk x14) fun x15 =>
gV x13 true (fa1 x15 2) fun x16 =>
gH x13 true (ldA x16 take1) s fun x17 s =>
gK x13 true x1 fun x18 =>
gV x13 true (vIaS x17 x18 1) fun x19 =>
gH x13 true (ldA x19 take1) s fun x20 s =>
vPick x13 x20 cf fun x21 =>
K x21 s)
def F134 : F2 := .fn H134 true
theorem fe134 : feE Tryz.prog ann 134 2 [] = some F134 := by kernel_rfl
def H135 : F2C := fun _ _ v s K =>
pop v fun x0 v =>
endE v (
vNil false .ptr x0 fun x1 =>
cnd x1 (none)
(vChk x0 fun x2 =>
fa1 x2 1 fun x3 =>
ldA x3 take1 s fun x4 s =>
vLenS x4 fun x5 =>
K x5 s))
def F135 : F2 := .fn H135 true
theorem fe135 : feE Tryz.prog ann 135 1 [.cl] = some F135 := by kernel_rfl
def H151 : F2C := fun _ _ v s K =>
pop v fun x0 v =>
endE v (
vNil false .ptr x0 fun x1 =>
cnd x1 (none)
(vChk x0 fun x2 =>
fa1 x2 0 fun x3 =>
ldA x3 take1 s fun x4 s =>
K x4 s))
def F151 : F2 := .fn H151 true
theorem fe151 : feE Tryz.prog ann 151 1 [.cl] = some F151 := by kernel_rfl
def H152 : F2C := fun c _ v s K =>
pop v fun x0 v =>
pop v fun x1 v =>
endE v (
zTbox x1 s fun x2 s =>
fa1 x2 0 fun x3 =>
ldA x3 take1 s fun x4 s =>
c (.mk .d0 .d1 .d4 .d6) [x0, x4] s fun x5 s =>
fa1 x2 0 fun x6 =>
ldA x6 take1 s fun x7 s =>
c (.mk .d0 .d2 .d5 .d5) [x7] s fun x8 s =>
cnd x8 (none)
(fa1 x2 0 fun x9 =>
ldA x9 take1 s fun x10 s =>
c (.mk .d0 .d2 .d5 .d6) [x10] s fun x11 s =>
cnd x11 (fa1 x2 2 fun x12 =>
ldA x12 take1 s fun x13 s =>
c (.mk .d0 .d1 .d3 .d7) [x5, x13] s fun x14 s =>
fa1 x2 0 fun x15 =>
ldA x15 take1 s fun x16 s =>
c (.mk .d0 .d2 .d5 .d7) [x16] s fun x17 s =>
cnd x17 (fa1 x2 3 fun x18 =>
ldA x18 take1 s fun x19 s =>
c (.mk .d0 .d1 .d3 .d7) [x14, x19] s fun x20 s =>
K x20 s)
(none))
(none)))
def F152 : F2 := .fn H152 true
theorem fe152 : feE Tryz.prog ann 152 2 [.cl, .cr, .cr] = some F152 := by kernel_rfl
def H153 : F2C := fun c _ v s K =>
pop v fun x0 v =>
endE v (
boxD false [.int .i64 0, .int .i64 0, .str [], .str []] s fun x1 s =>
vBld [.nil .sl, .int .i64 0, .int .i64 0] (eCons 0 1 x0 eNil) fun x2 =>
zBox false x2 s fun x3 s =>
c (.mk .d0 .d2 .d6 .d0) [x3, (.fn 177 [] [])] s fun x4 s =>
vBld [.int .i64 0, .int .i64 0, .str [], .str []] (eCons 0 1 x4 eNil) fun x5 =>
boxD false [.int .i64 0, .int .i64 0, .str [], .str []] s fun x6 s =>
zSt x6 x5 4 s fun _ s =>
fa1 x6 0 fun x8 =>
ldA x8 take1 s fun x9 s =>
c (.mk .d0 .d2 .d5 .d5) [x9] s fun x10 s =>
cnd x10 (none)
(fa1 x6 0 fun x11 =>
ldA x11 take1 s fun x12 s =>
c (.mk .d0 .d2 .d5 .d6) [x12] s fun x13 s =>
jn (fun _ s =>
fa1 x6 0 fun x15 =>
ldA x15 take1 s fun x16 s =>
c (.mk .d0 .d2 .d5 .d7) [x16] s fun x17 s =>
jn (fun _ s =>
vChk x3 fun x19 =>
fa1 x19 2 fun x20 =>
ldA x20 take1 s fun x21 s =>
bEqT x21 (ci 0) fun x22 =>
cnd x22 (lgE qNoE (zV (vBld [.int .i64 0, .int .i64 0, .str [], .str []] eNil)) s fun x23 e24 s =>
lgE qNoE (zK x3) s fun x25 e26 s =>
lgE qNoE (zV (vChk x25)) s fun x27 e28 s =>
lgE qNoE (zV (fa1 x27 2)) s fun x29 e30 s =>
lgE (qLdE x29 1) (ldA x29 take1) s fun x31 e32 s =>
lgE qNoE (zSt x1 x23 4) s fun _ e34 s =>
lgE qNoE (zK (ci 0)) s fun x35 e36 s =>
lgE qNoE (zK x31) s fun x37 e38 s =>
calmE [(0, 4), (4, 5)] [e24, e26, e28, e30, e32, e34, e36, e38] (fun s =>
ldA x1 (takeN 4) s fun x39 s => K (.tup [x39, x35, x37]) s) s)
(lgE (qLdE x6 4) (ldA x6 (takeN 4)) s fun x40 e41 s =>
lgE qNoE (zK x3) s fun x42 e43 s =>
lgE qNoE (zV (vChk x42)) s fun x44 e45 s =>
lgE qNoE (zV (fa1 x44 1)) s fun x46 e47 s =>
lgE (qLdE x46 1) (ldA x46 take1) s fun x48 e49 s =>
lgE qNoE (zSt x1 x40 4) s fun _ e51 s =>
lgE qNoE (zK x48) s fun x52 e53 s =>
lgE qNoE (zK (ci 0)) s fun x54 e55 s =>
calmE [(0, 4), (4, 5)] [e41, e43, e45, e47, e49, e51, e53, e55] (fun s =>
ldA x1 (takeN 4) s fun x56 s => K (.tup [x56, x52, x54]) s) s)) fun K18 =>
cnd x17 (vGen (.mkf 183 [] [(.c x6)]) fun x57 =>
c (.mk .d0 .d2 .d6 .d4) [x3, x57] s fun x58 s =>
fa1 x6 3 fun x59 =>
zSt x59 x58 1 s fun _ s =>
K18 [] s)
(K18 [] s)) fun K14 =>
cnd x13 (vGen (.mkf 181 [] [(.c x6)]) fun x61 =>
c (.mk .d0 .d2 .d6 .d4) [x3, x61] s fun x62 s =>
fa1 x6 2 fun x63 =>
zSt x63 x62 1 s fun _ s =>
K14 [] s)
(K14 [] s)))
def F153 : F2 := .fn H153 true
theorem fe153 : feE Tryz.prog ann 153 1 [.cl, .j [], .j [], .j []] = some F153 := by kernel_rfl
def H154 : F2C := fun c _ v s K =>
endE v (
c (.mk .d0 .d2 .d7 .d1) [] s fun x0 s =>
K x0 s)
def F154 : F2 := .pur H154 true mNo
theorem fe154 : feE Tryz.prog ann 154 0 [] = some F154 := by kernel_rfl
def M154 (k : Nat) : F2 := .pur H154 true (Bool.rec mNo (mVal (.bool true)) (Nat.ble 4 k))
def H155 : F2C := fun c _ v s K =>
pop v fun x0 v =>
endE v (
zTbox x0 s fun x1 s =>
fa1 x1 0 fun x2 =>
ldA x2 take1 s fun x3 s =>
c (.mk .d0 .d2 .d6 .d1) [x3] s fun x4 s =>
gV x4 true (fa1 x1 0) fun x5 =>
gH x4 true (ldA x5 take1) s fun x6 s =>
gV x4 true (fa1 x1 1) fun x7 =>
gH x4 true (ldA x7 take1) s fun x8 s =>
gH x4 true (c (.mk .d0 .d2 .d6 .d3) [x6, x8]) s fun x9 s =>
vPick x4 x9 cf fun x10 =>
gV x10 true (fa1 x1 0) fun x11 =>
gH x10 true (ldA x11 take1) s fun x12 s =>
gV x10 true (fa1 x1 2) fun x13 =>
gH x10 true (ldA x13 take1) s fun x14 s =>
gH x10 true (c (.mk .d0 .d2 .d6 .d6) [x12, x14]) s fun x15 s =>
vPick x10 x15 cf fun x16 =>
gV x16 true (fa1 x1 0) fun x17 =>
gH x16 true (ldA x17 take1) s fun x18 s =>
gV x16 true (fa1 x1 3) fun x19 =>
gH x16 true (ldA x19 take1) s fun x20 s =>
gH x16 true (c (.mk .d0 .d2 .d7 .d0) [x18, x20]) s fun x21 s =>
vPick x16 x21 cf fun x22 =>
K x22 s)
def F155 : F2 := .fn H155 true
theorem fe155 : feE Tryz.prog ann 155 1 [] = some F155 := by kernel_rfl
def H156 : F2C := fun c _ v s K =>
pop v fun x0 v =>
endE v (
c (.mk .d0 .d2 .d7 .d2) [x0, (ci 20), (ci 36)] s fun x1 s =>
K x1 s)
def F156 : F2 := .fn H156 true
theorem fe156 : feE Tryz.prog ann 156 1 [] = some F156 := by kernel_rfl
def H126 : F2C := fun _ _ v s K =>
pop v fun x0 v =>
endE v (
jn (fun _ s =>
K cf s) fun K1 =>
bEqF x0 (ci 20) fun x2 =>
cnd x2 (none)
(bEqF x0 (ci 46) fun x3 =>
jn (fun v s =>
pop v fun x5 _ =>
cnd x5 (K ct s)
(K1 [] s)) fun K4 =>
cnd x3 (K4 [x3] s)
(bEqF x0 (ci 47) fun x6 =>
cnd x6 (none)
(bEqF x0 (ci 48) fun x7 =>
cnd x7 (none)
(bEqF x0 (ci 58) fun x8 =>
cnd x8 (none)
(bEqF x0 (ci 61) fun x9 =>
K4 [x9] s))))))
def F126 : F2 := .fn H126 true
theorem fe126 : feE Tryz.prog ann 126 1 [.j [], .cl, .j [4], .cl, .cl, .cl, .j []] = some F126 := by kernel_rfl
def H157 : F2C := fun _ _ v s K =>
pop v fun x0 v =>
pop v fun x1 v =>
endE v (
zTbox x0 s fun x2 s =>
zTbox x1 s fun x3 s =>
fa1 x2 0 fun x4 =>
ldA x4 take1 s fun x5 s =>
fa1 x3 0 fun x6 =>
ldA x6 take1 s fun x7 s =>
bEqF x5 x7 fun x8 =>
gV x8 true (fa1 x2 1) fun x9 =>
gH x8 true (ldA x9 take1) s fun x10 s =>
gV x8 true (fa1 x3 1) fun x11 =>
gH x8 true (ldA x11 take1) s fun x12 s =>
gV x8 true (bEqF x10 x12) fun x13 =>
vPick x8 x13 cf fun x14 =>
gV x14 true (fa1 x2 2) fun x15 =>
gH x14 true (ldA x15 take1) s fun x16 s =>
gV x14 true (fa1 x3 2) fun x17 =>
gH x14 true (ldA x17 take1) s fun x18 s =>
gV x14 true (bEqF x16 x18) fun x19 =>
vPick x14 x19 cf fun x20 =>
gV x20 true (fa1 x2 3) fun x21 =>
gH x20 true (ldA x21 take1) s fun x22 s =>
gV x20 true (fa1 x3 3) fun x23 =>
gH x20 true (ldA x23 take1) s fun x24 s =>
gV x20 true (bEqF x22 x24) fun x25 =>
vPick x20 x25 cf fun x26 =>
K x26 s)
def F157 : F2 := .fn H157 true
theorem fe157 : feE Tryz.prog ann 157 2 [] = some F157 := by kernel_rfl
def H112 : F2C := fun _ k v s K =>
pop v fun x0 v =>
pop v fun x1 v =>
endE v (
vLenS x0 fun x2 =>
vLenS x1 fun x3 =>
bEqT x2 x3 fun x4 =>
cnd x4 (none)
(vLenS x0 fun x5 =>
jn (fun _ s =>
K ct s) fun K6 =>
loopE k (fun _ v s =>
pop v fun x8 _ =>
bLt x8 x5 fun x9 =>
cnd x9 (none)
(K6 [] s)) [(ci 0)] s))
def F112 : F2 := .fn H112 true
theorem fe112 : feE Tryz.prog ann 112 2 [.cl, .j [], .j [13], .cl, .j [], .ch] = some F112 := by kernel_rfl
def H113 : F2C := fun _ k v s K =>
pop v fun x0 v =>
pop v fun x1 v =>
endE v (
vLenS x0 fun x2 =>
vLenS x1 fun x3 =>
bEqT x2 x3 fun x4 =>
cnd x4 (none)
(vLenS x0 fun x5 =>
jn (fun _ s =>
K ct s) fun K6 =>
loopE k (fun K7 v s =>
pop v fun x8 _ =>
bLt x8 x5 fun x9 =>
cnd x9 (jn (fun _ s =>
bAdd x8 (ci 1) fun x11 =>
K7 [x11] s) fun K10 =>
lgE qNoE (zK x0) s fun x12 e13 s =>
lgE qNoE (zK x8) s fun x14 e15 s =>
lgE qNoE (zV (vIaS x12 x14 4)) s fun x16 e17 s =>
lgE (qLdE x16 4) (ldA x16 (takeN 4)) s fun x18 e19 s =>
lgE qNoE (zK x1) s fun x20 e21 s =>
lgE qNoE (zK x8) s fun x22 e23 s =>
lgE qNoE (zV (vIaS x20 x22 4)) s fun x24 e25 s =>
lgE (qLdE x24 4) (ldA x24 (takeN 4)) s fun x26 e27 s =>
lgE qNoE (zV (vGen (.eqs true [(0, 0), (1, 0), (2, 0), (3, 0)] (.c x18) (.c x26)))) s fun x28 e29 s =>
calmE [(3, 7)] [e13, e15, e17, e19, e21, e23, e25, e27, e29] (fun s =>
cnd x28 (none)
(K10 [] s)) s)
(K6 [] s)) [(ci 0)] s))
def F113 : F2 := .fn H113 true
theorem fe113 : feE Tryz.prog ann 113 2 [.cl, .j [], .j [13], .j [], .j [], .cl] = some F113 := by kernel_rfl
def H114 : F2C := fun _ k v s K =>
pop v fun x0 v =>
pop v fun x1 v =>
endE v (
vLenS x0 fun x2 =>
vLenS x1 fun x3 =>
bEqT x2 x3 fun x4 =>
cnd x4 (none)
(vLenS x0 fun x5 =>
jn (fun _ s =>
K ct s) fun K6 =>
loopE k (fun _ v s =>
pop v fun x8 _ =>
bLt x8 x5 fun x9 =>
cnd x9 (none)
(K6 [] s)) [(ci 0)] s))
def F114 : F2 := .fn H114 true
theorem fe114 : feE Tryz.prog ann 114 2 [.cl, .j [], .j [13], .cl, .j [], .ch] = some F114 := by kernel_rfl
def H158 : F2C := fun c _ v s K =>
pop v fun x0 v =>
endE v (
c (.mk .d0 .d1 .d5 .d7) [x0] s fun x1 s =>
vExt x1 0 fun x2 =>
vExt x1 1 fun x3 =>
vExt x1 2 fun x4 =>
jn (fun _ s =>
bAdd x3 x2 fun x6 =>
vSlt x0 (eX x3) (eX x6) 1 fun x7 =>
b2sA x7 s fun x8 s =>
bAdd x3 x2 fun x9 =>
K (.tup [x8, x9, (ci 0)]) s) fun K5 =>
bEqT x4 (ci 0) fun x10 =>
cnd x10 (none)
(bLt x2 (ci 0) fun x11 =>
gK x11 false x2 fun x12 =>
gV x11 false (bGt x12 (ci 1048576)) fun x13 =>
vPick x11 ct x13 fun x14 =>
cnd x14 (none)
(vLenS x0 fun x15 =>
bSub x15 x3 fun x16 =>
bGt x2 x16 fun x17 =>
cnd x17 (none)
(K5 [] s))))
def F158 : F2 := .fn H158 true
theorem fe158 : feE Tryz.prog ann 158 1 [.j [], .cl, .cl, .cl] = some F158 := by kernel_rfl
def H170 : F2C := fun _ _ v s K =>
pop v fun x0 v =>
pop v fun x1 v =>
endE v (
bGe x0 (ci 0) fun x2 =>
gK x2 true x0 fun x3 =>
gV x2 true (bLe x3 (ci 10000)) fun x4 =>
vPick x2 x4 cf fun x5 =>
gK x5 true x1 fun x6 =>
gV x5 true (bGe x6 (ci 0)) fun x7 =>
vPick x5 x7 cf fun x8 =>
gK x8 true x1 fun x9 =>
gV x8 true (bLe x9 (ci 1000)) fun x10 =>
vPick x8 x10 cf fun x11 =>
K x11 s)
def F170 : F2 := .fn H170 true
theorem fe170 : feE Tryz.prog ann 170 2 [] = some F170 := by kernel_rfl
def H145 : F2C := fun _ _ v s K =>
pop v fun x0 v =>
endE v (
vNil false .sl x0 fun x1 =>
cnd x1 (none)
(zHbs [] 1 0 eNil s fun x2 s =>
appB 1 4 x2 x0 s fun x3 s =>
K x3 s))
def F145 : F2 := .fn H145 true
theorem fe145 : feE Tryz.prog ann 145 1 [.cl] = some F145 := by kernel_rfl
def H173 : F2C := fun c _ v s K =>
pop v fun x0 v =>
endE v (
bEqF x0 (ci 1) fun x1 =>
gK x1 false x0 fun x2 =>
gV x1 false (bEqF x2 (ci 3)) fun x3 =>
vPick x1 ct x3 fun x4 =>
gK x4 false x0 fun x5 =>
gV x4 false (bEqF x5 (ci 4)) fun x6 =>
vPick x4 ct x6 fun x7 =>
gK x7 false x0 fun x8 =>
gH x7 false (c (.mk .d0 .d2 .d3 .d4) [x8]) s fun x9 s =>
vPick x7 ct x9 fun x10 =>
K x10 s)
def F173 : F2 := .fn H173 true
theorem fe173 : feE Tryz.prog ann 173 1 [] = some F173 := by kernel_rfl
def H174 : F2C := fun c _ v s K =>
pop v fun x0 v =>
endE v (
bEqF x0 (ci 37) fun x1 =>
gK x1 false x0 fun x2 =>
gH x1 false (c (.mk .d0 .d2 .d5 .d7) [x2]) s fun x3 s =>
vPick x1 ct x3 fun x4 =>
gK x4 false x0 fun x5 =>
gH x4 false (c (.mk .d0 .d2 .d7 .d7) [x5]) s fun x6 s =>
vPick x4 ct x6 fun x7 =>
K x7 s)
def F174 : F2 := .fn H174 true
theorem fe174 : feE Tryz.prog ann 174 1 [] = some F174 := by kernel_rfl
def H175 : F2C := fun c _ v s K =>
pop v fun x0 v =>
endE v (
c (.mk .d0 .d2 .d7 .d2) [x0, (ci 38), (ci 45)] s fun x1 s =>
K x1 s)
def F175 : F2 := .fn H175 true
theorem fe175 : feE Tryz.prog ann 175 1 [] = some F175 := by kernel_rfl
def H176 : F2C := fun c _ v s K =>
pop v fun x0 v =>
pop v fun x1 v =>
endE v (
vChk x0 fun x2 =>
fa1 x2 2 fun x3 =>
ldA x3 take1 s fun x4 s =>
bEqT x4 (ci 0) fun x5 =>
cnd x5 (none)
(lgE qNoE (zK x0) s fun x6 e7 s =>
lgE qNoE (zV (vChk x6)) s fun x8 e9 s =>
lgE qNoE (zV (fa1 x8 0)) s fun x10 e11 s =>
lgE (qLdE x10 1) (ldA x10 take1) s fun x12 e13 s =>
lgE qNoE (zK x0) s fun x14 e15 s =>
lgE qNoE (zV (vChk x14)) s fun x16 e17 s =>
lgE qNoE (zV (fa1 x16 1)) s fun x18 e19 s =>
lgE (qLdE x18 1) (ldA x18 take1) s fun x20 e21 s =>
lgE qNoE (zV (vSlt x12 (eX x20) eN 1)) s fun x22 e23 s =>
lgE qNoE (c (.mk .d0 .d1 .d5 .d7) [x22]) s fun x24 e25 s =>
lgE qNoE (zK x24) s fun x26 e27 s =>
lgE qNoE (zV (vExt x26 0)) s fun x28 e29 s =>
lgE qNoE (zV (vExt x26 1)) s fun x30 e31 s =>
lgE qNoE (zV (vExt x26 2)) s fun x32 e33 s =>
lgE qNoE (zK x28) s fun x34 e35 s =>
lgE qNoE (zK x30) s fun x36 e37 s =>
lgE qNoE (zK x32) s fun x38 e39 s =>
calmE [(3, 7)] [e7, e9, e11, e13, e15, e17, e19, e21, e23, e25, e27, e29, e31, e33, e35, e37, e39] (fun s =>
bEqF x38 (ci 0) fun x40 =>
gK x40 true x1 fun x41 =>
gK x40 true x34 fun x42 =>
gH x40 true (zCallV c x41 [x42]) s fun x43 s =>
gV x40 true (vGen (.un .not (.c x43))) fun x44 =>
vPick x40 x44 cf fun x45 =>
jn (fun v s =>
pop v fun x47 _ =>
vChk x0 fun x48 =>
fa1 x48 1 fun x49 =>
ldA x49 take1 s fun x50 s =>
bAdd x50 x36 fun x51 =>
vChk x0 fun x52 =>
fa1 x52 1 fun x53 =>
zSt x53 x51 1 s fun _ s =>
vChk x0 fun x55 =>
fa1 x55 2 fun x56 =>
zSt x56 x47 1 s fun _ s =>
K x34 s) fun K46 =>
cnd x45 (K46 [(ci 1)] s)
(K46 [x38] s)) s))
def F176 : F2 := .fn H176 true
theorem fe176 : feE Tryz.prog ann 176 2 [.cl, .j [7]] = some F176 := by kernel_rfl
def H177 : F2C := fun c _ v s K =>
pop v fun x0 v =>
endE v (
c (.mk .d0 .d2 .d7 .d2) [x0, (ci 1), (ci 61)] s fun x1 s =>
K x1 s)
def F177 : F2 := .fn H177 true
theorem fe177 : feE Tryz.prog ann 177 1 [] = some F177 := by kernel_rfl
def H181 : F2C := fun c _ v s K =>
pop v fun x0 v =>
pop v fun x1 v =>
endE v (
fa1 x1 0 fun x2 =>
ldA x2 take1 s fun x3 s =>
c (.mk .d0 .d2 .d6 .d6) [x3, x0] s fun x4 s =>
K x4 s)
def F181 : F2 := .fn H181 true
theorem fe181 : feE Tryz.prog ann 181 2 [] = some F181 := by kernel_rfl
def H180 : F2C := fun c _ v s K =>
pop v fun x0 v =>
pop v fun x1 v =>
endE v (
vChk x0 fun x2 =>
fa1 x2 2 fun x3 =>
ldA x3 take1 s fun x4 s =>
bEqT x4 (ci 0) fun x5 =>
cnd x5 (none)
(lgE qNoE (zK x0) s fun x6 e7 s =>
lgE qNoE (zV (vChk x6)) s fun x8 e9 s =>
lgE qNoE (zV (fa1 x8 0)) s fun x10 e11 s =>
lgE (qLdE x10 1) (ldA x10 take1) s fun x12 e13 s =>
lgE qNoE (zK x0) s fun x14 e15 s =>
lgE qNoE (zV (vChk x14)) s fun x16 e17 s =>
lgE qNoE (zV (fa1 x16 1)) s fun x18 e19 s =>
lgE (qLdE x18 1) (ldA x18 take1) s fun x20 e21 s =>
lgE qNoE (zV (vSlt x12 (eX x20) eN 1)) s fun x22 e23 s =>
lgE qNoE (c (.mk .d0 .d2 .d3 .d6) [x22]) s fun x24 e25 s =>
lgE qNoE (zK x24) s fun x26 e27 s =>
lgE qNoE (zV (vExt x26 0)) s fun x28 e29 s =>
lgE qNoE (zV (vExt x26 1)) s fun x30 e31 s =>
lgE qNoE (zV (vExt x26 2)) s fun x32 e33 s =>
lgE qNoE (zK x28) s fun x34 e35 s =>
lgE qNoE (zK x30) s fun x36 e37 s =>
lgE qNoE (zK x32) s fun x38 e39 s =>
calmE [(3, 7)] [e7, e9, e11, e13, e15, e17, e19, e21, e23, e25, e27, e29, e31, e33, e35, e37, e39] (fun s =>
bEqF x38 (ci 0) fun x40 =>
gK x40 true x1 fun x41 =>
gK x40 true x34 fun x42 =>
gH x40 true (zCallV c x41 [x42]) s fun x43 s =>
gV x40 true (vGen (.un .not (.c x43))) fun x44 =>
vPick x40 x44 cf fun x45 =>
cnd x45 (none)
(vChk x0 fun x46 =>
fa1 x46 1 fun x47 =>
ldA x47 take1 s fun x48 s =>
bAdd x48 x36 fun x49 =>
vChk x0 fun x50 =>
fa1 x50 1 fun x51 =>
zSt x51 x49 1 s fun _ s =>
vChk x0 fun x53 =>
fa1 x53 2 fun x54 =>
zSt x54 x38 1 s fun _ s =>
K x34 s)) s))
def F180 : F2 := .fn H180 true
theorem fe180 : feE Tryz.prog ann 180 2 [.cl, .cl] = some F180 := by kernel_rfl
def H183 : F2C := fun c _ v s K =>
pop v fun x0 v =>
pop v fun x1 v =>
endE v (
fa1 x1 0 fun x2 =>
ldA x2 take1 s fun x3 s =>
c (.mk .d0 .d2 .d7 .d0) [x3, x0] s fun x4 s =>
K x4 s)
def F183 : F2 := .fn H183 true
theorem fe183 : feE Tryz.prog ann 183 2 [] = some F183 := by kernel_rfl
def H185 : F2C := fun c _ v s K =>
endE v (
c (.mk .d0 .d3 .d0 .d3) [(.str [91, 91, 65, 98])] s fun x0 s =>
vExt x0 0 fun x1 =>
vExt x0 1 fun x2 =>
c (.mk .d0 .d3 .d0 .d3) [(.str [65, 98])] s fun x3 s =>
vExt x3 0 fun _ =>
vExt x3 1 fun x5 =>
c (.mk .d0 .d3 .d0 .d1) [(.str [65, 98])] s fun x6 s =>
gH x6 true (c (.mk .d0 .d3 .d0 .d1) [(.str [65])]) s fun x7 s =>
gV x6 true (vGen (.un .not (.c x7))) fun x8 =>
vPick x6 x8 cf fun x9 =>
gH x9 true (c (.mk .d0 .d3 .d0 .d2) [(.str [97, 98])]) s fun x10 s =>
vPick x9 x10 cf fun x11 =>
gH x11 true (c (.mk .d0 .d3 .d0 .d2) [(.str [36, 105, 110, 105, 116])]) s fun x12 s =>
vPick x11 x12 cf fun x13 =>
gH x13 true (c (.mk .d0 .d3 .d0 .d2) [(.str [65, 98])]) s fun x14 s =>
gV x13 true (vGen (.un .not (.c x14))) fun x15 =>
vPick x13 x15 cf fun x16 =>
gH x16 true (c (.mk .d0 .d3 .d0 .d4) [(.str [91, 91, 73])]) s fun x17 s =>
vPick x16 x17 cf fun x18 =>
gH x18 true (c (.mk .d0 .d3 .d0 .d4) [(.str [91, 91, 91, 73])]) s fun x19 s =>
gV x18 true (vGen (.un .not (.c x19))) fun x20 =>
vPick x18 x20 cf fun x21 =>
gH x21 true (c (.mk .d0 .d3 .d0 .d5) [(.str [86])]) s fun x22 s =>
vPick x21 x22 cf fun x23 =>
gH x23 true (c (.mk .d0 .d3 .d0 .d4) [(.str [86])]) s fun x24 s =>
gV x23 true (vGen (.un .not (.c x24))) fun x25 =>
vPick x23 x25 cf fun x26 =>
gH x26 true (c (.mk .d0 .d3 .d0 .d0) [(.str [91, 73])]) s fun x27 s =>
vPick x26 x27 cf fun x28 =>
gH x28 true (c (.mk .d0 .d3 .d0 .d0) [(.str [73])]) s fun x29 s =>
gV x28 true (vGen (.un .not (.c x29))) fun x30 =>
vPick x28 x30 cf fun x31 =>
gK x31 true x1 fun x32 =>
gV x31 true (bEqF x32 (.str [91, 65, 98])) fun x33 =>
vPick x31 x33 cf fun x34 =>
gK x34 true x2 fun x35 =>
vPick x34 x35 cf fun x36 =>
gK x36 true x5 fun x37 =>
gV x36 true (vGen (.un .not (.c x37))) fun x38 =>
vPick x36 x38 cf fun x39 =>
gH x39 true (c (.mk .d0 .d3 .d0 .d6) [(.str [73])]) s fun x40 s =>
gV x39 true (bEqF x40 (.str [91, 73])) fun x41 =>
vPick x39 x41 cf fun x42 =>
gH x42 true (c (.mk .d0 .d3 .d0 .d6) [(.str [91, 91, 73])]) s fun x43 s =>
gV x42 true (bEqF x43 (.str [])) fun x44 =>
vPick x42 x44 cf fun x45 =>
K x45 s)
def F185 : F2 := .pur H185 true mNo
theorem fe185 : feE Tryz.prog ann 185 0 [] = some F185 := by kernel_rfl
def M185 (k : Nat) : F2 := .pur H185 true (Bool.rec mNo (mVal (.bool true)) (Nat.ble 3 k))
def H179 : F2C := fun c _ v s K =>
pop v fun x0 v =>
pop v fun x1 v =>
endE v (
jn (fun _ s =>
bEqF x1 (ci 0) fun x3 =>
K x3 s) fun K2 =>
bEqF x0 (ci 1) fun x4 =>
cnd x4 (none)
(bEqF x0 (ci 3) fun x5 =>
gK x5 false x0 fun x6 =>
gV x5 false (bEqF x6 (ci 4)) fun x7 =>
vPick x5 ct x7 fun x8 =>
cnd x8 (none)
(c (.mk .d0 .d2 .d3 .d4) [x0] s fun x9 s =>
cnd x9 (none)
(K2 [] s))))
def F179 : F2 := .fn H179 true
theorem fe179 : feE Tryz.prog ann 179 2 [.j [], .cl, .cl, .cl] = some F179 := by kernel_rfl
def H182 : F2C := fun c _ v s K =>
pop v fun x0 v =>
pop v fun x1 v =>
endE v (
jn (fun _ s =>
bEqF x1 (.str []) fun x3 =>
K x3 s) fun _ =>
c (.mk .d0 .d2 .d7 .d7) [x0] s fun x4 s =>
cnd x4 (none)
(c (.mk .d0 .d2 .d5 .d6) [x0] s fun x5 s =>
cnd x5 (c (.mk .d0 .d3 .d0 .d1) [x1] s fun x6 s =>
K x6 s)
(none)))
def F182 : F2 := .fn H182 true
theorem fe182 : feE Tryz.prog ann 182 2 [.j [], .cl, .cr] = some F182 := by kernel_rfl
def H184 : F2C := fun c _ v s K =>
pop v fun x0 v =>
pop v fun x1 v =>
endE v (
c (.mk .d0 .d2 .d5 .d7) [x0] s fun x2 s =>
cnd x2 (c (.mk .d0 .d3 .d0 .d2) [x1] s fun x3 s =>
gK x3 true x1 fun x4 =>
gV x3 true (bEqT x4 (.str [36, 105, 110, 105, 116])) fun x5 =>
vPick x3 x5 cf fun x6 =>
K x6 s)
(none))
def F184 : F2 := .fn H184 true
theorem fe184 : feE Tryz.prog ann 184 2 [.cr] = some F184 := by kernel_rfl
def H186 : F2C := fun _ _ v s K =>
pop v fun x0 v =>
pop v fun x1 v =>
pop v fun x2 v =>
endE v (
bGe x0 x1 fun x3 =>
gK x3 true x0 fun x4 =>
gK x3 true x2 fun x5 =>
gV x3 true (bLe x4 x5) fun x6 =>
vPick x3 x6 cf fun x7 =>
K x7 s)
def F186 : F2 := .fn H186 true
theorem fe186 : feE Tryz.prog ann 186 3 [] = some F186 := by kernel_rfl
def H191 : F2C := fun _ _ v s K =>
pop v fun x0 v =>
endE v (
bEqF x0 (ci 50) fun x1 =>
gK x1 false x0 fun x2 =>
gV x1 false (bEqF x2 (ci 56)) fun x3 =>
vPick x1 ct x3 fun x4 =>
gK x4 false x0 fun x5 =>
gV x4 false (bEqF x5 (ci 57)) fun x6 =>
vPick x4 ct x6 fun x7 =>
K x7 s)
def F191 : F2 := .fn H191 true
theorem fe191 : feE Tryz.prog ann 191 1 [] = some F191 := by kernel_rfl
def H195 : F2C := fun c _ v s K =>
pop v fun x0 v =>
endE v (
c (.mk .d0 .d3 .d0 .d4) [x0] s fun x1 s =>
vGen (.un .not (.c x1)) fun x2 =>
gK x2 false x0 fun x3 =>
gV x2 false (vIxs x3 (ci 0)) fun x4 =>
gV x2 false (bEqT x4 (cu 91)) fun x5 =>
vPick x2 ct x5 fun x6 =>
cnd x6 (K (.tup [(.str []), cf]) s)
(vGen (.sls (.c x0) (some (.c (ci 1))) none) fun x7 =>
K (.tup [x7, ct]) s))
def F195 : F2 := .fn H195 true
theorem fe195 : feE Tryz.prog ann 195 1 [.j []] = some F195 := by kernel_rfl
def H193 : F2C := fun c _ v s K =>
pop v fun x0 v =>
endE v (
c (.mk .d0 .d3 .d0 .d7) [x0] s fun x1 s =>
gK x1 true x0 fun x2 =>
gV x1 true (vLens x2) fun x3 =>
gV x1 true (bGt x3 (ci 1)) fun x4 =>
vPick x1 x4 cf fun x5 =>
gK x5 true x0 fun x6 =>
gV x5 true (vIxs x6 (ci 0)) fun x7 =>
gH x5 true (c (.mk .d0 .d3 .d1 .d0) [x7]) s fun x8 s =>
vPick x5 x8 cf fun x9 =>
K x9 s)
def F193 : F2 := .fn H193 true
theorem fe193 : feE Tryz.prog ann 193 1 [] = some F193 := by kernel_rfl
def H194 : F2C := fun c _ v s K =>
pop v fun x0 v =>
endE v (
bEqF x0 (.str [36, 105, 110, 105, 116]) fun x1 =>
gK x1 false x0 fun x2 =>
gH x1 false (c (.mk .d0 .d3 .d0 .d7) [x2]) s fun x3 s =>
gK x1 false x3 fun x4 =>
gK x4 true x0 fun x5 =>
gV x4 true (vIxs x5 (ci 0)) fun x6 =>
gH x4 true (c (.mk .d0 .d3 .d1 .d1) [x6]) s fun x7 s =>
gV x1 false (vPick x4 x7 cf) fun x8 =>
vPick x1 ct x8 fun x9 =>
K x9 s)
def F194 : F2 := .fn H194 true
theorem fe194 : feE Tryz.prog ann 194 1 [] = some F194 := by kernel_rfl
def H196 : F2C := fun c _ v s K =>
pop v fun x0 v =>
endE v (
c (.mk .d0 .d3 .d1 .d2) [x0, (.str [91])] s fun x1 s =>
c (.mk .d0 .d3 .d1 .d2) [x1, (.str [91])] s fun x2 s =>
bEqF x2 (.str [73]) fun x3 =>
gK x3 false x2 fun x4 =>
gH x3 false (c (.mk .d0 .d3 .d0 .d1) [x4]) s fun x5 s =>
vPick x3 ct x5 fun x6 =>
K x6 s)
def F196 : F2 := .fn H196 true
theorem fe196 : feE Tryz.prog ann 196 1 [] = some F196 := by kernel_rfl
def H197 : F2C := fun c _ v s K =>
pop v fun x0 v =>
endE v (
bEqF x0 (.str [86]) fun x1 =>
gK x1 false x0 fun x2 =>
gH x1 false (c (.mk .d0 .d3 .d0 .d4) [x2]) s fun x3 s =>
vPick x1 ct x3 fun x4 =>
K x4 s)
def F197 : F2 := .fn H197 true
theorem fe197 : feE Tryz.prog ann 197 1 [] = some F197 := by kernel_rfl
def H192 : F2C := fun c _ v s K =>
pop v fun x0 v =>
endE v (
bEqT x0 (.str [73]) fun x1 =>
gK x1 true x0 fun x2 =>
gH x1 true (c (.mk .d0 .d3 .d0 .d4) [x2]) s fun x3 s =>
vPick x1 x3 cf fun x4 =>
K x4 s)
def F192 : F2 := .fn H192 true
theorem fe192 : feE Tryz.prog ann 192 1 [] = some F192 := by kernel_rfl
def H198 : F2C := fun c _ v s K =>
pop v fun x0 v =>
endE v (
c (.mk .d0 .d3 .d0 .d4) [x0] s fun x1 s =>
vGen (.un .not (.c x1)) fun x2 =>
gK x2 false x0 fun x3 =>
gV x2 false (bAdd (.str [91]) x3) fun x4 =>
gH x2 false (c (.mk .d0 .d3 .d0 .d4) [x4]) s fun x5 s =>
gV x2 false (vGen (.un .not (.c x5))) fun x6 =>
vPick x2 ct x6 fun x7 =>
cnd x7 (K (.str []) s)
(bAdd (.str [91]) x0 fun x8 =>
K x8 s))
def F198 : F2 := .fn H198 true
theorem fe198 : feE Tryz.prog ann 198 1 [.j []] = some F198 := by kernel_rfl
def H199 : F2C := fun c k v s K =>
pop v fun x0 v =>
endE v (
vLens x0 fun x1 =>
jn (fun _ s =>
bEqT x0 (.str []) fun x3 =>
gK x3 true x0 fun x4 =>
gV x3 true (vLens x4) fun x5 =>
gV x3 true (bLe x5 (ci 8)) fun x6 =>
vPick x3 x6 cf fun x7 =>
K x7 s) fun K2 =>
loopE k (fun K8 v s =>
pop v fun x9 _ =>
bLt x9 x1 fun x10 =>
cnd x10 (jn (fun _ s =>
bAdd x9 (ci 1) fun x12 =>
K8 [x12] s) fun K11 =>
vIxs x0 x9 fun x13 =>
c (.mk .d0 .d3 .d1 .d1) [x13] s fun x14 s =>
vGen (.un .not (.c x14)) fun x15 =>
gK x15 true x0 fun x16 =>
gK x15 true x9 fun x17 =>
gV x15 true (vIxs x16 x17) fun x18 =>
gH x15 true (c (.mk .d0 .d3 .d1 .d0) [x18]) s fun x19 s =>
gV x15 true (vGen (.un .not (.c x19))) fun x20 =>
vPick x15 x20 cf fun x21 =>
gK x21 true x0 fun x22 =>
gK x21 true x9 fun x23 =>
gV x21 true (vIxs x22 x23) fun x24 =>
gH x21 true (c (.mk .d0 .d3 .d1 .d3) [x24]) s fun x25 s =>
gV x21 true (vGen (.un .not (.c x25))) fun x26 =>
vPick x21 x26 cf fun x27 =>
cnd x27 (K cf s)
(K11 [] s))
(K2 [] s)) [(ci 0)] s)
def F199 : F2 := .fn H199 true
theorem fe199 : feE Tryz.prog ann 199 1 [.j [], .j [6], .j [], .j [], .j []] = some F199 := by kernel_rfl
def H200 : F2C := fun _ _ v s K =>
pop v fun x0 v =>
endE v (
bGe x0 (cu 65) fun x1 =>
gK x1 true x0 fun x2 =>
gV x1 true (bLe x2 (cu 90)) fun x3 =>
vPick x1 x3 cf fun x4 =>
K x4 s)
def F200 : F2 := .fn H200 true
theorem fe200 : feE Tryz.prog ann 200 1 [] = some F200 := by kernel_rfl
def H201 : F2C := fun _ _ v s K =>
pop v fun x0 v =>
endE v (
bGe x0 (cu 97) fun x1 =>
gK x1 true x0 fun x2 =>
gV x1 true (bLe x2 (cu 122)) fun x3 =>
vPick x1 x3 cf fun x4 =>
K x4 s)
def F201 : F2 := .fn H201 true
theorem fe201 : feE Tryz.prog ann 201 1 [] = some F201 := by kernel_rfl
def H202 : F2C := fun c _ v s K =>
pop v fun x0 v =>
pop v fun x1 v =>
endE v (
c (.mk .d0 .d3 .d1 .d4) [x0, x1] s fun x2 s =>
K x2 s)
def F202 : F2 := .fn H202 true
theorem fe202 : feE Tryz.prog ann 202 2 [] = some F202 := by kernel_rfl
def H203 : F2C := fun _ _ v s K =>
pop v fun x0 v =>
endE v (
bGe x0 (cu 48) fun x1 =>
gK x1 true x0 fun x2 =>
gV x1 true (bLe x2 (cu 57)) fun x3 =>
vPick x1 x3 cf fun x4 =>
K x4 s)
def F203 : F2 := .fn H203 true
theorem fe203 : feE Tryz.prog ann 203 1 [] = some F203 := by kernel_rfl
def H204 : F2C := fun c _ v s K =>
pop v fun x0 v =>
pop v fun x1 v =>
endE v (
c (.mk .d0 .d3 .d1 .d5) [x0, x1] s fun x2 s =>
cnd x2 (vLens x1 fun x3 =>
vGen (.sls (.c x0) (some (.c x3)) none) fun x4 =>
K x4 s)
(K x0 s))
def F204 : F2 := .fn H204 true
theorem fe204 : feE Tryz.prog ann 204 2 [.j []] = some F204 := by kernel_rfl
def H205 : F2C := fun _ _ v s K =>
pop v fun x0 v =>
pop v fun x1 v =>
endE v (
vLens x0 fun x2 =>
vLens x1 fun x3 =>
bGe x2 x3 fun x4 =>
gK x4 true x0 fun x5 =>
gK x4 true x1 fun x6 =>
gV x4 true (vLens x6) fun x7 =>
gV x4 true (vGen (.sls (.c x5) none (some (.c x7)))) fun x8 =>
gK x4 true x1 fun x9 =>
gV x4 true (bEqF x8 x9) fun x10 =>
vPick x4 x10 cf fun x11 =>
K x11 s)
def F205 : F2 := .fn H205 true
theorem fe205 : feE Tryz.prog ann 205 2 [] = some F205 := by kernel_rfl
structure Hy (k : Nat) : Prop where
  h92 : 1 ≤ k → PureC Tryz.prog ann 92 [] (.bool true)
  h32 : 2 ≤ k → PureC Tryz.prog ann 32 [] (.bool true)
  h185 : 3 ≤ k → PureC Tryz.prog ann 185 [] (.bool true)
  h154 : 4 ≤ k → PureC Tryz.prog ann 154 [] (.bool true)
  h93 : 5 ≤ k → PureC Tryz.prog ann 93 [] (.bool true)
  h33 : 6 ≤ k → PureC Tryz.prog ann 33 [] (.bool true)
  h14 : 7 ≤ k → PureC Tryz.prog ann 14 [] (.bool true)
theorem fm92 (k : Nat) (h : 1 ≤ k → PureC Tryz.prog ann 92 [] (.bool true)) : F2ok Tryz.prog ann 92 (M92 k) := by
  have h0 : F2ok Tryz.prog ann 92 (.pur H92 true mNo) := fe2_of fe92
  unfold M92
  cases hb : Nat.ble 1 k with
  | true => exact fe2_memo h0 (h (Nat.le_of_ble_eq_true hb))
  | false => exact h0
theorem fm32 (k : Nat) (h : 2 ≤ k → PureC Tryz.prog ann 32 [] (.bool true)) : F2ok Tryz.prog ann 32 (M32 k) := by
  have h0 : F2ok Tryz.prog ann 32 (.pur H32 true mNo) := fe2_of fe32
  unfold M32
  cases hb : Nat.ble 2 k with
  | true => exact fe2_memo h0 (h (Nat.le_of_ble_eq_true hb))
  | false => exact h0
theorem fm185 (k : Nat) (h : 3 ≤ k → PureC Tryz.prog ann 185 [] (.bool true)) : F2ok Tryz.prog ann 185 (M185 k) := by
  have h0 : F2ok Tryz.prog ann 185 (.pur H185 true mNo) := fe2_of fe185
  unfold M185
  cases hb : Nat.ble 3 k with
  | true => exact fe2_memo h0 (h (Nat.le_of_ble_eq_true hb))
  | false => exact h0
theorem fm154 (k : Nat) (h : 4 ≤ k → PureC Tryz.prog ann 154 [] (.bool true)) : F2ok Tryz.prog ann 154 (M154 k) := by
  have h0 : F2ok Tryz.prog ann 154 (.pur H154 true mNo) := fe2_of fe154
  unfold M154
  cases hb : Nat.ble 4 k with
  | true => exact fe2_memo h0 (h (Nat.le_of_ble_eq_true hb))
  | false => exact h0
theorem fm93 (k : Nat) (h : 5 ≤ k → PureC Tryz.prog ann 93 [] (.bool true)) : F2ok Tryz.prog ann 93 (M93 k) := by
  have h0 : F2ok Tryz.prog ann 93 (.pur H93 true mNo) := fe2_of fe93
  unfold M93
  cases hb : Nat.ble 5 k with
  | true => exact fe2_memo h0 (h (Nat.le_of_ble_eq_true hb))
  | false => exact h0
theorem fm33 (k : Nat) (h : 6 ≤ k → PureC Tryz.prog ann 33 [] (.bool true)) : F2ok Tryz.prog ann 33 (M33 k) := by
  have h0 : F2ok Tryz.prog ann 33 (.pur H33 true mNo) := fe2_of fe33
  unfold M33
  cases hb : Nat.ble 6 k with
  | true => exact fe2_memo h0 (h (Nat.le_of_ble_eq_true hb))
  | false => exact h0
theorem fm14 (k : Nat) (h : 7 ≤ k → PureC Tryz.prog ann 14 [] (.bool true)) : F2ok Tryz.prog ann 14 (M14 k) := by
  have h0 : F2ok Tryz.prog ann 14 (.pur H14 true mNo) := fe2_of fe14
  unfold M14
  cases hb : Nat.ble 7 k with
  | true => exact fe2_memo h0 (h (Nat.le_of_ble_eq_true hb))
  | false => exact h0
def tbN : N8 (Option F2) := ⟨none, none, none, none, none, none, none, none⟩
def tbNN : N8 (N8 (Option F2)) := ⟨tbN, tbN, tbN, tbN, tbN, tbN, tbN, tbN⟩
def tbNNN : N8 (N8 (N8 (Option F2))) := ⟨tbNN, tbNN, tbNN, tbNN, tbNN, tbNN, tbNN, tbNN⟩
theorem zN (b : Nat) : Lf Tryz.prog ann b tbN := ⟨trivial, trivial, trivial, trivial, trivial, trivial, trivial, trivial⟩
theorem zNN (b : Nat) : Lg Tryz.prog ann b tbNN := ⟨zN _, zN _, zN _, zN _, zN _, zN _, zN _, zN _⟩
theorem zNNN (b : Nat) : Lh Tryz.prog ann b tbNNN := ⟨zNN _, zNN _, zNN _, zNN _, zNN _, zNN _, zNN _, zNN _⟩
def tb0_0_1 (_k : Nat) : N8 (Option F2) := ⟨none, none, none, none, none, none, some (M14 _k), none⟩
theorem l0_0_1 (_k : Nat) (_h : Hy _k) : Lf Tryz.prog ann 8 (tb0_0_1 _k) := ⟨trivial, trivial, trivial, trivial, trivial, trivial, (fm14 _k _h.h14), trivial⟩
def tb0_0_2 (_k : Nat) : N8 (Option F2) := ⟨some F16, some F17, some F18, some F19, none, none, none, none⟩
theorem l0_0_2 (_k : Nat) (_h : Hy _k) : Lf Tryz.prog ann 16 (tb0_0_2 _k) := ⟨(fe2_of fe16), (fe2_of fe17), (fe2_of fe18), (fe2_of fe19), trivial, trivial, trivial, trivial⟩
def tb0_0_3 (_k : Nat) : N8 (Option F2) := ⟨none, none, none, some F27, none, none, none, none⟩
theorem l0_0_3 (_k : Nat) (_h : Hy _k) : Lf Tryz.prog ann 24 (tb0_0_3 _k) := ⟨trivial, trivial, trivial, (fe2_of fe27), trivial, trivial, trivial, trivial⟩
def tb0_0_4 (_k : Nat) : N8 (Option F2) := ⟨some (M32 _k), some (M33 _k), none, none, some F36, some F37, some F38, some F39⟩
theorem l0_0_4 (_k : Nat) (_h : Hy _k) : Lf Tryz.prog ann 32 (tb0_0_4 _k) := ⟨(fm32 _k _h.h32), (fm33 _k _h.h33), trivial, trivial, (fe2_of fe36), (fe2_of fe37), (fe2_of fe38), (fe2_of fe39)⟩
def tb0_0_5 (_k : Nat) : N8 (Option F2) := ⟨some F40, some F41, some F42, some F43, some F44, some F45, some F46, some F47⟩
theorem l0_0_5 (_k : Nat) (_h : Hy _k) : Lf Tryz.prog ann 40 (tb0_0_5 _k) := ⟨(fe2_of fe40), (fe2_of fe41), (fe2_of fe42), (fe2_of fe43), (fe2_of fe44), (fe2_of fe45), (fe2_of fe46), (fe2_of fe47)⟩
def tb0_0_6 (_k : Nat) : N8 (Option F2) := ⟨some F48, some F49, some F50, some F51, some F52, some F53, some F54, some F55⟩
theorem l0_0_6 (_k : Nat) (_h : Hy _k) : Lf Tryz.prog ann 48 (tb0_0_6 _k) := ⟨(fe2_of fe48), (fe2_of fe49), (fe2_of fe50), (fe2_of fe51), (fe2_of fe52), (fe2_of fe53), (fe2_of fe54), (fe2_of fe55)⟩
def tb0_0_7 (_k : Nat) : N8 (Option F2) := ⟨some F56, some F57, some F58, some F59, some F60, some F61, some F62, some F63⟩
theorem l0_0_7 (_k : Nat) (_h : Hy _k) : Lf Tryz.prog ann 56 (tb0_0_7 _k) := ⟨(fe2_of fe56), (fe2_of fe57), (fe2_of fe58), (fe2_of fe59), (fe2_of fe60), (fe2_of fe61), (fe2_of fe62), (fe2_of fe63)⟩
def tb0_0 (_k : Nat) : N8 (N8 (Option F2)) := ⟨tbN, tb0_0_1 _k, tb0_0_2 _k, tb0_0_3 _k, tb0_0_4 _k, tb0_0_5 _k, tb0_0_6 _k, tb0_0_7 _k⟩
theorem l0_0 (_k : Nat) (_h : Hy _k) : Lg Tryz.prog ann 0 (tb0_0 _k) := ⟨zN _, l0_0_1 _k _h, l0_0_2 _k _h, l0_0_3 _k _h, l0_0_4 _k _h, l0_0_5 _k _h, l0_0_6 _k _h, l0_0_7 _k _h⟩
def tb0_1_0 (_k : Nat) : N8 (Option F2) := ⟨some F64, some F65, some F66, some F67, some F68, some F69, some F70, some F71⟩
theorem l0_1_0 (_k : Nat) (_h : Hy _k) : Lf Tryz.prog ann 64 (tb0_1_0 _k) := ⟨(fe2_of fe64), (fe2_of fe65), (fe2_of fe66), (fe2_of fe67), (fe2_of fe68), (fe2_of fe69), (fe2_of fe70), (fe2_of fe71)⟩
def tb0_1_1 (_k : Nat) : N8 (Option F2) := ⟨some F72, some F73, none, none, none, none, none, none⟩
theorem l0_1_1 (_k : Nat) (_h : Hy _k) : Lf Tryz.prog ann 72 (tb0_1_1 _k) := ⟨(fe2_of fe72), (fe2_of fe73), trivial, trivial, trivial, trivial, trivial, trivial⟩
def tb0_1_3 (_k : Nat) : N8 (Option F2) := ⟨none, none, none, none, some (M92 _k), some (M93 _k), some F94, some F95⟩
theorem l0_1_3 (_k : Nat) (_h : Hy _k) : Lf Tryz.prog ann 88 (tb0_1_3 _k) := ⟨trivial, trivial, trivial, trivial, (fm92 _k _h.h92), (fm93 _k _h.h93), (fe2_of fe94), (fe2_of fe95)⟩
def tb0_1_4 (_k : Nat) : N8 (Option F2) := ⟨some F96, none, some F98, some F99, some F100, none, some F102, some F103⟩
theorem l0_1_4 (_k : Nat) (_h : Hy _k) : Lf Tryz.prog ann 96 (tb0_1_4 _k) := ⟨(fe2_of fe96), trivial, (fe2_of fe98), (fe2_of fe99), (fe2_of fe100), trivial, (fe2_of fe102), (fe2_of fe103)⟩
def tb0_1_5 (_k : Nat) : N8 (Option F2) := ⟨some F104, some F105, none, some F107, some F108, some F109, none, some F111⟩
theorem l0_1_5 (_k : Nat) (_h : Hy _k) : Lf Tryz.prog ann 104 (tb0_1_5 _k) := ⟨(fe2_of fe104), (fe2_of fe105), trivial, (fe2_of fe107), (fe2_of fe108), (fe2_of fe109), trivial, (fe2_of fe111)⟩
def tb0_1_6 (_k : Nat) : N8 (Option F2) := ⟨some F112, some F113, some F114, none, none, none, none, none⟩
theorem l0_1_6 (_k : Nat) (_h : Hy _k) : Lf Tryz.prog ann 112 (tb0_1_6 _k) := ⟨(fe2_of fe112), (fe2_of fe113), (fe2_of fe114), trivial, trivial, trivial, trivial, trivial⟩
def tb0_1_7 (_k : Nat) : N8 (Option F2) := ⟨none, none, none, none, none, none, some F126, none⟩
theorem l0_1_7 (_k : Nat) (_h : Hy _k) : Lf Tryz.prog ann 120 (tb0_1_7 _k) := ⟨trivial, trivial, trivial, trivial, trivial, trivial, (fe2_of fe126), trivial⟩
def tb0_1 (_k : Nat) : N8 (N8 (Option F2)) := ⟨tb0_1_0 _k, tb0_1_1 _k, tbN, tb0_1_3 _k, tb0_1_4 _k, tb0_1_5 _k, tb0_1_6 _k, tb0_1_7 _k⟩
theorem l0_1 (_k : Nat) (_h : Hy _k) : Lg Tryz.prog ann 64 (tb0_1 _k) := ⟨l0_1_0 _k _h, l0_1_1 _k _h, zN _, l0_1_3 _k _h, l0_1_4 _k _h, l0_1_5 _k _h, l0_1_6 _k _h, l0_1_7 _k _h⟩
def tb0_2_0 (_k : Nat) : N8 (Option F2) := ⟨none, none, none, none, some F132, none, some F134, some F135⟩
theorem l0_2_0 (_k : Nat) (_h : Hy _k) : Lf Tryz.prog ann 128 (tb0_2_0 _k) := ⟨trivial, trivial, trivial, trivial, (fe2_of fe132), trivial, (fe2_of fe134), (fe2_of fe135)⟩
def tb0_2_1 (_k : Nat) : N8 (Option F2) := ⟨some F136, some F137, none, none, none, none, none, none⟩
theorem l0_2_1 (_k : Nat) (_h : Hy _k) : Lf Tryz.prog ann 136 (tb0_2_1 _k) := ⟨(fe2_of fe136), (fe2_of fe137), trivial, trivial, trivial, trivial, trivial, trivial⟩
def tb0_2_2 (_k : Nat) : N8 (Option F2) := ⟨none, some F145, some F146, some F147, some F148, some F149, some F150, some F151⟩
theorem l0_2_2 (_k : Nat) (_h : Hy _k) : Lf Tryz.prog ann 144 (tb0_2_2 _k) := ⟨trivial, (fe2_of fe145), (fe2_of fe146), (fe2_of fe147), (fe2_of fe148), (fe2_of fe149), (fe2_of fe150), (fe2_of fe151)⟩
def tb0_2_3 (_k : Nat) : N8 (Option F2) := ⟨some F152, some F153, some (M154 _k), some F155, some F156, some F157, some F158, none⟩
theorem l0_2_3 (_k : Nat) (_h : Hy _k) : Lf Tryz.prog ann 152 (tb0_2_3 _k) := ⟨(fe2_of fe152), (fe2_of fe153), (fm154 _k _h.h154), (fe2_of fe155), (fe2_of fe156), (fe2_of fe157), (fe2_of fe158), trivial⟩
def tb0_2_5 (_k : Nat) : N8 (Option F2) := ⟨none, none, some F170, none, none, some F173, some F174, some F175⟩
theorem l0_2_5 (_k : Nat) (_h : Hy _k) : Lf Tryz.prog ann 168 (tb0_2_5 _k) := ⟨trivial, trivial, (fe2_of fe170), trivial, trivial, (fe2_of fe173), (fe2_of fe174), (fe2_of fe175)⟩
def tb0_2_6 (_k : Nat) : N8 (Option F2) := ⟨some F176, some F177, none, some F179, some F180, some F181, some F182, some F183⟩
theorem l0_2_6 (_k : Nat) (_h : Hy _k) : Lf Tryz.prog ann 176 (tb0_2_6 _k) := ⟨(fe2_of fe176), (fe2_of fe177), trivial, (fe2_of fe179), (fe2_of fe180), (fe2_of fe181), (fe2_of fe182), (fe2_of fe183)⟩
def tb0_2_7 (_k : Nat) : N8 (Option F2) := ⟨some F184, some (M185 _k), some F186, none, none, none, none, some F191⟩
theorem l0_2_7 (_k : Nat) (_h : Hy _k) : Lf Tryz.prog ann 184 (tb0_2_7 _k) := ⟨(fe2_of fe184), (fm185 _k _h.h185), (fe2_of fe186), trivial, trivial, trivial, trivial, (fe2_of fe191)⟩
def tb0_2 (_k : Nat) : N8 (N8 (Option F2)) := ⟨tb0_2_0 _k, tb0_2_1 _k, tb0_2_2 _k, tb0_2_3 _k, tbN, tb0_2_5 _k, tb0_2_6 _k, tb0_2_7 _k⟩
theorem l0_2 (_k : Nat) (_h : Hy _k) : Lg Tryz.prog ann 128 (tb0_2 _k) := ⟨l0_2_0 _k _h, l0_2_1 _k _h, l0_2_2 _k _h, l0_2_3 _k _h, zN _, l0_2_5 _k _h, l0_2_6 _k _h, l0_2_7 _k _h⟩
def tb0_3_0 (_k : Nat) : N8 (Option F2) := ⟨some F192, some F193, some F194, some F195, some F196, some F197, some F198, some F199⟩
theorem l0_3_0 (_k : Nat) (_h : Hy _k) : Lf Tryz.prog ann 192 (tb0_3_0 _k) := ⟨(fe2_of fe192), (fe2_of fe193), (fe2_of fe194), (fe2_of fe195), (fe2_of fe196), (fe2_of fe197), (fe2_of fe198), (fe2_of fe199)⟩
def tb0_3_1 (_k : Nat) : N8 (Option F2) := ⟨some F200, some F201, some F202, some F203, some F204, some F205, none, none⟩
theorem l0_3_1 (_k : Nat) (_h : Hy _k) : Lf Tryz.prog ann 200 (tb0_3_1 _k) := ⟨(fe2_of fe200), (fe2_of fe201), (fe2_of fe202), (fe2_of fe203), (fe2_of fe204), (fe2_of fe205), trivial, trivial⟩
def tb0_3 (_k : Nat) : N8 (N8 (Option F2)) := ⟨tb0_3_0 _k, tb0_3_1 _k, tbN, tbN, tbN, tbN, tbN, tbN⟩
theorem l0_3 (_k : Nat) (_h : Hy _k) : Lg Tryz.prog ann 192 (tb0_3 _k) := ⟨l0_3_0 _k _h, l0_3_1 _k _h, zN _, zN _, zN _, zN _, zN _, zN _⟩
def tb0 (_k : Nat) : N8 (N8 (N8 (Option F2))) := ⟨tb0_0 _k, tb0_1 _k, tb0_2 _k, tb0_3 _k, tbNN, tbNN, tbNN, tbNN⟩
theorem l0 (_k : Nat) (_h : Hy _k) : Lh Tryz.prog ann 0 (tb0 _k) := ⟨l0_0 _k _h, l0_1 _k _h, l0_2 _k _h, l0_3 _k _h, zNN _, zNN _, zNN _, zNN _⟩
def tb (_k : Nat) : TB2 := ⟨tb0 _k, tbNNN, tbNNN, tbNNN, tbNNN, tbNNN, tbNNN, tbNNN⟩
theorem tbok (_k : Nat) (_h : Hy _k) : TBok2 Tryz.prog ann (tb _k) := tb2_ok ⟨l0 _k _h, zNNN _, zNNN _, zNNN _, zNNN _, zNNN _, zNNN _, zNNN _⟩
end
end Go.Proofs.SlimCode
end
section
open Go Go.Abs
namespace Go.Proofs.SlimCode
set_option maxRecDepth 100000
theorem tk0 : TBok2 Tryz.prog ann (tb 0) := tbok 0 ⟨fun h => absurd h (by decide), fun h => absurd h (by decide), fun h => absurd h (by decide), fun h => absurd h (by decide), fun h => absurd h (by decide), fun h => absurd h (by decide), fun h => absurd h (by decide)⟩
theorem run92 : runE 5000 (tb 0) 92 [] = some (.bool true) := by kernel_rfl
theorem p92 : PureC Tryz.prog ann 92 [] (.bool true) := runE_pure tk0 (by kernel_rfl) (by kernel_rfl) run92
theorem tk1 : TBok2 Tryz.prog ann (tb 1) := tbok 1 ⟨fun _ => p92, fun h => absurd h (by decide), fun h => absurd h (by decide), fun h => absurd h (by decide), fun h => absurd h (by decide), fun h => absurd h (by decide), fun h => absurd h (by decide)⟩
theorem run32 : runE 5000 (tb 1) 32 [] = some (.bool true) := by kernel_rfl
theorem p32 : PureC Tryz.prog ann 32 [] (.bool true) := runE_pure tk1 (by kernel_rfl) (by kernel_rfl) run32
theorem tk2 : TBok2 Tryz.prog ann (tb 2) := tbok 2 ⟨fun _ => p92, fun _ => p32, fun h => absurd h (by decide), fun h => absurd h (by decide), fun h => absurd h (by decide), fun h => absurd h (by decide), fun h => absurd h (by decide)⟩
theorem run185 : runE 5000 (tb 2) 185 [] = some (.bool true) := by kernel_rfl
theorem p185 : PureC Tryz.prog ann 185 [] (.bool true) := runE_pure tk2 (by kernel_rfl) (by kernel_rfl) run185
theorem tk3 : TBok2 Tryz.prog ann (tb 3) := tbok 3 ⟨fun _ => p92, fun _ => p32, fun _ => p185, fun h => absurd h (by decide), fun h => absurd h (by decide), fun h => absurd h (by decide), fun h => absurd h (by decide)⟩
theorem run154 : runE 5000 (tb 3) 154 [] = some (.bool true) := by kernel_rfl
theorem p154 : PureC Tryz.prog ann 154 [] (.bool true) := runE_pure tk3 (by kernel_rfl) (by kernel_rfl) run154
theorem tk4 : TBok2 Tryz.prog ann (tb 4) := tbok 4 ⟨fun _ => p92, fun _ => p32, fun _ => p185, fun _ => p154, fun h => absurd h (by decide), fun h => absurd h (by decide), fun h => absurd h (by decide)⟩
theorem run93 : runE 5000 (tb 4) 93 [] = some (.bool true) := by kernel_rfl
theorem p93 : PureC Tryz.prog ann 93 [] (.bool true) := runE_pure tk4 (by kernel_rfl) (by kernel_rfl) run93
theorem tk5 : TBok2 Tryz.prog ann (tb 5) := tbok 5 ⟨fun _ => p92, fun _ => p32, fun _ => p185, fun _ => p154, fun _ => p93, fun h => absurd h (by decide), fun h => absurd h (by decide)⟩
theorem run33 : runE 5000 (tb 5) 33 [] = some (.bool true) := by kernel_rfl
theorem p33 : PureC Tryz.prog ann 33 [] (.bool true) := runE_pure tk5 (by kernel_rfl) (by kernel_rfl) run33
theorem tk6 : TBok2 Tryz.prog ann (tb 6) := tbok 6 ⟨fun _ => p92, fun _ => p32, fun _ => p185, fun _ => p154, fun _ => p93, fun _ => p33, fun h => absurd h (by decide)⟩
theorem run14 : runE 5000 (tb 6) 14 [] = some (.bool true) := by kernel_rfl
theorem p14 : PureC Tryz.prog ann 14 [] (.bool true) := runE_pure tk6 (by kernel_rfl) (by kernel_rfl) run14
end Go.Proofs.SlimCode
end
