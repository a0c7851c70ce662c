/- Code for the evaluator, part 1. -/
import Derived.Test.YtinkmbejinemaaaGreatChecked
import Derived.Test.YtinkmbejinemaaaGreatAbsXc
import Derived.KernelRfl
open Go Go.Abs
namespace Go.Proofs.SlimCode
set_option maxRecDepth 100000
noncomputable section
def roL : List (List Nat) := [[], [], [], [], [65], [27, 28, 85, 91, 105, 110], [70, 75], [25, 37, 43], [26], [], [], [65, 70], [3], [32], [], [], [3], [], [], [], [], [], [], [13, 27], [], [79], [], [], [119, 152], [], [20], [], [], [], [], [], [2], [], [], [], [], [52, 62], [], [], [], [], [], [], [16, 23], [], [], [1], [], [], [3, 57], [3], [3], [39], [], [11], [1], [], [], [], [], [], [], [], [43], [3, 20, 28, 39, 45], [], [], [], [], [], [], [], [], [], [2], [], [2], [], [], [3], [], [], [3], [], [], [], [1], [1], [], [], [], [1], [2], [1], [], [], [], [], [], [], [2], [], [3], [], [2], [], [3], [3], [2], [2, 3], [35, 50], [2], [3], [], [], [], [], [], [], [], [3], [], [10], [], [3, 75, 88, 68], [3, 66], [43, 18], [3, 20, 42, 68, 75, 80, 13], [3, 35, 7], [], [5], [], [], [2], [5], [], [], [3, 18], [], [], [3], [], [], [], [3], [], [], [1], [], [1], [1], [1], [], [], [], [], [], [], [], [], [2], [], [2], [], [], [], [], [], [], [], [], [], [3], [1], [], [], [], [], [2], [1], [], [2], [], [], [1], [], [], [], [], [], [57, 58, 64], [], [], [], [], [], [], [], [], [], [], [], [], [], [], [], [], [], [], [], [], [], [], [], [], [], [], [], [], [], [], [], [13, 49, 55], [], [], [1], [], [], [2, 3], [24], [], [], [], [3], [], [3], [19, 26], [], [], [23], [], [], [], [23], [], [23], [], [], [], [2, 3], [], [], [3], [], [3], [], [3], [], [], [], [23], [], [23], [], [23], [], [], [2, 3], [2, 3], [], [18, 19, 30], [], [], [2, 3], [3], [], [], [], [2, 3], [], [], [], [], [], [], [], [], [], [], [], [], [], [], [], [], [], [], [], [], [], [], [], [], [], [], [], [], [], [10], []]
def escL : List (List Nat) := [[], [], [], [], [], [], [], [], [], [], [], [], [], [], [], [], [], [], [], [], [], [], [], [], [], [21], [], [], [], [], [], [], [], [], [], [], [], [], [], [], [], [20], [], [], [], [], [], [], [], [], [], [], [], [], [], [2], [], [], [], [], [], [], [], [], [], [], [], [], [], [], [], [], [], [], [], [], [], [], [], [], [], [], [3], [], [], [], [], [], [], [], [], [], [], [], [], [], [], [], [], [], [], [], [], [], [], [], [], [], [], [], [], [], [], [], [], [], [], [], [], [], [], [], [], [], [], [], [], [], [], [], [], [], [], [], [], [], [], [], [], [], [], [], [], [], [], [], [], [], [], [], [], [], [], [], [], [], [], [], [], [], [], [], [], [], [], [], [], [], [], [], [], [], [], [], [], [], [], [], [], [], [], [], [], [], [], [], [], [], [], [], [], [], [], [], [], [], [], [], [], [], [], [], [], [], [], [], [], [], [], [], [], [], [], [], [], [], [], [], [], [], [], [], [], [], [], [], [], [], [], [], [], [], [], [], [], [], [], [], [], [], [], [], [], [], [], [], [], [], [], [], [], [], [], [], [], [], [], [], [], [], [], [], [], [], [], [], [], [], [], [], [], [], [], [], [], [], [], [], [], [], [], [], [], [], [], [], [], [], [], [], [], [], [], [], [], [], [], [], [], [], [], [], [], [], [], [], [], [], [], [], [], [], [], [], []]
def inL (l : List (List Nat)) (f d : Nat) : Bool := (l.getD f []).contains d
def purL : List Nat := [7, 11, 18, 19, 24, 45, 46, 88, 144, 179, 195, 214, 224, 226, 227, 228, 229, 232, 253, 271, 275, 281, 292]
def extL : List (Nat × EK) := [(212, .idx)]
def gl (_ : Nat) : List AV := []
def ann : Ann := { esc := inL escL, fz := fun _ => false, ro := inL roL, still := fun _ => true, pure := fun f => purL.contains f, glob := fun _ => none, ext := extL }
/- daguerre/daguerrelaw19.ReachNone -/
def H3 : F2C := fun c _ v s K =>
endE v (
c (.mk .d0 .d0 .d0 .d7) [] s fun x0 s =>
gK x0 true (.nil .ptr) fun x1 =>
gH x0 true (c (.mk .d0 .d0 .d1 .d0) [x1]) s fun x2 s =>
gV x0 true (vLenS x2) fun x3 =>
gV x0 true (bEqF x3 (ci 0)) fun x4 =>
vPick x0 x4 cf fun x5 =>
gK x5 true (.nil .ptr) fun x6 =>
gH x5 true (c (.mk .d0 .d0 .d1 .d1) [x6]) s fun x7 s =>
gV x5 true (vLenS x7) fun x8 =>
gV x5 true (bEqF x8 (ci 0)) fun x9 =>
vPick x5 x9 cf fun x10 =>
gK x10 true (.nil .ptr) fun x11 =>
gH x10 true (c (.mk .d0 .d0 .d1 .d2) [x11]) s fun x12 s =>
gV x10 true (vLenS x12) fun x13 =>
gV x10 true (bEqF x13 (ci 0)) fun x14 =>
vPick x10 x14 cf fun x15 =>
K x15 s)
def F3 : F2 := .fn H3 true
theorem fe3 : feE Tryz.prog ann 3 0 [] = some F3 := by kernel_rfl
/- daguerre/daguerrelaw20.EffectRing -/
def H4 : F2C := fun c k v s K =>
pop v fun x0 v =>
pop v fun x1 v =>
endE v (
c (.mk .d0 .d0 .d1 .d3) [] s fun x2 s =>
vGen (.un .not (.c x2)) fun x3 =>
cnd x3 (none)
(bLt x0 (ci 2) fun x4 =>
gK x4 false x0 fun x5 =>
gV x4 false (bGt x5 (ci 8)) fun x6 =>
vPick x4 ct x6 fun x7 =>
cnd x7 (K ct s)
(jn (fun v s =>
pop v fun x9 _ =>
vBld [.str [], .str []] (eCons 0 1 (.str [67, 97]) (eCons 1 1 (.str [109, 97, 105, 110]) eNil)) fun x10 =>
c (.mk .d0 .d0 .d1 .d4) [x9, x10] s fun x11 s =>
vExt x11 0 fun x12 =>
vExt x11 1 fun x13 =>
bEqT x13 (ci 0) fun x14 =>
cnd x14 (none)
(c (.mk .d0 .d0 .d1 .d5) [x12] s fun x15 s =>
vLenS x15 fun x16 =>
gK x1 true x16 fun x17 =>
gV x1 true (bEqF x17 (ci 10)) fun x18 =>
vPick x1 x18 cf fun x19 =>
gK x19 false x1 fun x20 =>
gV x19 false (vGen (.un .not (.c x20))) fun x21 =>
gK x19 false x21 fun x22 =>
gK x22 true x16 fun x23 =>
gK x22 true x0 fun x24 =>
gV x22 true (bAdd (ci 10) x24) fun x25 =>
gV x22 true (bEqF x23 x25) fun x26 =>
gV x19 false (vPick x22 x26 cf) fun x27 =>
vPick x19 ct x27 fun x28 =>
K x28 s)) fun K8 =>
loopE k (fun K29 v s =>
pop v fun x30 v =>
pop v fun x31 _ =>
bLt x30 x0 fun x32 =>
cnd x32 (jn (fun v s =>
pop v fun x34 _ =>
bAdd x30 (ci 1) fun x35 =>
K29 [x35, x34] s) fun K33 =>
bAdd (ci 97) x30 fun x36 =>
vCv .u8 x36 fun x37 =>
zHbs [.int .u8 0, .int .u8 0] 1 2 (eCons 0 1 (cu 67) (eCons 1 1 x37 eNil)) s fun x38 s =>
b2sA x38 s fun x39 s =>
vBld [.str [], .str [], .bool false, .nil .sl, .nil .sl, .nil .sl] (eCons 0 1 x39 (eCons 1 1 (.str [79, 98, 106, 101, 99, 116]) eNil)) fun x40 =>
boxD false [.str [], .str [], .bool false, .nil .sl, .nil .sl, .nil .sl] s fun x41 s =>
zSt x41 x40 6 s fun _ s =>
bSub x30 (ci 1) fun x43 =>
bEqF x30 (ci 0) fun x44 =>
gK x44 true x1 fun x45 =>
vPick x44 x45 cf fun x46 =>
jn (fun v s =>
pop v fun x48 _ =>
vBld [.int .i64 0, .int .i64 0, .str [], .str []] (eCons 0 1 (ci 46) eNil) fun x49 =>
zHbs [.int .i64 0, .int .i64 0, .str [], .str []] 4 1 (eCons 0 4 x49 eNil) s fun x50 s =>
bGe x48 (ci 0) fun x51 =>
jn (fun v s =>
pop v fun x53 _ =>
vBld [.str [], .nil .sl, .str [], .bool false, .bool false, .int .i64 0, .int .i64 0, .nil .sl, .nil .sl, .nil .sl] (eCons 0 1 (.str [36, 105, 110, 105, 116]) (eCons 2 1 (.str [86]) (eCons 3 1 ct (eCons 6 1 (ci 1) (eCons 7 1 x53 eNil))))) fun x54 =>
vBld [.int .i64 0, .int .i64 0, .str [], .str []] (eCons 0 1 (ci 46) eNil) fun x55 =>
zHbs [.int .i64 0, .int .i64 0, .str [], .str []] 4 1 (eCons 0 4 x55 eNil) s fun x56 s =>
vBld [.str [], .nil .sl, .str [], .bool false, .bool false, .int .i64 0, .int .i64 0, .nil .sl, .nil .sl, .nil .sl] (eCons 0 1 (.str [109, 97, 105, 110]) (eCons 2 1 (.str [86]) (eCons 3 1 ct (eCons 7 1 x56 eNil)))) fun x57 =>
zHbs [.str [], .nil .sl, .str [], .bool false, .bool false, .int .i64 0, .int .i64 0, .nil .sl, .nil .sl, .nil .sl, .str [], .nil .sl, .str [], .bool false, .bool false, .int .i64 0, .int .i64 0, .nil .sl, .nil .sl, .nil .sl] 10 2 (eCons 0 10 x54 (eCons 10 10 x57 eNil)) s fun x58 s =>
fa1 x41 5 fun x59 =>
zSt x59 x58 1 s fun _ s =>
ldA x41 (takeN 6) s fun x61 s =>
zBsl [.str [], .str [], .bool false, .nil .sl, .nil .sl, .nil .sl] 6 1 (eCons 0 6 x61 eNil) s fun x62 s =>
appB 6 112 x31 x62 s fun x63 s =>
K33 [x63] s) fun K52 =>
cnd x51 (bAdd (ci 97) x48 fun x64 =>
vCv .u8 x64 fun x65 =>
zHbs [.int .u8 0, .int .u8 0] 1 2 (eCons 0 1 (cu 67) (eCons 1 1 x65 eNil)) s fun x66 s =>
b2sA x66 s fun x67 s =>
vBld [.int .i64 0, .int .i64 0, .str [], .str []] (eCons 0 1 (ci 37) (eCons 2 1 x67 eNil)) fun x68 =>
vBld [.int .i64 0, .int .i64 0, .str [], .str []] (eCons 0 1 (ci 5) eNil) fun x69 =>
vBld [.int .i64 0, .int .i64 0, .str [], .str []] (eCons 0 1 (ci 46) eNil) fun x70 =>
zHbs [.int .i64 0, .int .i64 0, .str [], .str [], .int .i64 0, .int .i64 0, .str [], .str [], .int .i64 0, .int .i64 0, .str [], .str []] 4 3 (eCons 0 4 x68 (eCons 4 4 x69 (eCons 8 4 x70 eNil))) s fun x71 s =>
K52 [x71] s)
(K52 [x50] s)) fun K47 =>
cnd x46 (bSub x0 (ci 1) fun x72 =>
K47 [x72] s)
(K47 [x43] s))
(K8 [x31] s)) [(ci 0), (.nil .sl)] s)))
def F4 : F2 := .fn H4 true
theorem fe4 : feE Tryz.prog ann 4 2 [.cl, .j [], .j [6], .j [7, 6], .j [], .j [6], .j [9], .j [10], .cl] = some F4 := by kernel_rfl
/- daguerre/daguerrelaw20.EffectWorld -/
def H5 : F2C := fun c k v s K =>
pop v fun x0 v =>
pop v fun x1 v =>
pop v fun x2 v =>
endE v (
c (.mk .d0 .d0 .d1 .d3) [] s fun x3 s =>
vGen (.un .not (.c x3)) fun x4 =>
cnd x4 (none)
(vBld [.int .i64 0, .int .i64 0, .str [], .str []] (eCons 0 1 (ci 59) eNil) fun x5 =>
vBld [.int .i64 0, .int .i64 0, .str [], .str []] (eCons 0 1 (ci 1) (eCons 1 1 (ci 1) eNil)) fun x6 =>
vBld [.int .i64 0, .int .i64 0, .str [], .str []] (eCons 0 1 (ci 1) (eCons 1 1 (ci 2) eNil)) fun x7 =>
zBsl [.int .i64 0, .int .i64 0, .str [], .str [], .int .i64 0, .int .i64 0, .str [], .str [], .int .i64 0, .int .i64 0, .str [], .str []] 4 3 (eCons 0 4 x5 (eCons 4 4 x6 (eCons 8 4 x7 eNil))) s fun x8 s =>
zBsl [.int .i64 0, .int .i64 0, .int .i64 0] 1 3 (eCons 0 1 (ci 5) (eCons 1 1 (ci 60) (eCons 2 1 (ci 61) eNil))) s fun x9 s =>
c .rem [x1, (ci 3), (ci 29)] s fun x10 s =>
bAdd x10 (ci 3) fun x11 =>
c .rem [x11, (ci 3), (ci 31)] s fun x12 s =>
c .rem [x0, (ci 6), (ci 33)] s fun x13 s =>
bAdd x13 (ci 6) fun x14 =>
c .rem [x14, (ci 6), (ci 35)] s fun x15 s =>
bAdd (ci 1) x15 fun x16 =>
vBld [.str [], .str [], .bool false, .nil .sl, .nil .sl, .nil .sl] (eCons 0 1 (.str [65, 97]) (eCons 1 1 (.str [79, 98, 106, 101, 99, 116]) eNil)) fun x17 =>
boxD false [.str [], .str [], .bool false, .nil .sl, .nil .sl, .nil .sl] s fun x18 s =>
zSt x18 x17 6 s fun _ s =>
jn (fun _ s =>
vBld [.int .i64 0, .int .i64 0, .str [], .str []] (eCons 0 1 (ci 46) eNil) fun x21 =>
zHbs [.int .i64 0, .int .i64 0, .str [], .str []] 4 1 (eCons 0 4 x21 eNil) s fun x22 s =>
vBld [.str [], .nil .sl, .str [], .bool false, .bool false, .int .i64 0, .int .i64 0, .nil .sl, .nil .sl, .nil .sl] (eCons 0 1 (.str [36, 105, 110, 105, 116]) (eCons 2 1 (.str [86]) (eCons 3 1 ct (eCons 7 1 x22 eNil)))) fun x23 =>
boxD false [.str [], .nil .sl, .str [], .bool false, .bool false, .int .i64 0, .int .i64 0, .nil .sl, .nil .sl, .nil .sl] s fun x24 s =>
zSt x24 x23 10 s fun _ s =>
jn (fun _ s =>
fa1 x18 5 fun x27 =>
ldA x27 take1 s fun x28 s =>
ldA x24 (takeN 10) s fun x29 s =>
zBsl [.str [], .nil .sl, .str [], .bool false, .bool false, .int .i64 0, .int .i64 0, .nil .sl, .nil .sl, .nil .sl] 10 1 (eCons 0 10 x29 eNil) s fun x30 s =>
appB 10 152 x28 x30 s fun x31 s =>
fa1 x18 5 fun x32 =>
zSt x32 x31 1 s fun _ s =>
ldA x18 (takeN 6) s fun x34 s =>
zBsl [.str [], .str [], .bool false, .nil .sl, .nil .sl, .nil .sl] 6 1 (eCons 0 6 x34 eNil) s fun x35 s =>
vBld [.str [], .str []] (eCons 0 1 (.str [65, 97]) (eCons 1 1 (.str [109, 48]) eNil)) fun x36 =>
c (.mk .d0 .d0 .d1 .d4) [x35, x36] s fun x37 s =>
vExt x37 0 fun x38 =>
vExt x37 1 fun x39 =>
bEqT x39 (ci 0) fun x40 =>
cnd x40 (none)
(c (.mk .d0 .d0 .d1 .d6) [x38, (.str [65, 97])] s fun x41 s =>
vExt x41 0 fun x42 =>
vExt x41 1 fun _ =>
vExt x41 2 fun _ =>
vBeq false x42 x2 fun x45 =>
gK x45 true x38 fun x46 =>
gH x45 true (c (.mk .d0 .d0 .d1 .d5) [x46]) s fun x47 s =>
gV x45 true (vLenS x47) fun x48 =>
gV x45 true (bEqF x48 (ci 11)) fun x49 =>
gK x45 true x2 fun x50 =>
gV x45 true (vGen (.un .not (.c x50))) fun x51 =>
gV x45 true (vBeq false x49 x51) fun x52 =>
vPick x45 x52 cf fun x53 =>
K x53 s)) fun K26 =>
cnd x2 (vBld [.int .i64 0, .int .i64 0, .str [], .str []] (eCons 0 1 (ci 42) (eCons 2 1 (.str [65, 97]) (eCons 3 1 (.str [109, 48]) eNil))) fun x54 =>
vBld [.int .i64 0, .int .i64 0, .str [], .str []] (eCons 0 1 (ci 46) eNil) fun x55 =>
zHbs [.int .i64 0, .int .i64 0, .str [], .str [], .int .i64 0, .int .i64 0, .str [], .str []] 4 2 (eCons 0 4 x54 (eCons 4 4 x55 eNil)) s fun x56 s =>
fa1 x24 7 fun x57 =>
zSt x57 x56 1 s fun _ s =>
K26 [] s)
(K26 [] s)) fun K20 =>
loopE k (fun K59 v s =>
pop v fun x60 _ =>
bLt x60 x16 fun x61 =>
cnd x61 (jn (fun _ s =>
bAdd x60 (ci 1) fun x63 =>
K59 [x63] s) fun K62 =>
bAdd (ci 48) x60 fun x64 =>
vCv .u8 x64 fun x65 =>
zHbs [.int .u8 0, .int .u8 0] 1 2 (eCons 0 1 (cu 109) (eCons 1 1 x65 eNil)) s fun x66 s =>
b2sA x66 s fun x67 s =>
vBld [.int .i64 0, .int .i64 0, .str [], .str []] (eCons 0 1 (ci 46) eNil) fun x68 =>
zHbs [.int .i64 0, .int .i64 0, .str [], .str []] 4 1 (eCons 0 4 x68 eNil) s fun x69 s =>
vBld [.str [], .nil .sl, .str [], .bool false, .bool false, .int .i64 0, .int .i64 0, .nil .sl, .nil .sl, .nil .sl] (eCons 0 1 x67 (eCons 2 1 (.str [86]) (eCons 3 1 ct (eCons 6 1 (ci 1) (eCons 7 1 x69 eNil))))) fun x70 =>
boxD false [.str [], .nil .sl, .str [], .bool false, .bool false, .int .i64 0, .int .i64 0, .nil .sl, .nil .sl, .nil .sl] s fun x71 s =>
zSt x71 x70 10 s fun _ s =>
bAdd x60 (ci 1) fun x73 =>
bLt x73 x16 fun x74 =>
jn (fun _ s =>
fa1 x18 5 fun x76 =>
ldA x76 take1 s fun x77 s =>
ldA x71 (takeN 10) s fun x78 s =>
zBsl [.str [], .nil .sl, .str [], .bool false, .bool false, .int .i64 0, .int .i64 0, .nil .sl, .nil .sl, .nil .sl] 10 1 (eCons 0 10 x78 eNil) s fun x79 s =>
appB 10 152 x77 x79 s fun x80 s =>
fa1 x18 5 fun x81 =>
zSt x81 x80 1 s fun _ s =>
K62 [] s) fun K75 =>
cnd x74 (bAdd (ci 48) x60 fun x83 =>
bAdd x83 (ci 1) fun x84 =>
vCv .u8 x84 fun x85 =>
zHbs [.int .u8 0, .int .u8 0] 1 2 (eCons 0 1 (cu 109) (eCons 1 1 x85 eNil)) s fun x86 s =>
b2sA x86 s fun x87 s =>
vBld [.int .i64 0, .int .i64 0, .str [], .str []] (eCons 0 1 (ci 42) (eCons 2 1 (.str [65, 97]) (eCons 3 1 x87 eNil))) fun x88 =>
vBld [.int .i64 0, .int .i64 0, .str [], .str []] (eCons 0 1 (ci 46) eNil) fun x89 =>
zHbs [.int .i64 0, .int .i64 0, .str [], .str [], .int .i64 0, .int .i64 0, .str [], .str []] 4 2 (eCons 0 4 x88 (eCons 4 4 x89 eNil)) s fun x90 s =>
fa1 x71 7 fun x91 =>
zSt x91 x90 1 s fun _ s =>
K75 [] s)
(lgE qNoE (zK x8) s fun x93 e94 s =>
lgE qNoE (zK x12) s fun x95 e96 s =>
lgE qNoE (zV (vIaS x93 x95 4)) s fun x97 e98 s =>
lgE (qLdE x97 4) (ldA x97 (takeN 4)) s fun x99 e100 s =>
lgE qNoE (zK x9) s fun x101 e102 s =>
lgE qNoE (zK x12) s fun x103 e104 s =>
lgE qNoE (zV (vIaS x101 x103 1)) s fun x105 e106 s =>
lgE (qLdE x105 1) (ldA x105 take1) s fun x107 e108 s =>
lgE qNoE (zV (vBld [.int .i64 0, .int .i64 0, .str [], .str []] (eCons 0 1 x107 eNil))) s fun x109 e110 s =>
lgE qNoE (zHbs [.int .i64 0, .int .i64 0, .str [], .str [], .int .i64 0, .int .i64 0, .str [], .str []] 4 2 (eCons 0 4 x99 (eCons 4 4 x109 eNil))) s fun x111 e112 s =>
lgE qNoE (zV (fa1 x71 7)) s fun x113 e114 s =>
lgE qNoE (zSt x113 x111 1) s fun _ e116 s =>
calmE [(3, 7), (3, 8)] [e94, e96, e98, e100, e102, e104, e106, e108, e110, e112, e114, e116] (fun s =>
vIaS x9 x12 1 fun x117 =>
ldA x117 take1 s fun x118 s =>
bEqT x118 (ci 61) fun x119 =>
jn (fun _ s =>
K75 [] s) fun K120 =>
cnd x119 (fa1 x71 7 fun x121 =>
ldA x121 take1 s fun x122 s =>
vBld [.int .i64 0, .int .i64 0, .str [], .str []] (eCons 0 1 (ci 46) eNil) fun x123 =>
zBsl [.int .i64 0, .int .i64 0, .str [], .str []] 4 1 (eCons 0 4 x123 eNil) s fun x124 s =>
appB 4 48 x122 x124 s fun x125 s =>
fa1 x71 7 fun x126 =>
zSt x126 x125 1 s fun _ s =>
K120 [] s)
(K120 [] s)) s))
(K20 [] s)) [(ci 0)] s))
def F5 : F2 := .fn H5 true
theorem fe5 : feE Tryz.prog ann 5 3 [.cl, .j [], .j [13], .j [], .j [], .j [], .j [], .j [], .cl] = some F5 := by kernel_rfl
/- daguerre/daguerrelaw20.EffectAbove -/
def H6 : F2C := fun c k v s K =>
pop v fun x0 v =>
pop v fun x1 v =>
endE v (
c (.mk .d0 .d0 .d1 .d3) [] s fun x2 s =>
vGen (.un .not (.c x2)) fun x3 =>
cnd x3 (none)
(bLt x0 (ci 1) fun x4 =>
gK x4 false x0 fun x5 =>
gV x4 false (bGt x5 (ci 10)) fun x6 =>
vPick x4 ct x6 fun x7 =>
gK x7 false x1 fun x8 =>
gV x7 false (bLt x8 (ci 0)) fun x9 =>
vPick x7 ct x9 fun x10 =>
gK x10 false x1 fun x11 =>
gK x10 false x0 fun x12 =>
gV x10 false (bGt x11 x12) fun x13 =>
vPick x10 ct x13 fun x14 =>
cnd x14 (K ct s)
(jn (fun v s =>
pop v fun x16 _ =>
vBld [.str [], .str []] (eCons 0 1 (.str [67, 97]) (eCons 1 1 (.str [109, 97, 105, 110]) eNil)) fun x17 =>
c (.mk .d0 .d0 .d1 .d4) [x16, x17] s fun x18 s =>
vExt x18 0 fun x19 =>
vExt x18 1 fun x20 =>
bEqF x20 (ci 0) fun x21 =>
gK x21 true x19 fun x22 =>
gH x21 true (c (.mk .d0 .d0 .d1 .d5) [x22]) s fun x23 s =>
gV x21 true (vLenS x23) fun x24 =>
gK x21 true x1 fun x25 =>
gK x21 true x0 fun x26 =>
gV x21 true (vGen (.mnx false [(.c x25), (.c x26)])) fun x27 =>
gV x21 true (bAdd (ci 10) x27) fun x28 =>
gV x21 true (bEqF x24 x28) fun x29 =>
vPick x21 x29 cf fun x30 =>
K x30 s) fun K15 =>
loopE k (fun K31 v s =>
pop v fun x32 v =>
pop v fun x33 _ =>
bLt x32 x0 fun x34 =>
cnd x34 (jn (fun v s =>
pop v fun x36 _ =>
bAdd x32 (ci 1) fun x37 =>
K31 [x37, x36] s) fun K35 =>
bAdd (ci 97) x32 fun x38 =>
vCv .u8 x38 fun x39 =>
zHbs [.int .u8 0, .int .u8 0] 1 2 (eCons 0 1 (cu 67) (eCons 1 1 x39 eNil)) s fun x40 s =>
b2sA x40 s fun x41 s =>
vBld [.str [], .str [], .bool false, .nil .sl, .nil .sl, .nil .sl] (eCons 0 1 x41 (eCons 1 1 (.str [79, 98, 106, 101, 99, 116]) eNil)) fun x42 =>
boxD false [.str [], .str [], .bool false, .nil .sl, .nil .sl, .nil .sl] s fun x43 s =>
zSt x43 x42 6 s fun _ s =>
bGt x32 (ci 0) fun x45 =>
jn (fun _ s =>
vBld [.int .i64 0, .int .i64 0, .str [], .str []] (eCons 0 1 (ci 46) eNil) fun x47 =>
zHbs [.int .i64 0, .int .i64 0, .str [], .str []] 4 1 (eCons 0 4 x47 eNil) s fun x48 s =>
bEqF x32 x1 fun x49 =>
jn (fun v s =>
pop v fun x51 _ =>
vBld [.str [], .nil .sl, .str [], .bool false, .bool false, .int .i64 0, .int .i64 0, .nil .sl, .nil .sl, .nil .sl] (eCons 0 1 (.str [36, 105, 110, 105, 116]) (eCons 2 1 (.str [86]) (eCons 3 1 ct (eCons 6 1 (ci 1) (eCons 7 1 x51 eNil))))) fun x52 =>
zHbs [.str [], .nil .sl, .str [], .bool false, .bool false, .int .i64 0, .int .i64 0, .nil .sl, .nil .sl, .nil .sl] 10 1 (eCons 0 10 x52 eNil) s fun x53 s =>
fa1 x43 5 fun x54 =>
zSt x54 x53 1 s fun _ s =>
bEqF x32 (ci 0) fun x56 =>
jn (fun _ s =>
ldA x43 (takeN 6) s fun x58 s =>
zBsl [.str [], .str [], .bool false, .nil .sl, .nil .sl, .nil .sl] 6 1 (eCons 0 6 x58 eNil) s fun x59 s =>
appB 6 112 x33 x59 s fun x60 s =>
K35 [x60] s) fun K57 =>
cnd x56 (fa1 x43 5 fun x61 =>
ldA x61 take1 s fun x62 s =>
vBld [.int .i64 0, .int .i64 0, .str [], .str []] (eCons 0 1 (ci 46) eNil) fun x63 =>
zHbs [.int .i64 0, .int .i64 0, .str [], .str []] 4 1 (eCons 0 4 x63 eNil) s fun x64 s =>
vBld [.str [], .nil .sl, .str [], .bool false, .bool false, .int .i64 0, .int .i64 0, .nil .sl, .nil .sl, .nil .sl] (eCons 0 1 (.str [109, 97, 105, 110]) (eCons 2 1 (.str [86]) (eCons 3 1 ct (eCons 7 1 x64 eNil)))) fun x65 =>
zBsl [.str [], .nil .sl, .str [], .bool false, .bool false, .int .i64 0, .int .i64 0, .nil .sl, .nil .sl, .nil .sl] 10 1 (eCons 0 10 x65 eNil) s fun x66 s =>
appB 10 152 x62 x66 s fun x67 s =>
fa1 x43 5 fun x68 =>
zSt x68 x67 1 s fun _ s =>
K57 [] s)
(K57 [] s)) fun K50 =>
cnd x49 (vBld [.int .i64 0, .int .i64 0, .str [], .str []] (eCons 0 1 (ci 1) eNil) fun x70 =>
vBld [.int .i64 0, .int .i64 0, .str [], .str []] (eCons 0 1 (ci 60) eNil) fun x71 =>
vBld [.int .i64 0, .int .i64 0, .str [], .str []] (eCons 0 1 (ci 46) eNil) fun x72 =>
zHbs [.int .i64 0, .int .i64 0, .str [], .str [], .int .i64 0, .int .i64 0, .str [], .str [], .int .i64 0, .int .i64 0, .str [], .str []] 4 3 (eCons 0 4 x70 (eCons 4 4 x71 (eCons 8 4 x72 eNil))) s fun x73 s =>
K50 [x73] s)
(K50 [x48] s)) fun K46 =>
cnd x45 (bSub x32 (ci 1) fun x74 =>
vIaS x33 x74 6 fun x75 =>
fa1 x75 0 fun x76 =>
ldA x76 take1 s fun x77 s =>
fa1 x43 1 fun x78 =>
zSt x78 x77 1 s fun _ s =>
K46 [] s)
(K46 [] s))
(K15 [x33] s)) [(ci 0), (.nil .sl)] s)))
def F6 : F2 := .fn H6 true
theorem fe6 : feE Tryz.prog ann 6 2 [.cl, .j [], .j [6], .j [7, 6], .j [], .j [6], .j [], .j [9], .j []] = some F6 := by kernel_rfl
/- daguerre/daguerrelaw19.begun -/
def H7 : F2C := fun c _ v s K =>
endE v (
c (.mk .d0 .d0 .d1 .d7) [] s fun x0 s =>
vBld [.str [], .str []] (eCons 0 1 (.str [66, 98]) (eCons 1 1 (.str [109, 97, 105, 110]) eNil)) fun x1 =>
c (.mk .d0 .d0 .d1 .d4) [x0, x1] s fun x2 s =>
vExt x2 0 fun x3 =>
vExt x2 1 fun x4 =>
bEqT x4 (ci 0) fun x5 =>
cnd x5 (none)
(vBld [.str [], .str []] (eCons 0 1 (.str [66, 98]) (eCons 1 1 (.str [109, 97, 105, 110]) eNil)) fun x6 =>
c (.mk .d0 .d0 .d2 .d0) [x3, x6] s fun x7 s =>
c (.mk .d0 .d0 .d2 .d1) [x3, (.str [65, 97]), (.str [102])] s fun x8 s =>
c (.mk .d0 .d0 .d2 .d2) [] s fun x9 s =>
gH x9 true (c (.mk .d0 .d0 .d2 .d3) []) s fun x10 s =>
vPick x9 x10 cf fun x11 =>
gK x11 true x7 fun x12 =>
gH x11 true (c (.mk .d0 .d0 .d1 .d0) [x12]) s fun x13 s =>
gH x11 true (zBsl [.str []] 1 1 (eCons 0 1 (.str [66, 98, 46, 109, 97, 105, 110]) eNil)) s fun x14 s =>
gH x11 true (c (.mk .d0 .d0 .d2 .d4) [x13, x14]) s fun x15 s =>
vPick x11 x15 cf fun x16 =>
gK x16 true x7 fun x17 =>
gH x16 true (c (.mk .d0 .d0 .d1 .d1) [x17]) s fun x18 s =>
gV x16 true (vLenS x18) fun x19 =>
gV x16 true (bEqF x19 (ci 9)) fun x20 =>
vPick x16 x20 cf fun x21 =>
gK x21 true x7 fun x22 =>
gH x21 true (c (.mk .d0 .d0 .d1 .d2) [x22]) s fun x23 s =>
gH x21 true (zBsl [.str [], .str [], .str []] 1 3 (eCons 0 1 (.str [79, 98, 106, 101, 99, 116]) (eCons 1 1 (.str [65, 97]) (eCons 2 1 (.str [66, 98]) eNil)))) s fun x24 s =>
gH x21 true (c (.mk .d0 .d0 .d2 .d4) [x23, x24]) s fun x25 s =>
vPick x21 x25 cf fun x26 =>
gK x26 true x8 fun x27 =>
gH x26 true (c (.mk .d0 .d0 .d1 .d0) [x27]) s fun x28 s =>
gH x26 true (zBsl [.str []] 1 1 (eCons 0 1 (.str [65, 97, 46, 102]) eNil)) s fun x29 s =>
gH x26 true (c (.mk .d0 .d0 .d2 .d4) [x28, x29]) s fun x30 s =>
vPick x26 x30 cf fun x31 =>
gK x31 true x8 fun x32 =>
gH x31 true (c (.mk .d0 .d0 .d1 .d2) [x32]) s fun x33 s =>
gV x31 true (vLenS x33) fun x34 =>
gV x31 true (bEqF x34 (ci 0)) fun x35 =>
vPick x31 x35 cf fun x36 =>
K x36 s))
def F7 : F2 := .pur H7 true mNo
theorem fe7 : feE Tryz.prog ann 7 0 [.cl] = some F7 := by kernel_rfl
def M7 (k : Nat) : F2 := .pur H7 true (Bool.rec mNo (mVal (.bool true)) (Nat.ble 13 k))
/- (*daguerre/reach.Reach).Methods -/
def H8 : F2C := fun c k v s K =>
pop v fun x0 v =>
endE v (
vNil false .ptr x0 fun x1 =>
cnd x1 (K (.nil .sl) s)
(vChk x0 fun x2 =>
fa1 x2 3 fun x3 =>
ldA x3 take1 s fun x4 s =>
vLenS x4 fun x5 =>
jn (fun v s =>
pop v fun x7 _ =>
K x7 s) fun K6 =>
loopE k (fun K8 v s =>
pop v fun x9 v =>
pop v fun x10 _ =>
bLt x9 x5 fun x11 =>
cnd x11 (jn (fun v s =>
pop v fun x13 _ =>
bAdd x9 (ci 1) fun x14 =>
K8 [x14, x13] s) fun K12 =>
vIaS x4 x9 1 fun x15 =>
ldA x15 take1 s fun x16 s =>
vChk x0 fun x17 =>
fa1 x17 2 fun x18 =>
ldA x18 take1 s fun x19 s =>
c (.mk .d0 .d0 .d2 .d5) [x19, x9] s fun x20 s =>
jn (fun v s =>
pop v fun x22 _ =>
K12 [x22] s) fun K21 =>
cnd x20 (zBsl [.str []] 1 1 (eCons 0 1 x16 eNil) s fun x23 s =>
appB 1 16 x10 x23 s fun x24 s =>
K21 [x24] s)
(K21 [x10] s))
(K6 [x10] s)) [(ci 0), (.nil .sl)] s))
def F8 : F2 := .fn H8 true
theorem fe8 : feE Tryz.prog ann 8 1 [.j [], .j [3], .j [13, 3], .j [], .j [3], .j [3]] = some F8 := by kernel_rfl
/- (*daguerre/reach.Reach).Made -/
def H9 : F2C := fun c _ v s K =>
pop v fun x0 v =>
endE v (
vNil false .ptr x0 fun x1 =>
cnd x1 (K (.nil .sl) s)
(vChk x0 fun x2 =>
fa1 x2 5 fun x3 =>
ldA x3 take1 s fun x4 s =>
c (.mk .d0 .d0 .d2 .d6) [x0, x4] s fun x5 s =>
K x5 s))
def F9 : F2 := .fn H9 true
theorem fe9 : feE Tryz.prog ann 9 1 [.j []] = some F9 := by kernel_rfl
/- (*daguerre/reach.Reach).Touched -/
def H10 : F2C := fun c _ v s K =>
pop v fun x0 v =>
endE v (
vNil false .ptr x0 fun x1 =>
cnd x1 (K (.nil .sl) s)
(vChk x0 fun x2 =>
fa1 x2 6 fun x3 =>
ldA x3 take1 s fun x4 s =>
c (.mk .d0 .d0 .d2 .d6) [x0, x4] s fun x5 s =>
K x5 s))
def F10 : F2 := .fn H10 true
theorem fe10 : feE Tryz.prog ann 10 1 [.j []] = some F10 := by kernel_rfl
/- daguerre/daguerrelaw20.begun -/
def H11 : F2C := fun c _ v s K =>
endE v (
c (.mk .d0 .d0 .d2 .d7) [] s fun x0 s =>
vBld [.str [], .str []] (eCons 0 1 (.str [66, 98]) (eCons 1 1 (.str [109, 97, 105, 110]) eNil)) fun x1 =>
c (.mk .d0 .d0 .d1 .d4) [x0, x1] s fun x2 s =>
vExt x2 0 fun x3 =>
vExt x2 1 fun x4 =>
bEqT x4 (ci 0) fun x5 =>
cnd x5 (none)
(c (.mk .d0 .d0 .d1 .d5) [x3] s fun x6 s =>
c (.mk .d0 .d0 .d1 .d6) [x3, (.str [65, 97])] s fun x7 s =>
vExt x7 0 fun x8 =>
vExt x7 1 fun x9 =>
vExt x7 2 fun x10 =>
c (.mk .d0 .d0 .d1 .d6) [x3, (.str [66, 98])] s fun x11 s =>
vExt x11 0 fun x12 =>
vExt x11 1 fun _ =>
vExt x11 2 fun _ =>
c (.mk .d0 .d0 .d1 .d6) [x3, (.str [70, 97, 99, 101])] s fun x15 s =>
vExt x15 0 fun _ =>
vExt x15 1 fun x17 =>
vExt x15 2 fun _ =>
c (.mk .d0 .d0 .d3 .d0) [] s fun x19 s =>
gK x19 true x6 fun x20 =>
gV x19 true (vLenS x20) fun x21 =>
gV x19 true (bEqF x21 (ci 12)) fun x22 =>
vPick x19 x22 cf fun x23 =>
gK x23 true x6 fun x24 =>
gV x23 true (vIaS x24 (ci 10) 1) fun x25 =>
gH x23 true (ldA x25 take1) s fun x26 s =>
gV x23 true (bEqF x26 (.str [70, 97, 99, 101])) fun x27 =>
vPick x23 x27 cf fun x28 =>
gK x28 true x6 fun x29 =>
gV x28 true (vIaS x29 (ci 11) 1) fun x30 =>
gH x28 true (ldA x30 take1) s fun x31 s =>
gV x28 true (bEqF x31 (.str [65, 97])) fun x32 =>
vPick x28 x32 cf fun x33 =>
gK x33 true x8 fun x34 =>
gV x33 true (vGen (.un .not (.c x34))) fun x35 =>
vPick x33 x35 cf fun x36 =>
gK x36 true x9 fun x37 =>
gH x36 true (zBsl [.str []] 1 1 (eCons 0 1 (.str [65, 97]) eNil)) s fun x38 s =>
gH x36 true (c (.mk .d0 .d0 .d2 .d4) [x37, x38]) s fun x39 s =>
vPick x36 x39 cf fun x40 =>
gK x40 true x10 fun x41 =>
gH x40 true (zBsl [.str [], .str []] 1 2 (eCons 0 1 (.str [79, 98, 106, 101, 99, 116]) (eCons 1 1 (.str [65, 97]) eNil))) s fun x42 s =>
gH x40 true (c (.mk .d0 .d0 .d2 .d4) [x41, x42]) s fun x43 s =>
vPick x40 x43 cf fun x44 =>
gK x44 true x12 fun x45 =>
vPick x44 x45 cf fun x46 =>
gK x46 true x17 fun x47 =>
gV x46 true (vLenS x47) fun x48 =>
gV x46 true (bEqF x48 (ci 0)) fun x49 =>
vPick x46 x49 cf fun x50 =>
K x50 s))
def F11 : F2 := .pur H11 true mNo
theorem fe11 : feE Tryz.prog ann 11 0 [.cl] = some F11 := by kernel_rfl
def M11 (k : Nat) : F2 := .pur H11 true (Bool.rec mNo (mVal (.bool true)) (Nat.ble 12 k))
/- daguerre/closed.Check -/
def H12 : F2C := fun c k v s K =>
pop v fun x0 v =>
pop v fun x1 v =>
endE v (
zTbox x1 s fun x2 s =>
c (.mk .d0 .d0 .d3 .d1) [x0] s fun x3 s =>
vExt x3 0 fun x4 =>
vExt x3 1 fun x5 =>
bEqT x5 (ci 0) fun x6 =>
cnd x6 (none)
(c (.mk .d0 .d0 .d3 .d2) [x4] s fun x7 s =>
bEqT x7 (ci 0) fun x8 =>
cnd x8 (K (.tup [(.nil .ptr), x7]) s)
(fa1 x2 0 fun x9 =>
ldA x9 take1 s fun x10 s =>
fa1 x2 1 fun x11 =>
ldA x11 take1 s fun x12 s =>
c (.mk .d0 .d0 .d3 .d3) [x4, x10, x12] s fun x13 s =>
vExt x13 0 fun _ =>
vExt x13 1 fun x15 =>
vExt x13 2 fun x16 =>
boxD false [.str [], .nil .sl, .str [], .bool false, .bool false, .int .i64 0, .int .i64 0, .nil .sl, .nil .sl, .nil .sl] s fun x17 s =>
zSt x17 x15 10 s fun _ s =>
vGen (.un .not (.c x16)) fun x19 =>
gV x19 false (fa1 x17 3) fun x20 =>
gH x19 false (ldA x20 take1) s fun x21 s =>
gV x19 false (vGen (.un .not (.c x21))) fun x22 =>
vPick x19 ct x22 fun x23 =>
gV x23 false (fa1 x17 1) fun x24 =>
gH x23 false (ldA x24 take1) s fun x25 s =>
gV x23 false (vLenS x25) fun x26 =>
gV x23 false (bGt x26 (ci 0)) fun x27 =>
vPick x23 ct x27 fun x28 =>
gV x28 false (fa1 x17 2) fun x29 =>
gH x28 false (ldA x29 take1) s fun x30 s =>
gV x28 false (bEqT x30 (.str [86])) fun x31 =>
vPick x28 ct x31 fun x32 =>
cnd x32 (K (.tup [(.nil .ptr), (ci 4)]) s)
(vLenS x0 fun x33 =>
jn (fun _ s =>
K (.tup [x4, (ci 0)]) s) fun K34 =>
loopE k (fun K35 v s =>
pop v fun x36 _ =>
bLt x36 x33 fun x37 =>
cnd x37 (jn (fun _ s =>
bAdd x36 (ci 1) fun x39 =>
K35 [x39] s) fun K38 =>
vIaS x0 x36 6 fun x40 =>
ldA x40 (takeN 6) s fun x41 s =>
boxD false [.str [], .str [], .bool false, .nil .sl, .nil .sl, .nil .sl] s fun x42 s =>
zSt x42 x41 6 s fun _ s =>
fa1 x42 5 fun x44 =>
ldA x44 take1 s fun x45 s =>
vLenS x45 fun x46 =>
jn (fun _ s =>
K38 [] s) fun K47 =>
loopE k (fun K48 v s =>
pop v fun x49 _ =>
bLt x49 x46 fun x50 =>
cnd x50 (jn (fun _ s =>
bAdd x49 (ci 1) fun x52 =>
K48 [x52] s) fun K51 =>
vIaS x45 x49 10 fun x53 =>
ldA x53 (takeN 10) s fun x54 s =>
boxD false [.str [], .nil .sl, .str [], .bool false, .bool false, .int .i64 0, .int .i64 0, .nil .sl, .nil .sl, .nil .sl] s fun x55 s =>
zSt x55 x54 10 s fun _ s =>
fa1 x55 4 fun x57 =>
ldA x57 take1 s fun x58 s =>
vGen (.un .not (.c x58)) fun x59 =>
gK x59 true x4 fun x60 =>
gV x59 true (fa1 x42 0) fun x61 =>
gH x59 true (ldA x61 take1) s fun x62 s =>
gK x59 true x49 fun x63 =>
gH x59 true (c (.mk .d0 .d0 .d3 .d4) [x60, x62, x63]) s fun x64 s =>
gV x59 true (vGen (.un .not (.c x64))) fun x65 =>
vPick x59 x65 cf fun x66 =>
cnd x66 (none)
(K51 [] s))
(K47 [] s)) [(ci 0)] s)
(K34 [] s)) [(ci 0)] s))))
def F12 : F2 := .fn H12 true
theorem fe12 : feE Tryz.prog ann 12 2 [.cl, .j [], .j [], .j [], .j [59], .j [], .j [], .j [], .j [66], .j [], .j [], .cl] = some F12 := by kernel_rfl
/- daguerre/effect.Movable -/
def H13 : F2C := fun c k v s K =>
pop v fun x0 v =>
endE v (
boxD false [.nil .sl] s fun x1 s =>
vNil false .ptr x0 fun x2 =>
cnd x2 (none)
(lgE (qLdE x1 1) (ldA x1 take1) s fun x3 e4 s =>
lgE qNoE (c (.mk .d0 .d0 .d3 .d5) []) s fun x5 e6 s =>
lgE qNoE (appB 1 16 x3 x5) s fun x7 e8 s =>
lgE qNoE (zSt x1 x7 1) s fun _ e10 s =>
calmE [(0, 1)] [e4, e6, e8, e10] (fun s =>
jn (fun _ s =>
c (.mk .d0 .d0 .d3 .d6) [x0] s fun x12 s =>
vGen (.mkf 34 [] [(.c x1)]) fun x13 =>
c (.mk .d0 .d0 .d4 .d1) [x12, x13] s fun x14 s =>
K x14 s) fun K11 =>
loopE k (fun K15 v s =>
pop v fun x16 _ =>
cnd x16 (jn (fun v s =>
pop v fun x18 _ =>
K15 [x18] s) fun K17 =>
c (.mk .d0 .d0 .d3 .d6) [x0] s fun x19 s =>
vLenS x19 fun x20 =>
jn (fun v s =>
pop v fun x22 _ =>
K17 [x22] s) fun K21 =>
loopE k (fun K23 v s =>
pop v fun x24 v =>
pop v fun x25 _ =>
bLt x24 x20 fun x26 =>
cnd x26 (jn (fun v s =>
pop v fun x28 _ =>
bAdd x24 (ci 1) fun x29 =>
K23 [x29, x28] s) fun K27 =>
vIaS x19 x24 1 fun x30 =>
ldA x30 take1 s fun x31 s =>
ldA x1 take1 s fun x32 s =>
c (.mk .d0 .d0 .d3 .d7) [x32, x31] s fun x33 s =>
vGen (.un .not (.c x33)) fun x34 =>
gK x34 true x0 fun x35 =>
gK x34 true x31 fun x36 =>
gH x34 true (ldA x1 take1) s fun x37 s =>
gH x34 true (c (.mk .d0 .d0 .d4 .d0) [x35, x36, x37]) s fun x38 s =>
vPick x34 x38 cf fun x39 =>
jn (fun v s =>
pop v fun x41 _ =>
K27 [x41] s) fun K40 =>
cnd x39 (ldA x1 take1 s fun x42 s =>
zBsl [.str []] 1 1 (eCons 0 1 x31 eNil) s fun x43 s =>
appB 1 16 x42 x43 s fun x44 s =>
zSt x1 x44 1 s fun _ s =>
K40 [ct] s)
(K40 [x25] s))
(K21 [x25] s)) [(ci 0), cf] s)
(K11 [] s)) [ct] s) s))
def F13 : F2 := .fn H13 true
theorem fe13 : feE Tryz.prog ann 13 1 [.cl, .j [], .j [4], .j [], .j [4], .j [4], .j [16, 4], .j [], .j [4], .j [4]] = some F13 := by kernel_rfl
/- daguerre/effect.Sees -/
def H14 : F2C := fun c k v s K =>
pop v fun x0 v =>
pop v fun x1 v =>
endE v (
c (.mk .d0 .d0 .d4 .d3) [x0, x1] s fun x2 s =>
vExt x2 0 fun x3 =>
vExt x2 1 fun _ =>
boxD false [.str [], .str [], .bool false, .nil .sl, .nil .sl, .nil .sl] s fun x5 s =>
zSt x5 x3 6 s fun _ s =>
ldA x5 (takeN 6) s fun x7 s =>
c (.mk .d0 .d0 .d4 .d4) [x7, (.str [36, 105, 110, 105, 116])] s fun x8 s =>
bLt x8 (ci 0) fun x9 =>
cnd x9 (K (.tup [cf, (.nil .sl), (.nil .sl)]) s)
(c (.mk .d0 .d0 .d2 .d1) [x0, x1, (.str [36, 105, 110, 105, 116])] s fun x10 s =>
zMkm s fun x11 s =>
boxD false [.nil .map] s fun x12 s =>
zSt x12 x11 1 s fun _ s =>
c (.mk .d0 .d0 .d1 .d0) [x10] s fun x14 s =>
vLenS x14 fun x15 =>
jn (fun v s =>
pop v fun x17 _ =>
c (.mk .d0 .d0 .d3 .d6) [x0] s fun x18 s =>
vGen (.mkf 39 [] [(.c x12)]) fun x19 =>
c (.mk .d0 .d0 .d4 .d1) [x18, x19] s fun x20 s =>
c (.mk .d0 .d0 .d1 .d2) [x10] s fun x21 s =>
K (.tup [x17, x20, x21]) s) fun K16 =>
loopE k (fun K22 v s =>
pop v fun x23 v =>
pop v fun x24 _ =>
bLt x23 x15 fun x25 =>
cnd x25 (jn (fun v s =>
pop v fun x27 _ =>
bAdd x23 (ci 1) fun x28 =>
K22 [x28, x27] s) fun K26 =>
vIaS x14 x23 1 fun x29 =>
ldA x29 take1 s fun x30 s =>
c (.mk .d0 .d0 .d4 .d5) [x0, x30] s fun x31 s =>
vFld x31 7 take1 fun x32 =>
vLenS x32 fun x33 =>
jn (fun v s =>
pop v fun x35 _ =>
K26 [x35] s) fun K34 =>
loopE k (fun K36 v s =>
pop v fun x37 v =>
pop v fun x38 _ =>
bLt x37 x33 fun x39 =>
cnd x39 (jn (fun v s =>
pop v fun x41 _ =>
bAdd x37 (ci 1) fun x42 =>
K36 [x42, x41] s) fun K40 =>
vIaS x32 x37 4 fun x43 =>
ldA x43 (takeN 4) s fun x44 s =>
boxD false [.int .i64 0, .int .i64 0, .str [], .str []] s fun x45 s =>
zSt x45 x44 4 s fun _ s =>
fa1 x45 0 fun x47 =>
ldA x47 take1 s fun x48 s =>
jn (fun v s =>
pop v fun x50 _ =>
K40 [x50] s) fun K49 =>
bEqF x48 (ci 59) fun x51 =>
jn (fun v s =>
pop v fun x53 _ =>
jn (fun v s =>
pop v fun x55 _ =>
K49 [x55] s) fun K54 =>
cnd x53 (K54 [ct] s)
(bEqF x48 (ci 40) fun x56 =>
cnd x56 (none)
(bEqF x48 (ci 41) fun x57 =>
jn (fun _ s =>
K54 [x38] s) fun K58 =>
cnd x57 (fa1 x45 2 fun x59 =>
ldA x59 take1 s fun x60 s =>
fa1 x45 3 fun x61 =>
ldA x61 take1 s fun x62 s =>
c (.mk .d0 .d0 .d4 .d6) [x0, x60, x62] s fun x63 s =>
vExt x63 0 fun x64 =>
vExt x63 1 fun x65 =>
vExt x63 2 fun _ =>
boxD false [.str [], .str [], .bool false] s fun x67 s =>
zSt x67 x65 3 s fun _ s =>
ldA x12 take1 s fun x69 s =>
zMup .str x69 x64 ct s fun _ s =>
K58 [] s)
(K58 [] s)))) fun K52 =>
cnd x51 (K52 [x51] s)
(bEqF x48 (ci 60) fun x71 =>
jn (fun v s =>
pop v fun x73 _ =>
K52 [x73] s) fun K72 =>
cnd x71 (K72 [x71] s)
(bEqF x48 (ci 61) fun x74 =>
K72 [x74] s)))
(K34 [x38] s)) [(ci 0), x24] s)
(K16 [x24] s)) [(ci 0), cf] s))
def F14 : F2 := .fn H14 true
theorem fe14 : feE Tryz.prog ann 14 2 [.j [], .j [10], .j [36, 10], .j [], .j [10], .j [10], .j [45, 10], .j [], .j [10], .j [10], .j [51], .j [51], .j [10], .cl, .j []] = some F14 := by kernel_rfl
/- daguerre/daguerrelaw7.Two -/
def H15 : F2C := fun c _ v s K =>
endE v (
vBld [.str [], .nil .sl, .str [], .bool false, .bool false, .int .i64 0, .int .i64 0, .nil .sl, .nil .sl, .nil .sl] (eCons 0 1 (.str [102]) (eCons 2 1 (.str [73]) (eCons 4 1 ct eNil))) fun x0 =>
zHbs [.str [], .nil .sl, .str [], .bool false, .bool false, .int .i64 0, .int .i64 0, .nil .sl, .nil .sl, .nil .sl] 10 1 (eCons 0 10 x0 eNil) s fun x1 s =>
vBld [.str [], .str [], .bool false, .nil .sl, .nil .sl, .nil .sl] (eCons 0 1 (.str [70, 97, 99, 101]) (eCons 1 1 (.str [79, 98, 106, 101, 99, 116]) (eCons 2 1 ct (eCons 5 1 x1 eNil)))) fun x2 =>
boxD false [.str [], .str [], .bool false, .nil .sl, .nil .sl, .nil .sl] s fun x3 s =>
zSt x3 x2 6 s fun _ s =>
zHbs [.str []] 1 1 (eCons 0 1 (.str [70, 97, 99, 101]) eNil) s fun x5 s =>
vBld [.str [], .str [], .bool false] (eCons 0 1 (.str [120]) (eCons 1 1 (.str [73]) eNil)) fun x6 =>
vBld [.str [], .str [], .bool false] (eCons 0 1 (.str [115]) (eCons 1 1 (.str [73]) (eCons 2 1 ct eNil))) fun x7 =>
zHbs [.str [], .str [], .bool false, .str [], .str [], .bool false] 3 2 (eCons 0 3 x6 (eCons 3 3 x7 eNil)) s fun x8 s =>
vBld [.int .i64 0, .int .i64 0, .str [], .str []] (eCons 0 1 (ci 1) (eCons 1 1 (ci 5) eNil)) fun x9 =>
vBld [.int .i64 0, .int .i64 0, .str [], .str []] (eCons 0 1 (ci 47) eNil) fun x10 =>
zHbs [.int .i64 0, .int .i64 0, .str [], .str [], .int .i64 0, .int .i64 0, .str [], .str []] 4 2 (eCons 0 4 x9 (eCons 4 4 x10 eNil)) s fun x11 s =>
vBld [.str [], .nil .sl, .str [], .bool false, .bool false, .int .i64 0, .int .i64 0, .nil .sl, .nil .sl, .nil .sl] (eCons 0 1 (.str [102]) (eCons 2 1 (.str [73]) (eCons 5 1 (ci 1) (eCons 6 1 (ci 1) (eCons 7 1 x11 eNil))))) fun x12 =>
zHbs [.str [], .nil .sl, .str [], .bool false, .bool false, .int .i64 0, .int .i64 0, .nil .sl, .nil .sl, .nil .sl] 10 1 (eCons 0 10 x12 eNil) s fun x13 s =>
vBld [.str [], .str [], .bool false, .nil .sl, .nil .sl, .nil .sl] (eCons 0 1 (.str [65, 97]) (eCons 1 1 (.str [79, 98, 106, 101, 99, 116]) (eCons 3 1 x5 (eCons 4 1 x8 (eCons 5 1 x13 eNil))))) fun x14 =>
boxD false [.str [], .str [], .bool false, .nil .sl, .nil .sl, .nil .sl] s fun x15 s =>
zSt x15 x14 6 s fun _ s =>
c (.mk .d0 .d0 .d5 .d0) [(.str [66, 98])] s fun x17 s =>
boxD false [.str [], .str [], .bool false, .nil .sl, .nil .sl, .nil .sl] s fun x18 s =>
zSt x18 x17 6 s fun _ s =>
fa1 x18 1 fun x20 =>
zSt x20 (.str [65, 97]) 1 s fun _ s =>
vBld [.str [], .str [], .bool false] (eCons 0 1 (.str [121]) (eCons 1 1 (.str [91, 65, 97]) eNil)) fun x22 =>
zHbs [.str [], .str [], .bool false] 3 1 (eCons 0 3 x22 eNil) s fun x23 s =>
fa1 x18 4 fun x24 =>
zSt x24 x23 1 s fun _ s =>
ldA x3 (takeN 6) s fun x26 s =>
ldA x15 (takeN 6) s fun x27 s =>
ldA x18 (takeN 6) s fun x28 s =>
zHbs [.str [], .str [], .bool false, .nil .sl, .nil .sl, .nil .sl, .str [], .str [], .bool false, .nil .sl, .nil .sl, .nil .sl, .str [], .str [], .bool false, .nil .sl, .nil .sl, .nil .sl] 6 3 (eCons 0 6 x26 (eCons 6 6 x27 (eCons 12 6 x28 eNil))) s fun x29 s =>
K x29 s)
def F15 : F2 := .fn H15 true
theorem fe15 : feE Tryz.prog ann 15 0 [] = some F15 := by kernel_rfl
/- daguerre/reach.All -/
def H16 : F2C := fun c _ v s K =>
pop v fun x0 v =>
pop v fun x1 v =>
endE v (
zTbox x1 s fun x2 s =>
c (.mk .d0 .d0 .d5 .d1) [x0, ct] s fun x3 s =>
fa1 x2 0 fun x4 =>
ldA x4 take1 s fun x5 s =>
fa1 x2 1 fun x6 =>
ldA x6 take1 s fun x7 s =>
c (.mk .d0 .d0 .d3 .d3) [x0, x5, x7] s fun x8 s =>
vExt x8 0 fun x9 =>
vExt x8 1 fun x10 =>
vExt x8 2 fun x11 =>
boxD false [.str [], .nil .sl, .str [], .bool false, .bool false, .int .i64 0, .int .i64 0, .nil .sl, .nil .sl, .nil .sl] s fun x12 s =>
zSt x12 x10 10 s fun _ s =>
cnd x11 (fa1 x2 1 fun x14 =>
ldA x14 take1 s fun x15 s =>
c (.mk .d0 .d0 .d5 .d2) [x3, x9, x15] s fun _ s =>
c (.mk .d0 .d0 .d5 .d3) [x3, x9] s fun _ s =>
c (.mk .d0 .d0 .d5 .d4) [x3] s fun x18 s =>
K x18 s)
(none))
def F16 : F2 := .fn H16 true
theorem fe16 : feE Tryz.prog ann 16 2 [.cr] = some F16 := by kernel_rfl
/- daguerre/reach.From -/
def H17 : F2C := fun c _ v s K =>
pop v fun x0 v =>
pop v fun x1 v =>
pop v fun x2 v =>
endE v (
c (.mk .d0 .d0 .d5 .d1) [x0, cf] s fun x3 s =>
c (.mk .d0 .d0 .d5 .d2) [x3, x1, x2] s fun _ s =>
c (.mk .d0 .d0 .d5 .d4) [x3] s fun x5 s =>
K x5 s)
def F17 : F2 := .fn H17 true
theorem fe17 : feE Tryz.prog ann 17 3 [] = some F17 := by kernel_rfl
/- daguerre/daguerrelaw11.Begun -/
def H18 : F2C := fun c _ v s K =>
endE v (
c (.mk .d0 .d0 .d5 .d5) [] s fun x0 s =>
K x0 s)
def F18 : F2 := .pur H18 true mNo
theorem fe18 : feE Tryz.prog ann 18 0 [] = some F18 := by kernel_rfl
def M18 (k : Nat) : F2 := .pur H18 true (Bool.rec mNo (mVal (.bool true)) (Nat.ble 9 k))
/- daguerre/daguerrelaw18.Begun -/
def H19 : F2C := fun c _ v s K =>
endE v (
c (.mk .d0 .d0 .d5 .d6) [] s fun x0 s =>
K x0 s)
def F19 : F2 := .pur H19 true mNo
theorem fe19 : feE Tryz.prog ann 19 0 [] = some F19 := by kernel_rfl
def M19 (k : Nat) : F2 := .pur H19 true (Bool.rec mNo (mVal (.bool true)) (Nat.ble 10 k))
/- daguerre/daguerreref3.EqTexts -/
def H20 : F2C := fun _ k v s K =>
pop v fun x0 v =>
pop v fun x1 v =>
endE v (
vLenS x0 fun x2 =>
vLenS x1 fun x3 =>
bEqT x2 x3 fun x4 =>
cnd x4 (none)
(jn (fun _ s =>
K ct s) fun K5 =>
loopE k (fun K6 v s =>
pop v fun x7 _ =>
vLenS x0 fun x8 =>
bLt x7 x8 fun x9 =>
cnd x9 (jn (fun _ s =>
bAdd x7 (ci 1) fun x11 =>
K6 [x11] s) fun K10 =>
lgE qNoE (zK x0) s fun x12 e13 s =>
lgE qNoE (zK x7) s fun x14 e15 s =>
lgE qNoE (zV (vIaS x12 x14 1)) s fun x16 e17 s =>
lgE (qLdE x16 1) (ldA x16 take1) s fun x18 e19 s =>
lgE qNoE (zK x1) s fun x20 e21 s =>
lgE qNoE (zK x7) s fun x22 e23 s =>
lgE qNoE (zV (vIaS x20 x22 1)) s fun x24 e25 s =>
lgE (qLdE x24 1) (ldA x24 take1) s fun x26 e27 s =>
lgE qNoE (zV (bEqT x18 x26)) s fun x28 e29 s =>
calmE [(3, 7)] [e13, e15, e17, e19, e21, e23, e25, e27, e29] (fun s =>
cnd x28 (none)
(K10 [] s)) s)
(K5 [] s)) [(ci 0)] s))
def F20 : F2 := .fn H20 true
theorem fe20 : feE Tryz.prog ann 20 2 [.cl, .j [], .j [5], .j [], .j [], .cl] = some F20 := by kernel_rfl
/- (*daguerre/pile.Pile).Had -/
def H21 : F2C := fun _ _ v s K =>
pop v fun x0 v =>
pop v fun x1 v =>
endE v (
vNil true .ptr x0 fun x2 =>
gK x2 true x0 fun x3 =>
gV x2 true (vChk x3) fun x4 =>
gV x2 true (fa1 x4 1) fun x5 =>
gH x2 true (ldA x5 take1) s fun x6 s =>
gK x2 true x1 fun x7 =>
gH x2 true (zLku (.int .i64) (.bool false) x6 x7 false) s fun x8 s =>
vPick x2 x8 cf fun x9 =>
K x9 s)
def F21 : F2 := .fn H21 true
theorem fe21 : feE Tryz.prog ann 21 2 [] = some F21 := by kernel_rfl
/- (*daguerre/reach.Reach).some -/
def H22 : F2C := fun c _ v s K =>
pop v fun x0 v =>
pop v fun x1 v =>
endE v (
zBox false x1 s fun x2 s =>
vChk x0 fun x3 =>
fa1 x3 0 fun x4 =>
ldA x4 take1 s fun x5 s =>
c (.mk .d0 .d0 .d3 .d6) [x5] s fun x6 s =>
vGen (.mkf 47 [] [(.c x2)]) fun x7 =>
c (.mk .d0 .d0 .d4 .d1) [x6, x7] s fun x8 s =>
K x8 s)
def F22 : F2 := .fn H22 true
theorem fe22 : feE Tryz.prog ann 22 2 [] = some F22 := by kernel_rfl
/- daguerre/daguerrelaw20.Three -/
def H23 : F2C := fun c _ v s K =>
endE v (
c (.mk .d0 .d0 .d1 .d7) [] s fun x0 s =>
vIaS x0 (ci 1) 6 fun x1 =>
fa1 x1 5 fun x2 =>
ldA x2 take1 s fun x3 s =>
vBld [.int .i64 0, .int .i64 0, .str [], .str []] (eCons 0 1 (ci 1) (eCons 1 1 (ci 3) eNil)) fun x4 =>
vBld [.int .i64 0, .int .i64 0, .str [], .str []] (eCons 0 1 (ci 41) (eCons 2 1 (.str [65, 97]) (eCons 3 1 (.str [115]) eNil))) fun x5 =>
vBld [.int .i64 0, .int .i64 0, .str [], .str []] (eCons 0 1 (ci 46) eNil) fun x6 =>
zHbs [.int .i64 0, .int .i64 0, .str [], .str [], .int .i64 0, .int .i64 0, .str [], .str [], .int .i64 0, .int .i64 0, .str [], .str []] 4 3 (eCons 0 4 x4 (eCons 4 4 x5 (eCons 8 4 x6 eNil))) s fun x7 s =>
vBld [.str [], .nil .sl, .str [], .bool false, .bool false, .int .i64 0, .int .i64 0, .nil .sl, .nil .sl, .nil .sl] (eCons 0 1 (.str [36, 105, 110, 105, 116]) (eCons 2 1 (.str [86]) (eCons 3 1 ct (eCons 6 1 (ci 1) (eCons 7 1 x7 eNil))))) fun x8 =>
zBsl [.str [], .nil .sl, .str [], .bool false, .bool false, .int .i64 0, .int .i64 0, .nil .sl, .nil .sl, .nil .sl] 10 1 (eCons 0 10 x8 eNil) s fun x9 s =>
appB 10 152 x3 x9 s fun x10 s =>
vIaS x0 (ci 1) 6 fun x11 =>
fa1 x11 5 fun x12 =>
zSt x12 x10 1 s fun _ s =>
vIaS x0 (ci 2) 6 fun x14 =>
fa1 x14 5 fun x15 =>
ldA x15 take1 s fun x16 s =>
vBld [.int .i64 0, .int .i64 0, .str [], .str []] (eCons 0 1 (ci 1) (eCons 1 1 (ci 4) eNil)) fun x17 =>
vBld [.int .i64 0, .int .i64 0, .str [], .str []] (eCons 0 1 (ci 60) eNil) fun x18 =>
vBld [.int .i64 0, .int .i64 0, .str [], .str []] (eCons 0 1 (ci 46) eNil) fun x19 =>
zHbs [.int .i64 0, .int .i64 0, .str [], .str [], .int .i64 0, .int .i64 0, .str [], .str [], .int .i64 0, .int .i64 0, .str [], .str []] 4 3 (eCons 0 4 x17 (eCons 4 4 x18 (eCons 8 4 x19 eNil))) s fun x20 s =>
vBld [.str [], .nil .sl, .str [], .bool false, .bool false, .int .i64 0, .int .i64 0, .nil .sl, .nil .sl, .nil .sl] (eCons 0 1 (.str [36, 105, 110, 105, 116]) (eCons 2 1 (.str [86]) (eCons 3 1 ct (eCons 6 1 (ci 1) (eCons 7 1 x20 eNil))))) fun x21 =>
zBsl [.str [], .nil .sl, .str [], .bool false, .bool false, .int .i64 0, .int .i64 0, .nil .sl, .nil .sl, .nil .sl] 10 1 (eCons 0 10 x21 eNil) s fun x22 s =>
appB 10 152 x16 x22 s fun x23 s =>
vIaS x0 (ci 2) 6 fun x24 =>
fa1 x24 5 fun x25 =>
zSt x25 x23 1 s fun _ s =>
K x0 s)
def F23 : F2 := .fn H23 true
theorem fe23 : feE Tryz.prog ann 23 0 [] = some F23 := by kernel_rfl
/- daguerre/daguerrelaw19.Begun -/
def H24 : F2C := fun c _ v s K =>
endE v (
c (.mk .d0 .d0 .d0 .d7) [] s fun x0 s =>
K x0 s)
def F24 : F2 := .pur H24 true mNo
theorem fe24 : feE Tryz.prog ann 24 0 [] = some F24 := by kernel_rfl
def M24 (k : Nat) : F2 := .pur H24 true (Bool.rec mNo (mVal (.bool true)) (Nat.ble 11 k))
/- daguerre/hier.New -/
def H25 : F2C := fun c k v s K =>
pop v fun x0 v =>
endE v (
vLenS x0 fun x1 =>
bGt x1 (ci 16) fun x2 =>
cnd x2 (none)
(c (.mk .d0 .d0 .d6 .d0) [] s fun x3 s =>
zMkm s fun x4 s =>
vBld [.nil .sl, .nil .map] (eCons 0 1 x3 (eCons 1 1 x4 eNil)) fun x5 =>
zBox true x5 s fun x6 s =>
boxD false [.nil .ptr] s fun x7 s =>
zSt x7 x6 1 s fun _ s =>
ldA x7 take1 s fun x9 s =>
vChk x9 fun x10 =>
fa1 x10 0 fun x11 =>
ldA x11 take1 s fun x12 s =>
vLenS x12 fun x13 =>
jn (fun _ s =>
vLenS x0 fun x15 =>
jn (fun _ s =>
vLenS x0 fun x17 =>
jn (fun _ s =>
vLenS x0 fun x19 =>
jn (fun _ s =>
ldA x7 take1 s fun x21 s =>
K (.tup [x21, (ci 0)]) s) fun K20 =>
loopE k (fun K22 v s =>
pop v fun x23 _ =>
bLt x23 x19 fun x24 =>
cnd x24 (jn (fun _ s =>
bAdd x23 (ci 1) fun x26 =>
K22 [x26] s) fun K25 =>
vIaS x0 x23 6 fun x27 =>
ldA x27 (takeN 6) s fun x28 s =>
boxD false [.str [], .str [], .bool false, .nil .sl, .nil .sl, .nil .sl] s fun x29 s =>
zSt x29 x28 6 s fun _ s =>
ldA x7 take1 s fun x31 s =>
ldA x29 (takeN 6) s fun x32 s =>
c (.mk .d0 .d0 .d6 .d6) [x31, x32] s fun x33 s =>
vGen (.un .not (.c x33)) fun x34 =>
cnd x34 (none)
(K25 [] s))
(K20 [] s)) [(ci 0)] s) fun K18 =>
loopE k (fun K35 v s =>
pop v fun x36 _ =>
bLt x36 x17 fun x37 =>
cnd x37 (jn (fun _ s =>
bAdd x36 (ci 1) fun x39 =>
K35 [x39] s) fun K38 =>
vIaS x0 x36 6 fun x40 =>
ldA x40 (takeN 6) s fun x41 s =>
boxD false [.str [], .str [], .bool false, .nil .sl, .nil .sl, .nil .sl] s fun x42 s =>
zSt x42 x41 6 s fun _ s =>
ldA x42 (takeN 6) s fun x44 s =>
c (.mk .d0 .d0 .d6 .d3) [x44] s fun x45 s =>
vGen (.mkf 52 [] [(.c x7)]) fun x46 =>
c (.mk .d0 .d0 .d6 .d2) [x45, x46] s fun x47 s =>
cnd x47 (none)
(K38 [] s))
(K18 [] s)) [(ci 0)] s) fun K16 =>
loopE k (fun K48 v s =>
pop v fun x49 _ =>
bLt x49 x15 fun x50 =>
cnd x50 (jn (fun _ s =>
bAdd x49 (ci 1) fun x52 =>
K48 [x52] s) fun K51 =>
vIaS x0 x49 6 fun x53 =>
ldA x53 (takeN 6) s fun x54 s =>
boxD false [.str [], .str [], .bool false, .nil .sl, .nil .sl, .nil .sl] s fun x55 s =>
zSt x55 x54 6 s fun _ s =>
lgE (qLdE x7 1) (ldA x7 take1) s fun x57 e58 s =>
lgE qNoE (zV (vChk x57)) s fun x59 e60 s =>
lgE qNoE (zV (fa1 x59 1)) s fun x61 e62 s =>
lgE (qLdE x61 1) (ldA x61 take1) s fun x63 e64 s =>
lgE qNoE (zV (fa1 x55 0)) s fun x65 e66 s =>
lgE (qLdE x65 1) (ldA x65 take1) s fun x67 e68 s =>
lgE qNoE (zLku .str (.int .i64 0) x63 x67 true) s fun x69 e70 s =>
lgE qNoE (zK x69) s fun x71 e72 s =>
lgE qNoE (zV (vExt x71 0)) s fun x73 e74 s =>
lgE qNoE (zV (vExt x71 1)) s fun x75 e76 s =>
lgE qNoE (zK x73) s fun _ e78 s =>
lgE qNoE (zK x75) s fun x79 e80 s =>
calmE [(0, 5), (3, 5)] [e58, e60, e62, e64, e66, e68, e70, e72, e74, e76, e78, e80] (fun s =>
gH x79 false (ldA x55 (takeN 6)) s fun x81 s =>
gH x79 false (c (.mk .d0 .d0 .d6 .d1) [x81]) s fun x82 s =>
gV x79 false (vGen (.un .not (.c x82))) fun x83 =>
vPick x79 ct x83 fun x84 =>
cnd x84 (K (.tup [(.nil .ptr), (ci 1)]) s)
(lgE (qLdE x7 1) (ldA x7 take1) s fun x85 e86 s =>
lgE qNoE (zV (vChk x85)) s fun x87 e88 s =>
lgE qNoE (zV (fa1 x87 1)) s fun x89 e90 s =>
lgE (qLdE x89 1) (ldA x89 take1) s fun x91 e92 s =>
lgE qNoE (zV (fa1 x55 0)) s fun x93 e94 s =>
lgE (qLdE x93 1) (ldA x93 take1) s fun x95 e96 s =>
lgE (qLdE x7 1) (ldA x7 take1) s fun x97 e98 s =>
lgE qNoE (zV (vChk x97)) s fun x99 e100 s =>
lgE qNoE (zV (fa1 x99 0)) s fun x101 e102 s =>
lgE (qLdE x101 1) (ldA x101 take1) s fun x103 e104 s =>
lgE qNoE (zV (vLenS x103)) s fun x105 e106 s =>
lgE qNoE (zMup .str x91 x95 x105) s fun _ e108 s =>
calmE [(0, 5), (3, 5), (0, 6), (3, 6), (5, 6), (0, 9), (3, 9), (5, 9), (0, 10), (3, 10), (5, 10)] [e86, e88, e90, e92, e94, e96, e98, e100, e102, e104, e106, e108] (fun s =>
lgE (qLdE x7 1) (ldA x7 take1) s fun x109 e110 s =>
lgE (qLdE x7 1) (ldA x7 take1) s fun x111 e112 s =>
lgE qNoE (zV (vChk x111)) s fun x113 e114 s =>
lgE qNoE (zV (fa1 x113 0)) s fun x115 e116 s =>
lgE (qLdE x115 1) (ldA x115 take1) s fun x117 e118 s =>
lgE (qLdE x55 6) (ldA x55 (takeN 6)) s fun x119 e120 s =>
lgE qNoE (zBsl [.str [], .str [], .bool false, .nil .sl, .nil .sl, .nil .sl] 6 1 (eCons 0 6 x119 eNil)) s fun x121 e122 s =>
lgE qNoE (appB 6 112 x117 x121) s fun x123 e124 s =>
lgE qNoE (zV (vChk x109)) s fun x125 e126 s =>
lgE qNoE (zV (fa1 x125 0)) s fun x127 e128 s =>
lgE qNoE (zSt x127 x123 1) s fun _ e130 s =>
calmE [(0, 1), (0, 4), (0, 5), (1, 5), (4, 5), (0, 6), (1, 6), (4, 6), (0, 7)] [e110, e112, e114, e116, e118, e120, e122, e124, e126, e128, e130] (fun s =>
K51 [] s) s) s)) s)
(K16 [] s)) [(ci 0)] s) fun K14 =>
loopE k (fun K131 v s =>
pop v fun x132 _ =>
bLt x132 x13 fun x133 =>
cnd x133 (jn (fun _ s =>
bAdd x132 (ci 1) fun x135 =>
K131 [x135] s) fun K134 =>
vIaS x12 x132 6 fun x136 =>
ldA x136 (takeN 6) s fun x137 s =>
boxD false [.str [], .str [], .bool false, .nil .sl, .nil .sl, .nil .sl] s fun x138 s =>
zSt x138 x137 6 s fun _ s =>
lgE (qLdE x7 1) (ldA x7 take1) s fun x140 e141 s =>
lgE qNoE (zV (vChk x140)) s fun x142 e143 s =>
lgE qNoE (zV (fa1 x142 1)) s fun x144 e145 s =>
lgE (qLdE x144 1) (ldA x144 take1) s fun x146 e147 s =>
lgE qNoE (zV (fa1 x138 0)) s fun x148 e149 s =>
lgE (qLdE x148 1) (ldA x148 take1) s fun x150 e151 s =>
lgE qNoE (zK x132) s fun x152 e153 s =>
lgE qNoE (zMup .str x146 x150 x152) s fun _ e155 s =>
calmE [(0, 5), (3, 5)] [e141, e143, e145, e147, e149, e151, e153, e155] (fun s =>
K134 [] s) s)
(K14 [] s)) [(ci 0)] s))
def F25 : F2 := .fn H25 true
theorem fe25 : feE Tryz.prog ann 25 1 [.cl, .j [], .j [27], .j [], .j [], .j [], .j [42], .j [], .j [], .j [], .j [], .j [86], .j [], .j [], .cl, .j [], .j [97], .j [], .j [], .cl] = some F25 := by kernel_rfl
/- daguerre/closed.Linked -/
def H26 : F2C := fun c k v s K =>
pop v fun x0 v =>
endE v (
c (.mk .d0 .d0 .d3 .d6) [x0] s fun x1 s =>
vLenS x1 fun x2 =>
jn (fun _ s =>
c (.mk .d0 .d0 .d3 .d6) [x0] s fun x4 s =>
vLenS x4 fun x5 =>
jn (fun _ s =>
K (ci 0) s) fun K6 =>
loopE k (fun K7 v s =>
pop v fun x8 _ =>
bLt x8 x5 fun x9 =>
cnd x9 (jn (fun _ s =>
bAdd x8 (ci 1) fun x11 =>
K7 [x11] s) fun K10 =>
vIaS x4 x8 1 fun x12 =>
ldA x12 take1 s fun x13 s =>
c (.mk .d0 .d0 .d4 .d3) [x0, x13] s fun x14 s =>
vExt x14 0 fun x15 =>
vExt x14 1 fun _ =>
boxD false [.str [], .str [], .bool false, .nil .sl, .nil .sl, .nil .sl] s fun x17 s =>
zSt x17 x15 6 s fun _ s =>
ldA x17 (takeN 6) s fun x19 s =>
c (.mk .d0 .d0 .d7 .d0) [x0, x19] s fun x20 s =>
vGen (.un .not (.c x20)) fun x21 =>
gK x21 false x0 fun x22 =>
gH x21 false (ldA x17 (takeN 6)) s fun x23 s =>
gH x21 false (c (.mk .d0 .d0 .d7 .d1) [x22, x23]) s fun x24 s =>
gV x21 false (vGen (.un .not (.c x24))) fun x25 =>
vPick x21 ct x25 fun x26 =>
cnd x26 (K (ci 1) s)
(K10 [] s))
(K6 [] s)) [(ci 0)] s) fun K3 =>
loopE k (fun K27 v s =>
pop v fun x28 _ =>
bLt x28 x2 fun x29 =>
cnd x29 (jn (fun _ s =>
bAdd x28 (ci 1) fun x31 =>
K27 [x31] s) fun K30 =>
vIaS x1 x28 1 fun x32 =>
ldA x32 take1 s fun x33 s =>
c (.mk .d0 .d0 .d4 .d3) [x0, x33] s fun x34 s =>
vExt x34 0 fun x35 =>
vExt x34 1 fun _ =>
boxD false [.str [], .str [], .bool false, .nil .sl, .nil .sl, .nil .sl] s fun x37 s =>
zSt x37 x35 6 s fun _ s =>
ldA x37 (takeN 6) s fun x39 s =>
c (.mk .d0 .d0 .d6 .d7) [x0, x39] s fun x40 s =>
vGen (.un .not (.c x40)) fun x41 =>
cnd x41 (none)
(K30 [] s))
(K3 [] s)) [(ci 0)] s)
def F26 : F2 := .fn H26 true
theorem fe26 : feE Tryz.prog ann 26 1 [.j [], .j [14], .j [], .j [], .cl, .j [], .j [32], .j [], .j [], .j []] = some F26 := by kernel_rfl
/- daguerre/link.Method -/
def H27 : F2C := fun c _ v s K =>
pop v fun x0 v =>
pop v fun x1 v =>
pop v fun x2 v =>
endE v (
boxD false [.str [], .nil .sl, .str [], .bool false, .bool false, .int .i64 0, .int .i64 0, .nil .sl, .nil .sl, .nil .sl] s fun x3 s =>
c (.mk .d0 .d0 .d7 .d3) [x0, x1] s fun x4 s =>
c (.mk .d0 .d0 .d7 .d2) [x0, x4, x2, (.fn 60 [] [])] s fun x5 s =>
vExt x5 0 fun x6 =>
vExt x5 1 fun x7 =>
vExt x5 2 fun x8 =>
zSt x3 x7 10 s fun _ s =>
ldA x3 (takeN 10) s fun x10 s => K (.tup [x6, x10, x8]) s)
def F27 : F2 := .fn H27 true
theorem fe27 : feE Tryz.prog ann 27 3 [] = some F27 := by kernel_rfl
/- daguerre/verify.Method -/
def H28 : F2C := fun c k v s K =>
pop v fun x0 v =>
pop v fun x1 v =>
pop v fun x2 v =>
endE v (
zBox false x0 s fun x3 s =>
ldA x3 take1 s fun x4 s =>
c (.mk .d0 .d0 .d4 .d3) [x4, x1] s fun x5 s =>
vExt x5 0 fun x6 =>
vExt x5 1 fun x7 =>
boxD false [.str [], .str [], .bool false, .nil .sl, .nil .sl, .nil .sl] s fun x8 s =>
zSt x8 x6 6 s fun _ s =>
vGen (.un .not (.c x7)) fun x10 =>
gK x10 false x2 fun x11 =>
gV x10 false (bLt x11 (ci 0)) fun x12 =>
vPick x10 ct x12 fun x13 =>
gK x13 false x2 fun x14 =>
gV x13 false (fa1 x8 5) fun x15 =>
gH x13 false (ldA x15 take1) s fun x16 s =>
gV x13 false (vLenS x16) fun x17 =>
gV x13 false (bGe x14 x17) fun x18 =>
vPick x13 ct x18 fun x19 =>
gV x19 false (fa1 x8 5) fun x20 =>
gH x19 false (ldA x20 take1) s fun x21 s =>
gK x19 false x2 fun x22 =>
gV x19 false (vIaS x21 x22 10) fun x23 =>
gV x19 false (fa1 x23 4) fun x24 =>
gH x19 false (ldA x24 take1) s fun x25 s =>
vPick x19 ct x25 fun x26 =>
cnd x26 (K cf s)
(lgE (qLdE x3 1) (ldA x3 take1) s fun x27 e28 s =>
lgE qNoE (zK x1) s fun x29 e30 s =>
lgE qNoE (zV (fa1 x8 5)) s fun x31 e32 s =>
lgE (qLdE x31 1) (ldA x31 take1) s fun x33 e34 s =>
lgE qNoE (zK x2) s fun x35 e36 s =>
lgE qNoE (zV (vIaS x33 x35 10)) s fun x37 e38 s =>
lgE (qLdE x37 10) (ldA x37 (takeN 10)) s fun x39 e40 s =>
lgE qNoE (zV (vBld [.nil .ptr, .str [], .str [], .nil .sl, .str [], .bool false, .bool false, .int .i64 0, .int .i64 0, .nil .sl, .nil .sl, .nil .sl, .nil .sl, .nil .sl, .bool false] (eCons 0 1 x27 (eCons 1 1 x29 (eCons 2 10 x39 eNil))))) s fun x41 e42 s =>
lgE qNoE (zBox false x41) s fun x43 e44 s =>
lgE qNoE (zK x43) s fun x45 e46 s =>
calmE [(0, 3), (0, 6)] [e28, e30, e32, e34, e36, e38, e40, e42, e44, e46] (fun s =>
vChk x45 fun x47 =>
fa1 x47 2 fun x48 =>
fa1 x48 8 fun x49 =>
ldA x49 take1 s fun x50 s =>
vLenS x50 fun x51 =>
jn (fun _ s =>
lgE qNoE (zK x45) s fun x53 e54 s =>
lgE qNoE (zK x45) s fun x55 e56 s =>
lgE qNoE (zV (vChk x55)) s fun x57 e58 s =>
lgE qNoE (zV (fa1 x57 2)) s fun x59 e60 s =>
lgE qNoE (zV (fa1 x59 2)) s fun x61 e62 s =>
lgE (qLdE x61 1) (ldA x61 take1) s fun x63 e64 s =>
lgE qNoE (zV (bEqF x63 (.str [86]))) s fun x65 e66 s =>
lgE qNoE (zK x65) s fun x67 e68 s =>
lgE (qGE x67 false (qLdE x3 1)) (zG x67 false (ldA x3 take1)) s fun x69 e70 s =>
lgE (qGE x67 false qNoE) (zG x67 false (zK x45)) s fun x71 e72 s =>
lgE (qGE x67 false qNoE) (zG x67 false (zV (vChk x71))) s fun x73 e74 s =>
lgE (qGE x67 false qNoE) (zG x67 false (zV (fa1 x73 2))) s fun x75 e76 s =>
lgE (qGE x67 false qNoE) (zG x67 false (zV (fa1 x75 2))) s fun x77 e78 s =>
lgE (qGE x67 false (qLdE x77 1)) (zG x67 false (ldA x77 take1)) s fun x79 e80 s =>
lgE (qGE x67 false qNoE) (zG x67 false (zK x45)) s fun x81 e82 s =>
lgE (qGE x67 false qNoE) (zG x67 false (zV (vChk x81))) s fun x83 e84 s =>
lgE (qGE x67 false qNoE) (zG x67 false (zV (fa1 x83 2))) s fun x85 e86 s =>
lgE (qGE x67 false qNoE) (zG x67 false (zV (fa1 x85 2))) s fun x87 e88 s =>
lgE (qGE x67 false (qLdE x87 1)) (zG x67 false (ldA x87 take1)) s fun x89 e90 s =>
lgE (qGE x67 false qNoE) (zG x67 false (c (.mk .d0 .d1 .d0 .d1) [x69, x79, x89])) s fun x91 e92 s =>
lgE qNoE (zV (vPick x67 ct x91)) s fun x93 e94 s =>
lgE qNoE (c (.mk .d0 .d0 .d7 .d7) [x53, x93]) s fun _ e96 s =>
calmE [(8, 13), (8, 18), (13, 18)] [e54, e56, e58, e60, e62, e64, e66, e68, e70, e72, e74, e76, e78, e80, e82, e84, e86, e88, e90, e92, e94, e96] (fun s =>
vChk x45 fun x97 =>
fa1 x97 2 fun x98 =>
fa1 x98 1 fun x99 =>
ldA x99 take1 s fun x100 s =>
vGen (.mkf 66 [] [(.c x3)]) fun x101 =>
c (.mk .d0 .d1 .d0 .d0) [x100, x101] s fun x102 s =>
c (.mk .d0 .d0 .d7 .d7) [x45, x102] s fun _ s =>
vChk x45 fun x104 =>
fa1 x104 2 fun x105 =>
fa1 x105 3 fun x106 =>
ldA x106 take1 s fun x107 s =>
vGen (.un .not (.c x107)) fun x108 =>
jn (fun _ s =>
lgE qNoE (zK x45) s fun x110 e111 s =>
lgE qNoE (zK x45) s fun x112 e113 s =>
lgE qNoE (zV (vChk x112)) s fun x114 e115 s =>
lgE qNoE (zV (fa1 x114 12)) s fun x116 e117 s =>
lgE (qLdE x116 1) (ldA x116 take1) s fun x118 e119 s =>
lgE qNoE (zK x45) s fun x120 e121 s =>
lgE qNoE (zV (vChk x120)) s fun x122 e123 s =>
lgE qNoE (zV (fa1 x122 2)) s fun x124 e125 s =>
lgE qNoE (zV (fa1 x124 1)) s fun x126 e127 s =>
lgE (qLdE x126 1) (ldA x126 take1) s fun x128 e129 s =>
lgE qNoE (appB 1 16 x118 x128) s fun x130 e131 s =>
lgE qNoE (zV (vChk x110)) s fun x132 e133 s =>
lgE qNoE (zV (fa1 x132 12)) s fun x134 e135 s =>
lgE qNoE (zSt x134 x130 1) s fun _ e137 s =>
calmE [(4, 9)] [e111, e113, e115, e117, e119, e121, e123, e125, e127, e129, e131, e133, e135, e137] (fun s =>
jn (fun _ s =>
vChk x45 fun x139 =>
fa1 x139 2 fun x140 =>
fa1 x140 7 fun x141 =>
ldA x141 take1 s fun x142 s =>
vLenS x142 fun x143 =>
jn (fun _ s =>
vChk x45 fun x145 =>
fa1 x145 14 fun x146 =>
ldA x146 take1 s fun x147 s =>
vGen (.un .not (.c x147)) fun x148 =>
K x148 s) fun K144 =>
loopE k (fun K149 v s =>
pop v fun x150 v =>
pop v fun x151 _ =>
bLt x150 x143 fun x152 =>
cnd x152 (jn (fun v s =>
pop v fun x154 _ =>
bAdd x150 (ci 1) fun x155 =>
K149 [x155, x154] s) fun K153 =>
vIaS x142 x150 4 fun x156 =>
ldA x156 (takeN 4) s fun x157 s =>
boxD false [.int .i64 0, .int .i64 0, .str [], .str []] s fun x158 s =>
zSt x158 x157 4 s fun _ s =>
c (.mk .d0 .d1 .d0 .d3) [x45, x150, x151] s fun _ s =>
vChk x45 fun x161 =>
fa1 x161 14 fun x162 =>
ldA x162 take1 s fun x163 s =>
cnd x163 (none)
(c (.mk .d0 .d1 .d0 .d4) [x45, x150] s fun _ s =>
ldA x158 (takeN 4) s fun x165 s =>
c (.mk .d0 .d1 .d0 .d5) [x45, x165] s fun _ s =>
fa1 x158 0 fun x167 =>
ldA x167 take1 s fun x168 s =>
c (.mk .d0 .d1 .d0 .d6) [x168] s fun x169 s =>
cnd x169 (none)
(lgE qNoE (zK x45) s fun x170 e171 s =>
lgE qNoE (zK x45) s fun x172 e173 s =>
lgE qNoE (zV (vChk x172)) s fun x174 e175 s =>
lgE qNoE (zV (fa1 x174 13)) s fun x176 e177 s =>
lgE (qLdE x176 1) (ldA x176 take1) s fun x178 e179 s =>
lgE qNoE (zV (vLenS x178)) s fun x180 e181 s =>
lgE qNoE (zK x45) s fun x182 e183 s =>
lgE qNoE (zV (vChk x182)) s fun x184 e185 s =>
lgE qNoE (zV (fa1 x184 2)) s fun x186 e187 s =>
lgE qNoE (zV (fa1 x186 6)) s fun x188 e189 s =>
lgE (qLdE x188 1) (ldA x188 take1) s fun x190 e191 s =>
lgE qNoE (zV (bLe x180 x190)) s fun x192 e193 s =>
lgE qNoE (c (.mk .d0 .d0 .d7 .d7) [x170, x192]) s fun _ e195 s =>
calmE [(4, 10), (5, 10)] [e171, e173, e175, e177, e179, e181, e183, e185, e187, e189, e191, e193, e195] (fun s =>
fa1 x158 0 fun x196 =>
ldA x196 take1 s fun x197 s =>
c (.mk .d0 .d1 .d1 .d0) [x197] s fun x198 s =>
vGen (.un .not (.c x198)) fun x199 =>
K153 [x199] s) s)))
(K144 [] s)) [(ci 0), ct] s) fun K138 =>
loopE k (fun _ _ s =>
lgE qNoE (zK x45) s fun x201 e202 s =>
lgE qNoE (zV (vChk x201)) s fun x203 e204 s =>
lgE qNoE (zV (fa1 x203 12)) s fun x205 e206 s =>
lgE (qLdE x205 1) (ldA x205 take1) s fun x207 e208 s =>
lgE qNoE (zV (vLenS x207)) s fun x209 e210 s =>
lgE qNoE (zK x45) s fun x211 e212 s =>
lgE qNoE (zV (vChk x211)) s fun x213 e214 s =>
lgE qNoE (zV (fa1 x213 2)) s fun x215 e216 s =>
lgE qNoE (zV (fa1 x215 5)) s fun x217 e218 s =>
lgE (qLdE x217 1) (ldA x217 take1) s fun x219 e220 s =>
lgE qNoE (zV (bLt x209 x219)) s fun x221 e222 s =>
calmE [(3, 9), (4, 9)] [e202, e204, e206, e208, e210, e212, e214, e216, e218, e220, e222] (fun s =>
cnd x221 (none)
(K138 [] s)) s) [] s) s) fun K109 =>
cnd x108 (vChk x45 fun x223 =>
fa1 x223 12 fun x224 =>
ldA x224 take1 s fun x225 s =>
zBsl [.str []] 1 1 (eCons 0 1 x1 eNil) s fun x226 s =>
appB 1 16 x225 x226 s fun x227 s =>
vChk x45 fun x228 =>
fa1 x228 12 fun x229 =>
zSt x229 x227 1 s fun _ s =>
K109 [] s)
(K109 [] s)) s) fun K52 =>
loopE k (fun _ v s =>
pop v fun x232 _ =>
bLt x232 x51 fun x233 =>
cnd x233 (none)
(K52 [] s)) [(ci 0)] s) s))
def F28 : F2 := .fn H28 true
theorem fe28 : feE Tryz.prog ann 28 3 [.j [], .j [], .j [58], .cl, .j [], .j [], .j [], .j [], .cl, .j [], .j [], .j [162, 13], .j [], .j [13], .cl, .cl] = some F28 := by kernel_rfl
/- daguerre/hier.Given -/
def H29 : F2C := fun _ _ v s K =>
endE v (
zHbs [.str [], .str [], .str [], .str [], .str [], .str [], .str [], .str [], .str [], .str []] 1 10 (eCons 0 1 (.str [79, 98, 106, 101, 99, 116]) (eCons 1 1 (.str [84, 104, 114, 111, 119, 110]) (eCons 2 1 (.str [78, 117, 108, 108, 69, 114, 114]) (eCons 3 1 (.str [82, 97, 110, 103, 101, 69, 114, 114]) (eCons 4 1 (.str [77, 97, 116, 104, 69, 114, 114]) (eCons 5 1 (.str [67, 97, 115, 116, 69, 114, 114]) (eCons 6 1 (.str [83, 105, 122, 101, 69, 114, 114]) (eCons 7 1 (.str [83, 116, 111, 114, 101, 69, 114, 114]) (eCons 8 1 (.str [73, 110, 105, 116, 69, 114, 114]) (eCons 9 1 (.str [67, 108, 97, 115, 115, 69, 114, 114]) eNil)))))))))) s fun x0 s =>
K x0 s)
def F29 : F2 := .fn H29 true
theorem fe29 : feE Tryz.prog ann 29 0 [] = some F29 := by kernel_rfl
/- (*daguerre/hier.Hier).Names -/
def H30 : F2C := fun _ k v s K =>
pop v fun x0 v =>
endE v (
vNil false .ptr x0 fun x1 =>
cnd x1 (none)
(vChk x0 fun x2 =>
fa1 x2 0 fun x3 =>
ldA x3 take1 s fun x4 s =>
vLenS x4 fun x5 =>
jn (fun v s =>
pop v fun x7 _ =>
K x7 s) fun K6 =>
loopE k (fun K8 v s =>
pop v fun x9 v =>
pop v fun x10 _ =>
bLt x9 x5 fun x11 =>
cnd x11 (jn (fun v s =>
pop v fun x13 _ =>
bAdd x9 (ci 1) fun x14 =>
K8 [x14, x13] s) fun K12 =>
vIaS x4 x9 6 fun x15 =>
ldA x15 (takeN 6) s fun x16 s =>
boxD false [.str [], .str [], .bool false, .nil .sl, .nil .sl, .nil .sl] s fun x17 s =>
zSt x17 x16 6 s fun _ s =>
fa1 x17 0 fun x19 =>
ldA x19 take1 s fun x20 s =>
zBsl [.str []] 1 1 (eCons 0 1 x20 eNil) s fun x21 s =>
appB 1 16 x10 x21 s fun x22 s =>
K12 [x22] s)
(K6 [x10] s)) [(ci 0), (.nil .sl)] s))
def F30 : F2 := .fn H30 true
theorem fe30 : feE Tryz.prog ann 30 1 [.cl, .j [3], .j [13, 3], .j [], .j [3]] = some F30 := by kernel_rfl
/- slices.Contains[[]string,string] -/
def H31 : F2C := fun c _ v s K =>
pop v fun x0 v =>
pop v fun x1 v =>
endE v (
c (.mk .d0 .d1 .d1 .d1) [x0, x1] s fun x2 s =>
bGe x2 (ci 0) fun x3 =>
K x3 s)
def F31 : F2 := .fn H31 true
theorem fe31 : feE Tryz.prog ann 31 2 [] = some F31 := by kernel_rfl
/- daguerre/effect.movable -/
def H32 : F2C := fun c _ v s K =>
pop v fun x0 v =>
pop v fun x1 v =>
pop v fun x2 v =>
endE v (
zBox false x1 s fun x3 s =>
zBox false x2 s fun x4 s =>
ldA x3 take1 s fun x5 s =>
c (.mk .d0 .d0 .d4 .d3) [x0, x5] s fun x6 s =>
vExt x6 0 fun x7 =>
vExt x6 1 fun _ =>
boxD false [.str [], .str [], .bool false, .nil .sl, .nil .sl, .nil .sl] s fun x9 s =>
zSt x9 x7 6 s fun _ s =>
ldA x4 take1 s fun x11 s =>
fa1 x9 1 fun x12 =>
ldA x12 take1 s fun x13 s =>
c (.mk .d0 .d0 .d3 .d7) [x11, x13] s fun x14 s =>
vGen (.un .not (.c x14)) fun x15 =>
cnd x15 (K cf s)
(ldA x9 (takeN 6) s fun x16 s =>
c (.mk .d0 .d0 .d4 .d4) [x16, (.str [36, 105, 110, 105, 116])] s fun x17 s =>
bLt x17 (ci 0) fun x18 =>
cnd x18 (K ct s)
(ldA x3 take1 s fun x19 s =>
c (.mk .d0 .d0 .d1 .d6) [x0, x19] s fun x20 s =>
vExt x20 0 fun x21 =>
vExt x20 1 fun x22 =>
vExt x20 2 fun x23 =>
vGen (.mkf 74 [] [(.c x3)]) fun x24 =>
c (.mk .d0 .d0 .d6 .d2) [x22, x24] s fun x25 s =>
vGen (.un .not (.c x21)) fun x26 =>
gK x26 true x25 fun x27 =>
gV x26 true (vGen (.un .not (.c x27))) fun x28 =>
vPick x26 x28 cf fun x29 =>
gK x29 true x23 fun x30 =>
gV x29 true (vGen (.mkf 75 [] [(.c x3), (.c x4)])) fun x31 =>
gH x29 true (c (.mk .d0 .d0 .d6 .d2) [x30, x31]) s fun x32 s =>
gV x29 true (vGen (.un .not (.c x32))) fun x33 =>
vPick x29 x33 cf fun x34 =>
K x34 s)))
def F32 : F2 := .fn H32 true
theorem fe32 : feE Tryz.prog ann 32 3 [.j [], .j []] = some F32 := by kernel_rfl
/- daguerre/effect.Movable$1 -/
def H34 : F2C := fun c _ v s K =>
pop v fun x0 v =>
pop v fun x1 v =>
endE v (
ldA x1 take1 s fun x2 s =>
c (.mk .d0 .d0 .d3 .d7) [x2, x0] s fun x3 s =>
vGen (.un .not (.c x3)) fun x4 =>
K x4 s)
def F34 : F2 := .fn H34 true
theorem fe34 : feE Tryz.prog ann 34 2 [] = some F34 := by kernel_rfl
/- slices.DeleteFunc[[]string,string] -/
def H33 : F2C := fun c k v s K =>
pop v fun x0 v =>
pop v fun x1 v =>
endE v (
c (.mk .d0 .d1 .d1 .d4) [x0, x1] s fun x2 s =>
bEqF x2 (.int .i64 (-1)) fun x3 =>
cnd x3 (K x0 s)
(bAdd x2 (ci 1) fun x4 =>
jn (fun v s =>
pop v fun x6 _ =>
vSlt x0 (eX x6) eN 1 fun x7 =>
zClr 1 [.str []] x7 s fun _ s =>
vSlt x0 eN (eX x6) 1 fun x9 =>
K x9 s) fun K5 =>
loopE k (fun K10 v s =>
pop v fun x11 v =>
pop v fun x12 _ =>
vLenS x0 fun x13 =>
bLt x11 x13 fun x14 =>
cnd x14 (jn (fun v s =>
pop v fun x16 _ =>
bAdd x11 (ci 1) fun x17 =>
K10 [x17, x16] s) fun K15 =>
vIaS x0 x11 1 fun x18 =>
ldA x18 take1 s fun x19 s =>
zCallV c x1 [x19] s fun x20 s =>
vGen (.un .not (.c x20)) fun x21 =>
jn (fun v s =>
pop v fun x23 _ =>
K15 [x23] s) fun K22 =>
cnd x21 (vIaS x0 x12 1 fun x24 =>
zSt x24 x19 1 s fun _ s =>
bAdd x12 (ci 1) fun x26 =>
K22 [x26] s)
(K22 [x12] s))
(K5 [x12] s)) [x4, x2] s))
def F33 : F2 := .fn H33 true
theorem fe33 : feE Tryz.prog ann 33 2 [.j [], .j [5], .j [6, 5], .j [], .j [5], .j [5]] = some F33 := by kernel_rfl
/- (*daguerre/hier.Hier).Class -/
def H35 : F2C := fun c _ v s K =>
pop v fun x0 v =>
pop v fun x1 v =>
endE v (
boxD false [.str [], .str [], .bool false, .nil .sl, .nil .sl, .nil .sl] s fun x2 s =>
c (.mk .d0 .d0 .d6 .d5) [x0, x1] s fun x3 s =>
vGen (.un .not (.c x3)) fun x4 =>
cnd x4 (vBld [.str [], .str [], .bool false, .nil .sl, .nil .sl, .nil .sl] eNil fun x5 =>
zSt x2 x5 6 s fun _ s =>
ldA x2 (takeN 6) s fun x7 s => K (.tup [x7, cf]) s)
(c (.mk .d0 .d1 .d1 .d5) [x0, x1] s fun x8 s =>
zSt x2 x8 6 s fun _ s =>
ldA x2 (takeN 6) s fun x10 s => K (.tup [x10, ct]) s))
def F35 : F2 := .fn H35 true
theorem fe35 : feE Tryz.prog ann 35 2 [.j []] = some F35 := by kernel_rfl
/- daguerre/class.Method -/
def H36 : F2C := fun c _ v s K =>
pop v fun x0 v =>
pop v fun x1 v =>
endE v (
zTbox x0 s fun x2 s =>
zBox false x1 s fun x3 s =>
fa1 x2 5 fun x4 =>
ldA x4 take1 s fun x5 s =>
vGen (.mkf 79 [] [(.c x3)]) fun x6 =>
c (.mk .d0 .d1 .d1 .d6) [x5, x6] s fun x7 s =>
K x7 s)
def F36 : F2 := .fn H36 true
theorem fe36 : feE Tryz.prog ann 36 2 [] = some F36 := by kernel_rfl
/- daguerre/effect.find -/
def H37 : F2C := fun c _ v s K =>
pop v fun x0 v =>
pop v fun x1 v =>
endE v (
boxD false [.str [], .nil .sl, .str [], .bool false, .bool false, .int .i64 0, .int .i64 0, .nil .sl, .nil .sl, .nil .sl] s fun x2 s =>
c (.mk .d0 .d1 .d2 .d0) [x1, (.str [46])] s fun x3 s =>
vExt x3 0 fun x4 =>
vExt x3 1 fun x5 =>
vExt x3 2 fun _ =>
c (.mk .d0 .d0 .d4 .d3) [x0, x4] s fun x7 s =>
vExt x7 0 fun x8 =>
vExt x7 1 fun _ =>
boxD false [.str [], .str [], .bool false, .nil .sl, .nil .sl, .nil .sl] s fun x10 s =>
zSt x10 x8 6 s fun _ s =>
lgE qNoE (zV (fa1 x10 5)) s fun x12 e13 s =>
lgE (qLdE x12 1) (ldA x12 take1) s fun x14 e15 s =>
lgE (qLdE x10 6) (ldA x10 (takeN 6)) s fun x16 e17 s =>
lgE qNoE (zK x5) s fun x18 e19 s =>
lgE qNoE (c (.mk .d0 .d0 .d4 .d4) [x16, x18]) s fun x20 e21 s =>
lgE qNoE (zV (vIaS x14 x20 10)) s fun x22 e23 s =>
lgE (qLdE x22 10) (ldA x22 (takeN 10)) s fun x24 e25 s =>
lgE qNoE (zSt x2 x24 10) s fun _ e27 s =>
calmE [(1, 2), (1, 4)] [e13, e15, e17, e19, e21, e23, e25, e27] (fun s =>
ldA x2 (takeN 10) s K) s)
def F37 : F2 := .fn H37 true
theorem fe37 : feE Tryz.prog ann 37 2 [] = some F37 := by kernel_rfl
/- daguerre/link.Field -/
def H38 : F2C := fun c k v s K =>
pop v fun x0 v =>
pop v fun x1 v =>
pop v fun x2 v =>
endE v (
boxD false [.str [], .str [], .bool false] s fun x3 s =>
c (.mk .d0 .d0 .d7 .d3) [x0, x1] s fun x4 s =>
vLenS x4 fun x5 =>
jn (fun _ s =>
vBld [.str [], .str [], .bool false] eNil fun x7 =>
zSt x3 x7 3 s fun _ s =>
ldA x3 (takeN 3) s fun x9 s => K (.tup [(.str []), x9, cf]) s) fun _ =>
loopE k (fun K10 v s =>
pop v fun x11 _ =>
bLt x11 x5 fun x12 =>
cnd x12 (jn (fun _ s =>
bAdd x11 (ci 1) fun x14 =>
K10 [x14] s) fun K13 =>
vIaS x4 x11 1 fun x15 =>
ldA x15 take1 s fun x16 s =>
c (.mk .d0 .d0 .d4 .d3) [x0, x16] s fun x17 s =>
vExt x17 0 fun x18 =>
vExt x17 1 fun _ =>
boxD false [.str [], .str [], .bool false, .nil .sl, .nil .sl, .nil .sl] s fun x20 s =>
zSt x20 x18 6 s fun _ s =>
ldA x20 (takeN 6) s fun x22 s =>
c (.mk .d0 .d1 .d2 .d1) [x22, x2] s fun x23 s =>
bGe x23 (ci 0) fun x24 =>
cnd x24 (fa1 x20 4 fun x25 =>
ldA x25 take1 s fun x26 s =>
vIaS x26 x23 3 fun x27 =>
ldA x27 (takeN 3) s fun x28 s =>
zSt x3 x28 3 s fun _ s =>
ldA x3 (takeN 3) s fun x30 s => K (.tup [x16, x30, ct]) s)
(K13 [] s))
(none)) [(ci 0)] s)
def F38 : F2 := .fn H38 true
theorem fe38 : feE Tryz.prog ann 38 3 [.j [], .j [18], .cr, .j [], .j []] = some F38 := by kernel_rfl
/- daguerre/effect.Sees$1 -/
def H39 : F2C := fun _ _ v s K =>
pop v fun x0 v =>
pop v fun x1 v =>
endE v (
ldA x1 take1 s fun x2 s =>
zLku .str (.bool false) x2 x0 false s fun x3 s =>
vGen (.un .not (.c x3)) fun x4 =>
K x4 s)
def F39 : F2 := .fn H39 true
theorem fe39 : feE Tryz.prog ann 39 2 [] = some F39 := by kernel_rfl
/- daguerre/daguerrelaw5.One -/
def H40 : F2C := fun _ _ v s K =>
pop v fun x0 v =>
endE v (
boxD false [.str [], .str [], .bool false, .nil .sl, .nil .sl, .nil .sl] s fun x1 s =>
vBld [.str [], .str [], .bool false] (eCons 0 1 (.str [120]) (eCons 1 1 (.str [73]) eNil)) fun x2 =>
zHbs [.str [], .str [], .bool false] 3 1 (eCons 0 3 x2 eNil) s fun x3 s =>
vBld [.int .i64 0, .int .i64 0, .str [], .str []] (eCons 0 1 (ci 46) eNil) fun x4 =>
zHbs [.int .i64 0, .int .i64 0, .str [], .str []] 4 1 (eCons 0 4 x4 eNil) s fun x5 s =>
vBld [.str [], .nil .sl, .str [], .bool false, .bool false, .int .i64 0, .int .i64 0, .nil .sl, .nil .sl, .nil .sl] (eCons 0 1 (.str [109, 97, 105, 110]) (eCons 2 1 (.str [86]) (eCons 3 1 ct (eCons 7 1 x5 eNil)))) fun x6 =>
zHbs [.str [], .nil .sl, .str [], .bool false, .bool false, .int .i64 0, .int .i64 0, .nil .sl, .nil .sl, .nil .sl] 10 1 (eCons 0 10 x6 eNil) s fun x7 s =>
vBld [.str [], .str [], .bool false, .nil .sl, .nil .sl, .nil .sl] (eCons 0 1 x0 (eCons 1 1 (.str [79, 98, 106, 101, 99, 116]) (eCons 4 1 x3 (eCons 5 1 x7 eNil)))) fun x8 =>
zSt x1 x8 6 s fun _ s =>
ldA x1 (takeN 6) s K)
def F40 : F2 := .fn H40 true
theorem fe40 : feE Tryz.prog ann 40 1 [] = some F40 := by kernel_rfl
/- daguerre/reach.begin -/
def H41 : F2C := fun c k v s K =>
pop v fun x0 v =>
pop v fun x1 v =>
endE v (
c (.mk .d0 .d1 .d2 .d2) [] s fun x2 s =>
zMkm s fun x3 s =>
zMkm s fun x4 s =>
vBld [.nil .ptr, .bool false, .nil .ptr, .nil .sl, .nil .sl, .nil .map, .nil .map, .nil .sl] (eCons 0 1 x0 (eCons 1 1 x1 (eCons 2 1 x2 (eCons 5 1 x3 (eCons 6 1 x4 eNil))))) fun x5 =>
zBox true x5 s fun x6 s =>
c (.mk .d0 .d0 .d3 .d6) [x0] s fun x7 s =>
vLenS x7 fun x8 =>
jn (fun _ s =>
c (.mk .d0 .d0 .d3 .d5) [] s fun x10 s =>
vSlt x10 (eX (ci 1)) eN 1 fun x11 =>
vLenS x11 fun x12 =>
jn (fun _ s =>
K x6 s) fun K13 =>
loopE k (fun K14 v s =>
pop v fun x15 _ =>
bLt x15 x12 fun x16 =>
cnd x16 (jn (fun _ s =>
bAdd x15 (ci 1) fun x18 =>
K14 [x18] s) fun K17 =>
vIaS x11 x15 1 fun x19 =>
ldA x19 take1 s fun x20 s =>
c (.mk .d0 .d1 .d2 .d3) [x6, x20] s fun _ s =>
K17 [] s)
(K13 [] s)) [(ci 0)] s) fun K9 =>
loopE k (fun K22 v s =>
pop v fun x23 _ =>
bLt x23 x8 fun x24 =>
cnd x24 (jn (fun _ s =>
bAdd x23 (ci 1) fun x26 =>
K22 [x26] s) fun K25 =>
vIaS x7 x23 1 fun x27 =>
ldA x27 take1 s fun x28 s =>
c (.mk .d0 .d0 .d4 .d3) [x0, x28] s fun x29 s =>
vExt x29 0 fun x30 =>
vExt x29 1 fun _ =>
boxD false [.str [], .str [], .bool false, .nil .sl, .nil .sl, .nil .sl] s fun x32 s =>
zSt x32 x30 6 s fun _ s =>
fa1 x32 5 fun x34 =>
ldA x34 take1 s fun x35 s =>
vLenS x35 fun x36 =>
jn (fun _ s =>
K25 [] s) fun K37 =>
loopE k (fun K38 v s =>
pop v fun x39 _ =>
bLt x39 x36 fun x40 =>
cnd x40 (jn (fun _ s =>
bAdd x39 (ci 1) fun x42 =>
K38 [x42] s) fun K41 =>
vIaS x35 x39 10 fun x43 =>
ldA x43 (takeN 10) s fun x44 s =>
boxD false [.str [], .nil .sl, .str [], .bool false, .bool false, .int .i64 0, .int .i64 0, .nil .sl, .nil .sl, .nil .sl] s fun x45 s =>
zSt x45 x44 10 s fun _ s =>
lgE qNoE (zK x6) s fun x47 e48 s =>
lgE qNoE (zK x6) s fun x49 e50 s =>
lgE qNoE (zK x6) s fun x51 e52 s =>
lgE qNoE (zV (vChk x51)) s fun x53 e54 s =>
lgE qNoE (zV (fa1 x53 3)) s fun x55 e56 s =>
lgE (qLdE x55 1) (ldA x55 take1) s fun x57 e58 s =>
lgE qNoE (zK x28) s fun x59 e60 s =>
lgE qNoE (zV (bAdd x59 (.str [46]))) s fun x61 e62 s =>
lgE qNoE (zV (fa1 x45 0)) s fun x63 e64 s =>
lgE (qLdE x63 1) (ldA x63 take1) s fun x65 e66 s =>
lgE qNoE (zV (bAdd x61 x65)) s fun x67 e68 s =>
lgE qNoE (zBsl [.str []] 1 1 (eCons 0 1 x67 eNil)) s fun x69 e70 s =>
lgE qNoE (appB 1 16 x57 x69) s fun x71 e72 s =>
lgE qNoE (zK x6) s fun x73 e74 s =>
lgE qNoE (zV (vChk x73)) s fun x75 e76 s =>
lgE qNoE (zV (fa1 x75 4)) s fun x77 e78 s =>
lgE (qLdE x77 1) (ldA x77 take1) s fun x79 e80 s =>
lgE qNoE (zK x28) s fun x81 e82 s =>
lgE qNoE (zV (fa1 x45 0)) s fun x83 e84 s =>
lgE (qLdE x83 1) (ldA x83 take1) s fun x85 e86 s =>
lgE qNoE (zV (vBld [.str [], .str []] (eCons 0 1 x81 (eCons 1 1 x85 eNil)))) s fun x87 e88 s =>
lgE qNoE (zBsl [.str [], .str []] 2 1 (eCons 0 2 x87 eNil)) s fun x89 e90 s =>
lgE qNoE (appB 2 32 x79 x89) s fun x91 e92 s =>
lgE qNoE (zV (vChk x47)) s fun x93 e94 s =>
lgE qNoE (zV (fa1 x93 3)) s fun x95 e96 s =>
lgE qNoE (zSt x95 x71 1) s fun _ e98 s =>
lgE qNoE (zV (vChk x49)) s fun x99 e100 s =>
lgE qNoE (zV (fa1 x99 4)) s fun x101 e102 s =>
lgE qNoE (zSt x101 x91 1) s fun _ e104 s =>
calmE [(5, 9), (5, 11), (5, 16), (9, 16), (11, 16), (12, 16), (5, 19), (9, 19), (11, 19), (12, 19), (16, 19), (5, 20), (9, 20), (11, 20), (12, 20), (16, 20), (5, 21), (9, 21), (11, 21), (12, 21), (16, 21)] [e48, e50, e52, e54, e56, e58, e60, e62, e64, e66, e68, e70, e72, e74, e76, e78, e80, e82, e84, e86, e88, e90, e92, e94, e96, e98, e100, e102, e104] (fun s =>
K41 [] s) s)
(K37 [] s)) [(ci 0)] s)
(K9 [] s)) [(ci 0)] s)
def F41 : F2 := .fn H41 true
theorem fe41 : feE Tryz.prog ann 41 2 [.j [], .j [24], .j [], .j [], .j [], .j [37], .j [], .j [], .j [], .j [73], .j [], .j []] = some F41 := by kernel_rfl
/- (*daguerre/reach.Reach).reach -/
def H42 : F2C := fun c _ v s K =>
pop v fun x0 v =>
pop v fun x1 v =>
pop v fun x2 v =>
endE v (
vChk x0 fun x3 =>
fa1 x3 4 fun x4 =>
ldA x4 take1 s fun x5 s =>
vBld [.str [], .str []] (eCons 0 1 x1 (eCons 1 1 x2 eNil)) fun x6 =>
c (.mk .d0 .d1 .d2 .d4) [x5, x6] s fun x7 s =>
bGe x7 (ci 0) fun x8 =>
jn (fun _ s =>
K (.tup []) s) fun K9 =>
cnd x8 (vChk x0 fun x10 =>
fa1 x10 2 fun x11 =>
ldA x11 take1 s fun x12 s =>
c (.mk .d0 .d1 .d2 .d5) [x12, x7, x7] s fun _ s =>
K9 [] s)
(K9 [] s))
def F42 : F2 := .fn H42 true
theorem fe42 : feE Tryz.prog ann 42 3 [.j []] = some F42 := by kernel_rfl
/- (*daguerre/reach.Reach).touch -/
def H43 : F2C := fun c k v s K =>
pop v fun x0 v =>
pop v fun x1 v =>
endE v (
vChk x0 fun x2 =>
fa1 x2 0 fun x3 =>
ldA x3 take1 s fun x4 s =>
c (.mk .d0 .d0 .d7 .d3) [x4, x1] s fun x5 s =>
vLenS x5 fun x6 =>
jn (fun _ s =>
K (.tup []) s) fun K7 =>
loopE k (fun K8 v s =>
pop v fun x9 _ =>
bLt x9 x6 fun x10 =>
cnd x10 (jn (fun _ s =>
bAdd x9 (ci 1) fun x12 =>
K8 [x12] s) fun K11 =>
vIaS x5 x9 1 fun x13 =>
ldA x13 take1 s fun x14 s =>
vChk x0 fun x15 =>
fa1 x15 6 fun x16 =>
ldA x16 take1 s fun x17 s =>
zLku .str (.bool false) x17 x14 false s fun x18 s =>
cnd x18 (K11 [] s)
(vChk x0 fun x19 =>
fa1 x19 6 fun x20 =>
ldA x20 take1 s fun x21 s =>
zMup .str x21 x14 ct s fun _ s =>
vChk x0 fun x23 =>
fa1 x23 1 fun x24 =>
ldA x24 take1 s fun x25 s =>
jn (fun _ s =>
K11 [] s) fun K26 =>
cnd x25 (c (.mk .d0 .d0 .d5 .d2) [x0, x14, (.str [36, 105, 110, 105, 116])] s fun _ s =>
K26 [] s)
(K26 [] s)))
(K7 [] s)) [(ci 0)] s)
def F43 : F2 := .fn H43 true
theorem fe43 : feE Tryz.prog ann 43 2 [.j [], .j [13], .j [], .j [], .j [], .j []] = some F43 := by kernel_rfl
/- (*daguerre/reach.Reach).walk -/
def H44 : F2C := fun c k v s K =>
pop v fun x0 v =>
endE v (
vChk x0 fun x1 =>
fa1 x1 2 fun x2 =>
ldA x2 take1 s fun x3 s =>
c (.mk .d0 .d1 .d2 .d6) [x3] s fun x4 s =>
vExt x4 0 fun x5 =>
vExt x4 1 fun x6 =>
jn (fun _ s =>
K x0 s) fun K7 =>
loopE k (fun K8 v s =>
pop v fun x9 v =>
pop v fun x10 _ =>
cnd x9 (jn (fun _ s =>
vChk x0 fun x12 =>
fa1 x12 2 fun x13 =>
ldA x13 take1 s fun x14 s =>
c (.mk .d0 .d1 .d2 .d6) [x14] s fun x15 s =>
vExt x15 0 fun x16 =>
vExt x15 1 fun x17 =>
K8 [x17, x16] s) fun K11 =>
lgE qNoE (zK x0) s fun x18 e19 s =>
lgE qNoE (zV (vChk x18)) s fun x20 e21 s =>
lgE qNoE (zV (fa1 x20 0)) s fun x22 e23 s =>
lgE (qLdE x22 1) (ldA x22 take1) s fun x24 e25 s =>
lgE qNoE (zK x0) s fun x26 e27 s =>
lgE qNoE (zV (vChk x26)) s fun x28 e29 s =>
lgE qNoE (zV (fa1 x28 4)) s fun x30 e31 s =>
lgE (qLdE x30 1) (ldA x30 take1) s fun x32 e33 s =>
lgE qNoE (zK x10) s fun x34 e35 s =>
lgE qNoE (zV (vIaS x32 x34 2)) s fun x36 e37 s =>
lgE qNoE (zV (fa1 x36 0)) s fun x38 e39 s =>
lgE (qLdE x38 1) (ldA x38 take1) s fun x40 e41 s =>
lgE qNoE (c (.mk .d0 .d0 .d4 .d3) [x24, x40]) s fun x42 e43 s =>
lgE qNoE (zK x42) s fun x44 e45 s =>
lgE qNoE (zV (vExt x44 0)) s fun x46 e47 s =>
lgE qNoE (zV (vExt x44 1)) s fun x48 e49 s =>
lgE qNoE (boxD false [.str [], .str [], .bool false, .nil .sl, .nil .sl, .nil .sl]) s fun x50 e51 s =>
lgE qNoE (zSt x50 x46 6) s fun _ e53 s =>
lgE qNoE (zK x48) s fun _ e55 s =>
calmE [(3, 7), (3, 11), (3, 16), (7, 16), (11, 16), (12, 16)] [e19, e21, e23, e25, e27, e29, e31, e33, e35, e37, e39, e41, e43, e45, e47, e49, e51, e53, e55] (fun s =>
lgE qNoE (zV (fa1 x50 5)) s fun x56 e57 s =>
lgE (qLdE x56 1) (ldA x56 take1) s fun x58 e59 s =>
lgE (qLdE x50 6) (ldA x50 (takeN 6)) s fun x60 e61 s =>
lgE qNoE (zK x0) s fun x62 e63 s =>
lgE qNoE (zV (vChk x62)) s fun x64 e65 s =>
lgE qNoE (zV (fa1 x64 4)) s fun x66 e67 s =>
lgE (qLdE x66 1) (ldA x66 take1) s fun x68 e69 s =>
lgE qNoE (zK x10) s fun x70 e71 s =>
lgE qNoE (zV (vIaS x68 x70 2)) s fun x72 e73 s =>
lgE qNoE (zV (fa1 x72 1)) s fun x74 e75 s =>
lgE (qLdE x74 1) (ldA x74 take1) s fun x76 e77 s =>
lgE qNoE (c (.mk .d0 .d0 .d4 .d4) [x60, x76]) s fun x78 e79 s =>
lgE qNoE (zV (vIaS x58 x78 10)) s fun x80 e81 s =>
lgE (qLdE x80 10) (ldA x80 (takeN 10)) s fun x82 e83 s =>
lgE qNoE (boxD false [.str [], .nil .sl, .str [], .bool false, .bool false, .int .i64 0, .int .i64 0, .nil .sl, .nil .sl, .nil .sl]) s fun x84 e85 s =>
lgE qNoE (zSt x84 x82 10) s fun _ e87 s =>
calmE [(1, 2), (1, 6), (2, 6), (1, 10), (2, 10), (1, 11), (1, 14), (2, 14), (6, 14), (10, 14), (11, 14), (13, 14)] [e57, e59, e61, e63, e65, e67, e69, e71, e73, e75, e77, e79, e81, e83, e85, e87] (fun s =>
fa1 x84 7 fun x88 =>
ldA x88 take1 s fun x89 s =>
vLenS x89 fun x90 =>
jn (fun _ s =>
K11 [] s) fun K91 =>
loopE k (fun K92 v s =>
pop v fun x93 _ =>
bLt x93 x90 fun x94 =>
cnd x94 (jn (fun _ s =>
bAdd x93 (ci 1) fun x96 =>
K92 [x96] s) fun K95 =>
vIaS x89 x93 4 fun x97 =>
ldA x97 (takeN 4) s fun x98 s =>
boxD false [.int .i64 0, .int .i64 0, .str [], .str []] s fun x99 s =>
zSt x99 x98 4 s fun _ s =>
ldA x99 (takeN 4) s fun x101 s =>
c (.mk .d0 .d1 .d2 .d7) [x0, x101] s fun _ s =>
K95 [] s)
(K91 [] s)) [(ci 0)] s) s) s)
(K7 [] s)) [x6, x5] s)
def F44 : F2 := .fn H44 true
theorem fe44 : feE Tryz.prog ann 44 1 [.j [], .j [4, 3], .j [], .j [], .j [], .j [60], .j [], .j []] = some F44 := by kernel_rfl
/- daguerre/daguerrelaw11.begun -/
def H45 : F2C := fun c _ v s K =>
endE v (
c (.mk .d0 .d0 .d1 .d7) [] s fun x0 s =>
vBld [.str [], .str []] (eCons 0 1 (.str [66, 98]) (eCons 1 1 (.str [109, 97, 105, 110]) eNil)) fun x1 =>
c (.mk .d0 .d0 .d1 .d4) [x0, x1] s fun x2 s =>
vExt x2 0 fun x3 =>
vExt x2 1 fun x4 =>
c (.mk .d0 .d0 .d1 .d7) [] s fun x5 s =>
vBld [.str [], .str []] (eCons 0 1 (.str [66, 98]) (eCons 1 1 (.str [102]) eNil)) fun x6 =>
c (.mk .d0 .d0 .d1 .d4) [x5, x6] s fun x7 s =>
vExt x7 0 fun _ =>
vExt x7 1 fun x9 =>
c (.mk .d0 .d0 .d1 .d7) [] s fun x10 s =>
vIaS x10 (ci 1) 6 fun x11 =>
fa1 x11 5 fun x12 =>
zSt x12 (.nil .sl) 1 s fun _ s =>
vBld [.str [], .str []] (eCons 0 1 (.str [66, 98]) (eCons 1 1 (.str [109, 97, 105, 110]) eNil)) fun x14 =>
c (.mk .d0 .d0 .d1 .d4) [x10, x14] s fun x15 s =>
vExt x15 0 fun _ =>
vExt x15 1 fun x17 =>
c (.mk .d0 .d1 .d3 .d0) [] s fun x18 s =>
gK x18 true x4 fun x19 =>
gV x18 true (bEqF x19 (ci 0)) fun x20 =>
vPick x18 x20 cf fun x21 =>
gK x21 true x3 fun x22 =>
gV x21 true (vNil true .ptr x22) fun x23 =>
vPick x21 x23 cf fun x24 =>
gK x24 true x9 fun x25 =>
gV x24 true (bEqF x25 (ci 4)) fun x26 =>
vPick x24 x26 cf fun x27 =>
gK x27 true x17 fun x28 =>
gV x27 true (bEqF x28 (ci 1)) fun x29 =>
vPick x27 x29 cf fun x30 =>
gK x30 true x3 fun x31 =>
gH x30 true (c (.mk .d0 .d0 .d3 .d2) [x31]) s fun x32 s =>
gV x30 true (bEqF x32 (ci 0)) fun x33 =>
vPick x30 x33 cf fun x34 =>
K x34 s)
def F45 : F2 := .pur H45 true mNo
theorem fe45 : feE Tryz.prog ann 45 0 [] = some F45 := by kernel_rfl
/- daguerre/daguerrelaw18.begun -/
def H46 : F2C := fun c _ v s K =>
endE v (
c (.mk .d0 .d1 .d2 .d2) [] s fun x0 s =>
vNil false .ptr x0 fun x1 =>
cnd x1 (none)
(c (.mk .d0 .d1 .d2 .d5) [x0, (ci 2), (ci 5)] s fun x2 s =>
c (.mk .d0 .d1 .d2 .d5) [x0, (ci 1), (ci 9)] s fun x3 s =>
c (.mk .d0 .d1 .d2 .d5) [x0, (ci 1), (ci 7)] s fun x4 s =>
c (.mk .d0 .d1 .d2 .d5) [x0, (ci 0), (ci 5)] s fun x5 s =>
c (.mk .d0 .d1 .d2 .d6) [x0] s fun x6 s =>
vExt x6 0 fun x7 =>
vExt x6 1 fun x8 =>
c (.mk .d0 .d1 .d2 .d6) [x0] s fun x9 s =>
vExt x9 0 fun x10 =>
vExt x9 1 fun _ =>
c (.mk .d0 .d1 .d2 .d6) [x0] s fun x12 s =>
vExt x12 0 fun x13 =>
vExt x12 1 fun _ =>
c (.mk .d0 .d1 .d2 .d6) [x0] s fun x15 s =>
vExt x15 0 fun _ =>
vExt x15 1 fun x17 =>
gK x2 true x3 fun x18 =>
vPick x2 x18 cf fun x19 =>
gK x19 true x4 fun x20 =>
vPick x19 x20 cf fun x21 =>
gK x21 true x5 fun x22 =>
gV x21 true (vGen (.un .not (.c x22))) fun x23 =>
vPick x21 x23 cf fun x24 =>
gK x24 true x7 fun x25 =>
gV x24 true (bEqF x25 (ci 7)) fun x26 =>
vPick x24 x26 cf fun x27 =>
gK x27 true x8 fun x28 =>
vPick x27 x28 cf fun x29 =>
gK x29 true x10 fun x30 =>
gV x29 true (bEqF x30 (ci 9)) fun x31 =>
vPick x29 x31 cf fun x32 =>
gK x32 true x13 fun x33 =>
gV x32 true (bEqF x33 (ci 5)) fun x34 =>
vPick x32 x34 cf fun x35 =>
gK x35 true x17 fun x36 =>
gV x35 true (vGen (.un .not (.c x36))) fun x37 =>
vPick x35 x37 cf fun x38 =>
gK x38 true x0 fun x39 =>
gH x38 true (c (.mk .d0 .d1 .d2 .d5) [x39, (ci 0), (ci 7)]) s fun x40 s =>
gV x38 true (vGen (.un .not (.c x40))) fun x41 =>
vPick x38 x41 cf fun x42 =>
gK x42 true x0 fun x43 =>
gH x42 true (c (.mk .d0 .d0 .d2 .d5) [x43, (ci 7)]) s fun x44 s =>
vPick x42 x44 cf fun x45 =>
gK x45 true x0 fun x46 =>
gH x45 true (c (.mk .d0 .d0 .d2 .d5) [x46, (ci 8)]) s fun x47 s =>
gV x45 true (vGen (.un .not (.c x47))) fun x48 =>
vPick x45 x48 cf fun x49 =>
gK x49 true x0 fun x50 =>
gH x49 true (c (.mk .d0 .d1 .d3 .d1) [x50]) s fun x51 s =>
gV x49 true (bEqF x51 (ci 0)) fun x52 =>
vPick x49 x52 cf fun x53 =>
K x53 s))
def F46 : F2 := .pur H46 true mNo
theorem fe46 : feE Tryz.prog ann 46 0 [.cl] = some F46 := by kernel_rfl
/- (*daguerre/reach.Reach).some$1 -/
def H47 : F2C := fun _ _ v s K =>
pop v fun x0 v =>
pop v fun x1 v =>
endE v (
ldA x1 take1 s fun x2 s =>
zLku .str (.bool false) x2 x0 false s fun x3 s =>
vGen (.un .not (.c x3)) fun x4 =>
K x4 s)
def F47 : F2 := .fn H47 true
theorem fe47 : feE Tryz.prog ann 47 2 [] = some F47 := by kernel_rfl
/- daguerre/hier.given -/
def H48 : F2C := fun c k v s K =>
endE v (
c (.mk .d0 .d0 .d3 .d5) [] s fun x0 s =>
vLenS x0 fun x1 =>
jn (fun v s =>
pop v fun x3 _ =>
K x3 s) fun K2 =>
loopE k (fun K4 v s =>
pop v fun x5 v =>
pop v fun x6 _ =>
bLt x5 x1 fun x7 =>
cnd x7 (jn (fun v s =>
pop v fun x9 _ =>
bAdd x5 (ci 1) fun x10 =>
K4 [x10, x9] s) fun K8 =>
vIaS x0 x5 1 fun x11 =>
ldA x11 take1 s fun x12 s =>
vBld [.str [], .str [], .bool false, .nil .sl, .nil .sl, .nil .sl] (eCons 0 1 x12 (eCons 1 1 (.str [84, 104, 114, 111, 119, 110]) eNil)) fun x13 =>
boxD false [.str [], .str [], .bool false, .nil .sl, .nil .sl, .nil .sl] s fun x14 s =>
zSt x14 x13 6 s fun _ s =>
bLt x5 (ci 2) fun x16 =>
jn (fun _ s =>
ldA x14 (takeN 6) s fun x18 s =>
zBsl [.str [], .str [], .bool false, .nil .sl, .nil .sl, .nil .sl] 6 1 (eCons 0 6 x18 eNil) s fun x19 s =>
appB 6 112 x6 x19 s fun x20 s =>
K8 [x20] s) fun K17 =>
cnd x16 (zBsl [.str [], .str []] 1 2 (eCons 0 1 (.str []) (eCons 1 1 (.str [79, 98, 106, 101, 99, 116]) eNil)) s fun x21 s =>
vIaS x21 x5 1 fun x22 =>
ldA x22 take1 s fun x23 s =>
fa1 x14 1 fun x24 =>
zSt x24 x23 1 s fun _ s =>
K17 [] s)
(K17 [] s))
(K2 [x6] s)) [(ci 0), (.nil .sl)] s)
def F48 : F2 := .fn H48 true
theorem fe48 : feE Tryz.prog ann 48 0 [.j [1], .j [7, 1], .j [], .j [1], .j []] = some F48 := by kernel_rfl
/- daguerre/class.May -/
def H49 : F2C := fun c _ v s K =>
pop v fun x0 v =>
endE v (
zBox false x0 s fun x1 s =>
fa1 x1 2 fun x2 =>
ldA x2 take1 s fun x3 s =>
gV x3 true (fa1 x1 1) fun x4 =>
gH x3 true (ldA x4 take1) s fun x5 s =>
gV x3 true (bEqT x5 (.str [79, 98, 106, 101, 99, 116])) fun x6 =>
gK x3 true x6 fun x7 =>
gV x7 false (fa1 x1 4) fun x8 =>
gH x7 false (ldA x8 take1) s fun x9 s =>
gV x7 false (vLenS x9) fun x10 =>
gV x7 false (bGt x10 (ci 0)) fun x11 =>
gV x3 true (vPick x7 ct x11) fun x12 =>
vPick x3 x12 cf fun x13 =>
cnd x13 (none)
(fa1 x1 4 fun x14 =>
ldA x14 take1 s fun x15 s =>
c (.mk .d0 .d1 .d3 .d2) [x15, (ci 8), (.fn 91 [] []), (.fn 92 [] [])] s fun x16 s =>
fa1 x1 5 fun x17 =>
ldA x17 take1 s fun x18 s =>
vGen (.mkf 97 [] [(.c x1)]) fun x19 =>
c (.mk .d0 .d1 .d3 .d7) [x18, (ci 8), (.fn 96 [] []), x19] s fun x20 s =>
fa1 x1 0 fun x21 =>
ldA x21 take1 s fun x22 s =>
c (.mk .d0 .d1 .d4 .d3) [x22] s fun x23 s =>
gV x23 true (fa1 x1 1) fun x24 =>
gH x23 true (ldA x24 take1) s fun x25 s =>
gH x23 true (c (.mk .d0 .d1 .d4 .d3) [x25]) s fun x26 s =>
vPick x23 x26 cf fun x27 =>
gV x27 true (fa1 x1 3) fun x28 =>
gH x27 true (ldA x28 take1) s fun x29 s =>
gH x27 true (c (.mk .d0 .d1 .d4 .d4) [x29, (ci 4), (.fn 101 [] []), (.fn 99 [] [])]) s fun x30 s =>
vPick x27 x30 cf fun x31 =>
gK x31 true x16 fun x32 =>
vPick x31 x32 cf fun x33 =>
gK x33 true x20 fun x34 =>
vPick x33 x34 cf fun x35 =>
K x35 s))
def F49 : F2 := .fn H49 true
theorem fe49 : feE Tryz.prog ann 49 1 [.cl] = some F49 := by kernel_rfl
/- daguerre/hier.above -/
def H51 : F2C := fun _ _ v s K =>
pop v fun x0 v =>
endE v (
zTbox x0 s fun x1 s =>
fa1 x1 1 fun x2 =>
ldA x2 take1 s fun x3 s =>
zHbs [.str []] 1 1 (eCons 0 1 x3 eNil) s fun x4 s =>
fa1 x1 3 fun x5 =>
ldA x5 take1 s fun x6 s =>
appB 1 16 x4 x6 s fun x7 s =>
K x7 s)
def F51 : F2 := .fn H51 true
theorem fe51 : feE Tryz.prog ann 51 1 [] = some F51 := by kernel_rfl
/- daguerre/hier.New$1 -/
def H52 : F2C := fun c _ v s K =>
pop v fun x0 v =>
pop v fun x1 v =>
endE v (
ldA x1 take1 s fun x2 s =>
c (.mk .d0 .d0 .d6 .d5) [x2, x0] s fun x3 s =>
vGen (.un .not (.c x3)) fun x4 =>
K x4 s)
def F52 : F2 := .fn H52 true
theorem fe52 : feE Tryz.prog ann 52 2 [] = some F52 := by kernel_rfl
/- slices.ContainsFunc[[]string,string] -/
def H50 : F2C := fun c _ v s K =>
pop v fun x0 v =>
pop v fun x1 v =>
endE v (
c (.mk .d0 .d1 .d1 .d4) [x0, x1] s fun x2 s =>
bGe x2 (ci 0) fun x3 =>
K x3 s)
def F50 : F2 := .fn H50 true
theorem fe50 : feE Tryz.prog ann 50 2 [] = some F50 := by kernel_rfl
/- (*daguerre/hier.Hier).fits -/
def H54 : F2C := fun c k v s K =>
pop v fun x0 v =>
pop v fun x1 v =>
endE v (
zBox false x0 s fun x2 s =>
zTbox x1 s fun x3 s =>
ldA x2 take1 s fun x4 s =>
fa1 x3 1 fun x5 =>
ldA x5 take1 s fun x6 s =>
c (.mk .d0 .d1 .d1 .d5) [x4, x6] s fun x7 s =>
vFld x7 2 take1 fun x8 =>
gV x8 false (fa1 x3 3) fun x9 =>
gH x8 false (ldA x9 take1) s fun x10 s =>
gV x8 false (vGen (.mkf 102 [] [(.c x2)])) fun x11 =>
gH x8 false (c (.mk .d0 .d0 .d6 .d2) [x10, x11]) s fun x12 s =>
vPick x8 ct x12 fun x13 =>
cnd x13 (none)
(ldA x3 (takeN 6) s fun x14 s =>
c (.mk .d0 .d0 .d6 .d3) [x14] s fun x15 s =>
jn (fun _ s =>
K ct s) fun K16 =>
loopE k (fun K17 v s =>
pop v fun x18 v =>
pop v fun x19 _ =>
vLenS x19 fun x20 =>
bLt x18 x20 fun x21 =>
cnd x21 (jn (fun v s =>
pop v fun x23 _ =>
bAdd x18 (ci 1) fun x24 =>
K17 [x24, x23] s) fun K22 =>
lgE qNoE (zK x19) s fun x25 e26 s =>
lgE qNoE (zK x18) s fun x27 e28 s =>
lgE qNoE (zV (vIaS x25 x27 1)) s fun x29 e30 s =>
lgE (qLdE x29 1) (ldA x29 take1) s fun x31 e32 s =>
lgE qNoE (zV (fa1 x3 0)) s fun x33 e34 s =>
lgE (qLdE x33 1) (ldA x33 take1) s fun x35 e36 s =>
lgE qNoE (zV (bEqF x31 x35)) s fun x37 e38 s =>
calmE [(3, 5)] [e26, e28, e30, e32, e34, e36, e38] (fun s =>
cnd x37 (none)
(lgE (qLdE x2 1) (ldA x2 take1) s fun x39 e40 s =>
lgE qNoE (zK x19) s fun x41 e42 s =>
lgE qNoE (zK x18) s fun x43 e44 s =>
lgE qNoE (zV (vIaS x41 x43 1)) s fun x45 e46 s =>
lgE (qLdE x45 1) (ldA x45 take1) s fun x47 e48 s =>
lgE qNoE (c (.mk .d0 .d1 .d1 .d5) [x39, x47]) s fun x49 e50 s =>
lgE qNoE (c (.mk .d0 .d0 .d6 .d3) [x49]) s fun x51 e52 s =>
lgE qNoE (zV (vLenS x51)) s fun x53 e54 s =>
lgE qNoE (zK (ci 0)) s fun x55 e56 s =>
calmE [(0, 4)] [e40, e42, e44, e46, e48, e50, e52, e54, e56] (fun s =>
jn (fun v s =>
pop v fun x58 _ =>
K22 [x58] s) fun K57 =>
loopE k (fun K59 v s =>
pop v fun x60 v =>
pop v fun x61 _ =>
bLt x60 x53 fun x62 =>
cnd x62 (jn (fun v s =>
pop v fun x64 _ =>
bAdd x60 (ci 1) fun x65 =>
K59 [x65, x64] s) fun K63 =>
vIaS x51 x60 1 fun x66 =>
ldA x66 take1 s fun x67 s =>
bEqT x67 (.str []) fun x68 =>
gK x68 true x61 fun x69 =>
gK x68 true x67 fun x70 =>
gH x68 true (c (.mk .d0 .d0 .d3 .d7) [x69, x70]) s fun x71 s =>
gV x68 true (vGen (.un .not (.c x71))) fun x72 =>
vPick x68 x72 cf fun x73 =>
jn (fun v s =>
pop v fun x75 _ =>
K63 [x75] s) fun K74 =>
cnd x73 (zBsl [.str []] 1 1 (eCons 0 1 x67 eNil) s fun x76 s =>
appB 1 16 x61 x76 s fun x77 s =>
K74 [x77] s)
(K74 [x61] s))
(K57 [x61] s)) [x55, x19] s) s)) s)
(K16 [] s)) [(ci 0), x15] s))
def F54 : F2 := .fn H54 true
theorem fe54 : feE Tryz.prog ann 54 2 [.cl, .j [], .j [6, 5], .j [], .j [5], .cl, .j [5], .j [43, 5], .j [], .j [5], .j [5]] = some F54 := by kernel_rfl
/- daguerre/closed.whole -/
def H55 : F2C := fun c _ v s K =>
pop v fun x0 v =>
pop v fun x1 v =>
endE v (
zBox true x0 s fun x2 s =>
zTbox x1 s fun x3 s =>
vGen (.mkf 103 [] [(.c x2)]) fun x4 =>
boxD false [.nil .fn] s fun x5 s =>
zSt x5 x4 1 s fun _ s =>
fa1 x3 4 fun x7 =>
ldA x7 take1 s fun x8 s =>
vGen (.mkf 105 [] [(.c x5)]) fun x9 =>
c (.mk .d0 .d1 .d5 .d0) [x8, x9] s fun x10 s =>
fa1 x3 5 fun x11 =>
ldA x11 take1 s fun x12 s =>
vGen (.mkf 107 [] [(.c x5), (.c x2)]) fun x13 =>
c (.mk .d0 .d1 .d5 .d2) [x12, x13] s fun x14 s =>
vGen (.un .not (.c x10)) fun x15 =>
gK x15 true x14 fun x16 =>
gV x15 true (vGen (.un .not (.c x16))) fun x17 =>
vPick x15 x17 cf fun x18 =>
K x18 s)
def F55 : F2 := .fn H55 true
theorem fe55 : feE Tryz.prog ann 55 2 [] = some F55 := by kernel_rfl
/- daguerre/closed.overrides -/
def H56 : F2C := fun c k v s K =>
pop v fun x0 v =>
pop v fun x1 v =>
endE v (
zTbox x1 s fun x2 s =>
fa1 x2 5 fun x3 =>
ldA x3 take1 s fun x4 s =>
vLenS x4 fun x5 =>
jn (fun _ s =>
K ct s) fun K6 =>
loopE k (fun K7 v s =>
pop v fun x8 _ =>
bLt x8 x5 fun x9 =>
cnd x9 (jn (fun _ s =>
bAdd x8 (ci 1) fun x11 =>
K7 [x11] s) fun K10 =>
vIaS x4 x8 10 fun x12 =>
ldA x12 (takeN 10) s fun x13 s =>
boxD false [.str [], .nil .sl, .str [], .bool false, .bool false, .int .i64 0, .int .i64 0, .nil .sl, .nil .sl, .nil .sl] s fun x14 s =>
zSt x14 x13 10 s fun _ s =>
fa1 x2 0 fun x16 =>
ldA x16 take1 s fun x17 s =>
c (.mk .d0 .d0 .d7 .d3) [x0, x17] s fun x18 s =>
vSlt x18 (eX (ci 1)) eN 1 fun x19 =>
vLenS x19 fun x20 =>
jn (fun _ s =>
K10 [] s) fun K21 =>
loopE k (fun K22 v s =>
pop v fun x23 _ =>
bLt x23 x20 fun x24 =>
cnd x24 (jn (fun _ s =>
bAdd x23 (ci 1) fun x26 =>
K22 [x26] s) fun K25 =>
vIaS x19 x23 1 fun x27 =>
ldA x27 take1 s fun x28 s =>
c (.mk .d0 .d0 .d4 .d3) [x0, x28] s fun x29 s =>
vExt x29 0 fun x30 =>
vExt x29 1 fun _ =>
boxD false [.str [], .str [], .bool false, .nil .sl, .nil .sl, .nil .sl] s fun x32 s =>
zSt x32 x30 6 s fun _ s =>
fa1 x32 5 fun x34 =>
ldA x34 take1 s fun x35 s =>
vGen (.mkf 113 [] [(.c x14)]) fun x36 =>
c (.mk .d0 .d1 .d5 .d2) [x35, x36] s fun x37 s =>
cnd x37 (none)
(K25 [] s))
(K21 [] s)) [(ci 0)] s)
(K6 [] s)) [(ci 0)] s)
def F56 : F2 := .fn H56 true
theorem fe56 : feE Tryz.prog ann 56 2 [.j [], .j [14], .j [], .j [], .j [], .j [24], .j [], .j [], .cl] = some F56 := by kernel_rfl
/- daguerre/closed.faces -/
def H57 : F2C := fun c k v s K =>
pop v fun x0 v =>
pop v fun x1 v =>
endE v (
zBox false x0 s fun x2 s =>
zBox false x1 s fun x3 s =>
ldA x2 take1 s fun x4 s =>
fa1 x3 0 fun x5 =>
ldA x5 take1 s fun x6 s =>
c (.mk .d0 .d1 .d6 .d3) [x4, x6] s fun x7 s =>
vLenS x7 fun x8 =>
jn (fun v s =>
pop v fun x10 _ =>
fa1 x3 2 fun x11 =>
ldA x11 take1 s fun x12 s =>
cnd x12 (K ct s)
(vGen (.mkf 117 [] [(.c x2), (.c x3)]) fun x13 =>
c (.mk .d0 .d1 .d5 .d2) [x10, x13] s fun x14 s =>
vGen (.un .not (.c x14)) fun x15 =>
K x15 s)) fun K9 =>
loopE k (fun K16 v s =>
pop v fun x17 v =>
pop v fun x18 _ =>
bLt x17 x8 fun x19 =>
cnd x19 (jn (fun v s =>
pop v fun x21 _ =>
bAdd x17 (ci 1) fun x22 =>
K16 [x22, x21] s) fun K20 =>
vIaS x7 x17 1 fun x23 =>
ldA x23 take1 s fun x24 s =>
ldA x2 take1 s fun x25 s =>
c (.mk .d0 .d0 .d4 .d3) [x25, x24] s fun x26 s =>
vExt x26 0 fun x27 =>
vExt x26 1 fun _ =>
boxD false [.str [], .str [], .bool false, .nil .sl, .nil .sl, .nil .sl] s fun x29 s =>
zSt x29 x27 6 s fun _ s =>
fa1 x29 5 fun x31 =>
ldA x31 take1 s fun x32 s =>
vLenS x32 fun x33 =>
jn (fun v s =>
pop v fun x35 _ =>
K20 [x35] s) fun K34 =>
loopE k (fun K36 v s =>
pop v fun x37 v =>
pop v fun x38 _ =>
bLt x37 x33 fun x39 =>
cnd x39 (jn (fun v s =>
pop v fun x41 _ =>
bAdd x37 (ci 1) fun x42 =>
K36 [x42, x41] s) fun K40 =>
vIaS x32 x37 10 fun x43 =>
ldA x43 (takeN 10) s fun x44 s =>
boxD false [.str [], .nil .sl, .str [], .bool false, .bool false, .int .i64 0, .int .i64 0, .nil .sl, .nil .sl, .nil .sl] s fun x45 s =>
zSt x45 x44 10 s fun _ s =>
vGen (.mkf 116 [] [(.c x45)]) fun x47 =>
c (.mk .d0 .d1 .d5 .d2) [x38, x47] s fun x48 s =>
cnd x48 (none)
(ldA x45 (takeN 10) s fun x49 s =>
zBsl [.str [], .nil .sl, .str [], .bool false, .bool false, .int .i64 0, .int .i64 0, .nil .sl, .nil .sl, .nil .sl] 10 1 (eCons 0 10 x49 eNil) s fun x50 s =>
appB 10 152 x38 x50 s fun x51 s =>
K40 [x51] s))
(K34 [x38] s)) [(ci 0), x18] s)
(K9 [x18] s)) [(ci 0), (.nil .sl)] s)
def F57 : F2 := .fn H57 true
theorem fe57 : feE Tryz.prog ann 57 2 [.j [5], .j [17, 5], .j [], .j [5], .j [5], .j [30, 5], .j [], .j [5], .cl, .j []] = some F57 := by kernel_rfl
/- (*daguerre/hier.Hier).Supers -/
def H59 : F2C := fun c k v s K =>
pop v fun x0 v =>
pop v fun x1 v =>
endE v (
jn (fun v s =>
pop v fun x3 _ =>
K x3 s) fun K2 =>
loopE k (fun K4 v s =>
pop v fun x5 v =>
pop v fun x6 _ =>
c (.mk .d0 .d0 .d6 .d5) [x0, x5] s fun x7 s =>
cnd x7 (jn (fun v s =>
pop v fun x9 v =>
pop v fun x10 _ =>
K4 [x9, x10] s) fun K8 =>
zBsl [.str []] 1 1 (eCons 0 1 x5 eNil) s fun x11 s =>
appB 1 16 x6 x11 s fun x12 s =>
c (.mk .d0 .d1 .d1 .d5) [x0, x5] s fun x13 s =>
vFld x13 1 take1 fun x14 =>
K8 [x14, x12] s)
(K2 [x6] s)) [x1, (.nil .sl)] s)
def F59 : F2 := .fn H59 true
theorem fe59 : feE Tryz.prog ann 59 2 [.j [5], .j [1, 5], .j [], .j [1, 5]] = some F59 := by kernel_rfl
/- daguerre/link.find -/
def H58 : F2C := fun c k v s K =>
pop v fun x0 v =>
pop v fun x1 v =>
pop v fun x2 v =>
pop v fun x3 v =>
endE v (
boxD false [.str [], .nil .sl, .str [], .bool false, .bool false, .int .i64 0, .int .i64 0, .nil .sl, .nil .sl, .nil .sl] s fun x4 s =>
vLenS x1 fun x5 =>
jn (fun _ s =>
vBld [.str [], .nil .sl, .str [], .bool false, .bool false, .int .i64 0, .int .i64 0, .nil .sl, .nil .sl, .nil .sl] eNil fun x7 =>
zSt x4 x7 10 s fun _ s =>
ldA x4 (takeN 10) s fun x9 s => K (.tup [(.str []), x9, cf]) s) fun K6 =>
loopE k (fun K10 v s =>
pop v fun x11 _ =>
bLt x11 x5 fun x12 =>
cnd x12 (jn (fun _ s =>
bAdd x11 (ci 1) fun x14 =>
K10 [x14] s) fun K13 =>
vIaS x1 x11 1 fun x15 =>
ldA x15 take1 s fun x16 s =>
c (.mk .d0 .d0 .d4 .d3) [x0, x16] s fun x17 s =>
vExt x17 0 fun x18 =>
vExt x17 1 fun _ =>
boxD false [.str [], .str [], .bool false, .nil .sl, .nil .sl, .nil .sl] s fun x20 s =>
zSt x20 x18 6 s fun _ s =>
ldA x20 (takeN 6) s fun x22 s =>
c (.mk .d0 .d0 .d4 .d4) [x22, x2] s fun x23 s =>
bGe x23 (ci 0) fun x24 =>
gK x24 true x3 fun x25 =>
gV x24 true (fa1 x20 5) fun x26 =>
gH x24 true (ldA x26 take1) s fun x27 s =>
gK x24 true x23 fun x28 =>
gV x24 true (vIaS x27 x28 10) fun x29 =>
gH x24 true (ldA x29 (takeN 10)) s fun x30 s =>
gH x24 true (zCallV c x25 [x30]) s fun x31 s =>
vPick x24 x31 cf fun x32 =>
cnd x32 (fa1 x20 5 fun x33 =>
ldA x33 take1 s fun x34 s =>
vIaS x34 x23 10 fun x35 =>
ldA x35 (takeN 10) s fun x36 s =>
zSt x4 x36 10 s fun _ s =>
ldA x4 (takeN 10) s fun x38 s => K (.tup [x16, x38, ct]) s)
(K13 [] s))
(K6 [] s)) [(ci 0)] s)
def F58 : F2 := .fn H58 true
theorem fe58 : feE Tryz.prog ann 58 4 [.j [], .j [18], .j [], .j [], .j []] = some F58 := by kernel_rfl
/- daguerre/link.Method$1 -/
def H60 : F2C := fun _ _ v s K =>
pop v fun x0 v =>
endE v (
zTbox x0 s fun x1 s =>
fa1 x1 0 fun x2 =>
ldA x2 take1 s fun x3 s =>
bEqT x3 (.str [36, 105, 110, 105, 116]) fun x4 =>
K x4 s)
def F60 : F2 := .fn H60 true
theorem fe60 : feE Tryz.prog ann 60 1 [] = some F60 := by kernel_rfl
/- daguerre/verify.all -/
def H64 : F2C := fun c _ v s K =>
pop v fun x0 v =>
pop v fun x1 v =>
endE v (
zBox false x1 s fun x2 s =>
vGen (.mkf 119 [] [(.c x2)]) fun x3 =>
c (.mk .d0 .d0 .d6 .d2) [x0, x3] s fun x4 s =>
vGen (.un .not (.c x4)) fun x5 =>
K x5 s)
def F64 : F2 := .fn H64 true
theorem fe64 : feE Tryz.prog ann 64 2 [] = some F64 := by kernel_rfl
/- (*daguerre/verify.checker).need -/
def H63 : F2C := fun _ _ v s K =>
pop v fun x0 v =>
pop v fun x1 v =>
endE v (
vChk x0 fun x2 =>
fa1 x2 14 fun x3 =>
ldA x3 take1 s fun x4 s =>
gK x4 false x1 fun x5 =>
gV x4 false (vGen (.un .not (.c x5))) fun x6 =>
vPick x4 ct x6 fun x7 =>
vChk x0 fun x8 =>
fa1 x8 14 fun x9 =>
zSt x9 x7 1 s fun _ s =>
K (.tup []) s)
def F63 : F2 := .fn H63 true
theorem fe63 : feE Tryz.prog ann 63 2 [] = some F63 := by kernel_rfl
/- (*daguerre/hier.Hier).Sub -/
def H65 : F2C := fun c _ v s K =>
pop v fun x0 v =>
pop v fun x1 v =>
pop v fun x2 v =>
endE v (
c (.mk .d0 .d1 .d7 .d0) [x0, x1] s fun x3 s =>
vGen (.un .not (.c x3)) fun x4 =>
gK x4 false x0 fun x5 =>
gK x4 false x2 fun x6 =>
gH x4 false (c (.mk .d0 .d1 .d7 .d0) [x5, x6]) s fun x7 s =>
gV x4 false (vGen (.un .not (.c x7))) fun x8 =>
vPick x4 ct x8 fun x9 =>
cnd x9 (K cf s)
(c (.mk .d0 .d1 .d7 .d1) [x1] s fun x10 s =>
vExt x10 0 fun x11 =>
vExt x10 1 fun x12 =>
c (.mk .d0 .d1 .d7 .d1) [x2] s fun x13 s =>
vExt x13 0 fun x14 =>
vExt x13 1 fun x15 =>
jn (fun _ s =>
c (.mk .d0 .d0 .d7 .d3) [x0, x1] s fun x17 s =>
c (.mk .d0 .d0 .d3 .d7) [x17, x2] s fun x18 s =>
gK x18 false x0 fun x19 =>
gK x18 false x1 fun x20 =>
gH x18 false (c (.mk .d0 .d1 .d6 .d3) [x19, x20]) s fun x21 s =>
gK x18 false x2 fun x22 =>
gH x18 false (c (.mk .d0 .d0 .d3 .d7) [x21, x22]) s fun x23 s =>
vPick x18 ct x23 fun x24 =>
K x24 s) fun K16 =>
bEqF x1 x2 fun x25 =>
cnd x25 (K ct s)
(gK x12 true x15 fun x26 =>
vPick x12 x26 cf fun x27 =>
cnd x27 (bEqT x11 (.str [73]) fun x28 =>
gK x28 true x14 fun x29 =>
gV x28 true (bEqT x29 (.str [73])) fun x30 =>
vPick x28 x30 cf fun x31 =>
gK x31 true x0 fun x32 =>
gK x31 true x11 fun x33 =>
gK x31 true x14 fun x34 =>
gH x31 true (c (.mk .d0 .d1 .d0 .d1) [x32, x33, x34]) s fun x35 s =>
vPick x31 x35 cf fun x36 =>
K x36 s)
(cnd x12 (bEqF x2 (.str [79, 98, 106, 101, 99, 116]) fun x37 =>
K x37 s)
(K16 [] s)))))
def F65 : F2 := .fn H65 true
theorem fe65 : feE Tryz.prog ann 65 3 [.j [], .j [], .j [], .j [], .j []] = some F65 := by kernel_rfl
/- (*daguerre/verify.checker).enter -/
def H67 : F2C := fun c _ v s K =>
pop v fun x0 v =>
pop v fun x1 v =>
pop v fun x2 v =>
endE v (
c (.mk .d0 .d1 .d7 .d2) [x0, x1] s fun x3 s =>
vNil false .ptr x3 fun x4 =>
cnd x4 (c (.mk .d0 .d0 .d7 .d7) [x0, x2] s fun _ s =>
K (.tup []) s)
(none))
def F67 : F2 := .fn H67 true
theorem fe67 : feE Tryz.prog ann 67 3 [.cr, .ch] = some F67 := by kernel_rfl
/- (*daguerre/verify.checker).traps -/
def H68 : F2C := fun _ k v s K =>
pop v fun x0 v =>
pop v fun _ v =>
endE v (
vChk x0 fun x2 =>
fa1 x2 2 fun x3 =>
fa1 x3 9 fun x4 =>
ldA x4 take1 s fun x5 s =>
vLenS x5 fun x6 =>
jn (fun _ s =>
K (.tup []) s) fun K7 =>
loopE k (fun _ v s =>
pop v fun x9 _ =>
bLt x9 x6 fun x10 =>
cnd x10 (none)
(K7 [] s)) [(ci 0)] s)
def F68 : F2 := .fn H68 true
theorem fe68 : feE Tryz.prog ann 68 2 [.j [], .j [13], .cl, .j [], .ch, .ch] = some F68 := by kernel_rfl
/- (*daguerre/verify.checker).one -/
def H69 : F2C := fun c _ v s K =>
pop v fun x0 v =>
pop v fun x1 v =>
endE v (
zTbox x1 s fun x2 s =>
fa1 x2 0 fun x3 =>
ldA x3 take1 s fun x4 s =>
jn (fun _ s =>
K (.tup []) s) fun K5 =>
c (.mk .d0 .d1 .d7 .d4) [x4, (ci 1), (ci 7)] s fun x6 s =>
jn (fun _ s =>
K5 [] s) fun K7 =>
cnd x6 (ldA x2 (takeN 4) s fun x8 s =>
c (.mk .d0 .d1 .d7 .d5) [x0, x8] s fun _ s =>
K7 [] s)
(bEqF x4 (ci 13) fun x10 =>
cnd x10 (none)
(c (.mk .d0 .d1 .d7 .d4) [x4, (ci 8), (ci 19)] s fun x11 s =>
cnd x11 (none)
(bEqF x4 (ci 20) fun x12 =>
cnd x12 (none)
(c (.mk .d0 .d1 .d7 .d4) [x4, (ci 21), (ci 26)] s fun x13 s =>
cnd x13 (none)
(c (.mk .d0 .d1 .d7 .d4) [x4, (ci 27), (ci 32)] s fun x14 s =>
cnd x14 (none)
(c (.mk .d0 .d1 .d7 .d4) [x4, (ci 33), (ci 34)] s fun x15 s =>
cnd x15 (none)
(c (.mk .d0 .d1 .d7 .d4) [x4, (ci 35), (ci 36)] s fun x16 s =>
cnd x16 (none)
(bEqF x4 (ci 37) fun x17 =>
gK x17 false x4 fun x18 =>
gH x17 false (c (.mk .d0 .d1 .d7 .d4) [x18, (ci 38), (ci 41)]) s fun x19 s =>
vPick x17 ct x19 fun x20 =>
jn (fun _ s =>
K7 [] s) fun K21 =>
cnd x20 (ldA x2 (takeN 4) s fun x22 s =>
c (.mk .d0 .d2 .d0 .d1) [x0, x22] s fun _ s =>
K21 [] s)
(c (.mk .d0 .d1 .d7 .d4) [x4, (ci 42), (ci 45)] s fun x24 s =>
jn (fun _ s =>
K21 [] s) fun K25 =>
cnd x24 (ldA x2 (takeN 4) s fun x26 s =>
c (.mk .d0 .d2 .d0 .d2) [x0, x26] s fun _ s =>
K25 [] s)
(c (.mk .d0 .d1 .d7 .d4) [x4, (ci 46), (ci 48)] s fun x28 s =>
jn (fun _ s =>
K25 [] s) fun K29 =>
cnd x28 (c (.mk .d0 .d2 .d0 .d3) [x0, x4] s fun _ s =>
K29 [] s)
(c (.mk .d0 .d1 .d7 .d4) [x4, (ci 49), (ci 55)] s fun x31 s =>
cnd x31 (none)
(ldA x2 (takeN 4) s fun x32 s =>
c (.mk .d0 .d2 .d0 .d5) [x0, x32] s fun _ s =>
K29 [] s)))))))))))))
def F69 : F2 := .fn H69 true
theorem fe69 : feE Tryz.prog ann 69 2 [.j [], .j [], .cl, .cl, .cl, .cl, .cl, .cl, .cl, .j [], .j [], .j [], .cl] = some F69 := by kernel_rfl
/- daguerre/op.Jumps -/
def H70 : F2C := fun c _ v s K =>
pop v fun x0 v =>
endE v (
c (.mk .d0 .d2 .d0 .d6) [x0, (ci 20), (ci 36)] s fun x1 s =>
K x1 s)
def F70 : F2 := .fn H70 true
theorem fe70 : feE Tryz.prog ann 70 1 [] = some F70 := by kernel_rfl
/- daguerre/op.Ends -/
def H72 : F2C := fun _ _ v s K =>
pop v fun x0 v =>
endE v (
jn (fun _ s =>
K cf s) fun K1 =>
bEqF x0 (ci 20) fun x2 =>
cnd x2 (none)
(bEqF x0 (ci 46) fun x3 =>
jn (fun v s =>
pop v fun x5 _ =>
cnd x5 (K ct s)
(K1 [] s)) fun K4 =>
cnd x3 (K4 [x3] s)
(bEqF x0 (ci 47) fun x6 =>
jn (fun v s =>
pop v fun x8 _ =>
K4 [x8] s) fun K7 =>
cnd x6 (K7 [x6] s)
(bEqF x0 (ci 48) fun x9 =>
cnd x9 (none)
(bEqF x0 (ci 58) fun x10 =>
cnd x10 (none)
(bEqF x0 (ci 61) fun x11 =>
K7 [x11] s))))))
def F72 : F2 := .fn H72 true
theorem fe72 : feE Tryz.prog ann 72 1 [.j [], .cl, .j [4], .j [4], .cl, .cl, .j []] = some F72 := by kernel_rfl
/- slices.Index[[]string,string] -/
def H73 : F2C := fun _ k v s K =>
pop v fun x0 v =>
pop v fun x1 v =>
endE v (
vLenS x0 fun x2 =>
jn (fun _ s =>
K (.int .i64 (-1)) s) fun K3 =>
loopE k (fun K4 v s =>
pop v fun x5 _ =>
bLt x5 x2 fun x6 =>
cnd x6 (jn (fun _ s =>
bAdd x5 (ci 1) fun x8 =>
K4 [x8] s) fun K7 =>
vIaS x0 x5 1 fun x9 =>
ldA x9 take1 s fun x10 s =>
bEqF x1 x10 fun x11 =>
cnd x11 (K x5 s)
(K7 [] s))
(K3 [] s)) [(ci 0)] s)
def F73 : F2 := .fn H73 true
theorem fe73 : feE Tryz.prog ann 73 2 [.j [], .j [8], .j [], .j [], .j []] = some F73 := by kernel_rfl
/- daguerre/effect.movable$1 -/
def H74 : F2C := fun _ _ v s K =>
pop v fun x0 v =>
pop v fun x1 v =>
endE v (
ldA x1 take1 s fun x2 s =>
bEqT x0 x2 fun x3 =>
K x3 s)
def F74 : F2 := .fn H74 true
theorem fe74 : feE Tryz.prog ann 74 2 [] = some F74 := by kernel_rfl
/- daguerre/effect.movable$2 -/
def H75 : F2C := fun c _ v s K =>
pop v fun x0 v =>
pop v fun x1 v =>
pop v fun x2 v =>
endE v (
ldA x1 take1 s fun x3 s =>
bEqT x0 x3 fun x4 =>
gH x4 true (ldA x2 take1) s fun x5 s =>
gK x4 true x0 fun x6 =>
gH x4 true (c (.mk .d0 .d0 .d3 .d7) [x5, x6]) s fun x7 s =>
gV x4 true (vGen (.un .not (.c x7))) fun x8 =>
vPick x4 x8 cf fun x9 =>
K x9 s)
def F75 : F2 := .fn H75 true
theorem fe75 : feE Tryz.prog ann 75 3 [] = some F75 := by kernel_rfl
/- slices.IndexFunc[[]string,string] -/
def H76 : F2C := fun c k v s K =>
pop v fun x0 v =>
pop v fun x1 v =>
endE v (
vLenS x0 fun x2 =>
jn (fun _ s =>
K (.int .i64 (-1)) s) fun K3 =>
loopE k (fun K4 v s =>
pop v fun x5 _ =>
bLt x5 x2 fun x6 =>
cnd x6 (jn (fun _ s =>
bAdd x5 (ci 1) fun x8 =>
K4 [x8] s) fun K7 =>
vIaS x0 x5 1 fun x9 =>
ldA x9 take1 s fun x10 s =>
zCallV c x1 [x10] s fun x11 s =>
cnd x11 (K x5 s)
(K7 [] s))
(K3 [] s)) [(ci 0)] s)
def F76 : F2 := .fn H76 true
theorem fe76 : feE Tryz.prog ann 76 2 [.j [], .j [8], .j [], .j [], .j []] = some F76 := by kernel_rfl
/- (*daguerre/hier.Hier).has -/
def H53 : F2C := fun _ _ v s K =>
pop v fun x0 v =>
pop v fun x1 v =>
endE v (
vNil false .ptr x0 fun x2 =>
cnd x2 (none)
(vChk x0 fun x3 =>
fa1 x3 1 fun x4 =>
ldA x4 take1 s fun x5 s =>
zLku .str (.int .i64 0) x5 x1 true s fun x6 s =>
vExt x6 0 fun _ =>
vExt x6 1 fun x8 =>
K x8 s))
def F53 : F2 := .fn H53 true
theorem fe53 : feE Tryz.prog ann 53 2 [.cl] = some F53 := by kernel_rfl
/- (*daguerre/hier.Hier).get -/
def H77 : F2C := fun _ _ v s K =>
pop v fun x0 v =>
pop v fun x1 v =>
endE v (
boxD false [.str [], .str [], .bool false, .nil .sl, .nil .sl, .nil .sl] s fun x2 s =>
lgE qNoE (zK x0) s fun x3 e4 s =>
lgE qNoE (zV (vChk x3)) s fun x5 e6 s =>
lgE qNoE (zV (fa1 x5 0)) s fun x7 e8 s =>
lgE (qLdE x7 1) (ldA x7 take1) s fun x9 e10 s =>
lgE qNoE (zK x0) s fun x11 e12 s =>
lgE qNoE (zV (vChk x11)) s fun x13 e14 s =>
lgE qNoE (zV (fa1 x13 1)) s fun x15 e16 s =>
lgE (qLdE x15 1) (ldA x15 take1) s fun x17 e18 s =>
lgE qNoE (zK x1) s fun x19 e20 s =>
lgE qNoE (zLku .str (.int .i64 0) x17 x19 false) s fun x21 e22 s =>
lgE qNoE (zV (vIaS x9 x21 6)) s fun x23 e24 s =>
lgE (qLdE x23 6) (ldA x23 (takeN 6)) s fun x25 e26 s =>
lgE qNoE (zSt x2 x25 6) s fun _ e28 s =>
calmE [(3, 7), (3, 9)] [e4, e6, e8, e10, e12, e14, e16, e18, e20, e22, e24, e26, e28] (fun s =>
ldA x2 (takeN 6) s K) s)
def F77 : F2 := .fn H77 true
theorem fe77 : feE Tryz.prog ann 77 2 [] = some F77 := by kernel_rfl
/- daguerre/class.Method$1 -/
def H79 : F2C := fun _ _ v s K =>
pop v fun x0 v =>
pop v fun x1 v =>
endE v (
zTbox x0 s fun x2 s =>
fa1 x2 0 fun x3 =>
ldA x3 take1 s fun x4 s =>
ldA x1 take1 s fun x5 s =>
bEqF x4 x5 fun x6 =>
K x6 s)
def F79 : F2 := .fn H79 true
theorem fe79 : feE Tryz.prog ann 79 2 [] = some F79 := by kernel_rfl
/- slices.IndexFunc[[]daguerre/api.Method,daguerre/api.Method] -/
def H78 : F2C := fun c k v s K =>
pop v fun x0 v =>
pop v fun x1 v =>
endE v (
vLenS x0 fun x2 =>
jn (fun _ s =>
K (.int .i64 (-1)) s) fun K3 =>
loopE k (fun K4 v s =>
pop v fun x5 _ =>
bLt x5 x2 fun x6 =>
cnd x6 (jn (fun _ s =>
bAdd x5 (ci 1) fun x8 =>
K4 [x8] s) fun K7 =>
vIaS x0 x5 10 fun x9 =>
ldA x9 (takeN 10) s fun x10 s =>
zCallV c x1 [x10] s fun x11 s =>
cnd x11 (K x5 s)
(K7 [] s))
(K3 [] s)) [(ci 0)] s)
def F78 : F2 := .fn H78 true
theorem fe78 : feE Tryz.prog ann 78 2 [.j [], .j [8], .j [], .j [], .j []] = some F78 := by kernel_rfl
/- strings.Cut -/
def H80 : F2C := fun c _ v s K =>
pop v fun x0 v =>
pop v fun x1 v =>
endE v (
c (.mk .d0 .d2 .d1 .d0) [x0, x1] s fun x2 s =>
vExt x2 0 fun x3 =>
vExt x2 1 fun x4 =>
vExt x2 2 fun x5 =>
K (.tup [x3, x4, x5]) s)
def F80 : F2 := .fn H80 true
theorem fe80 : feE Tryz.prog ann 80 2 [] = some F80 := by kernel_rfl
/- daguerre/class.Field -/
def H81 : F2C := fun c _ v s K =>
pop v fun x0 v =>
pop v fun x1 v =>
endE v (
zTbox x0 s fun x2 s =>
zBox false x1 s fun x3 s =>
fa1 x2 4 fun x4 =>
ldA x4 take1 s fun x5 s =>
vGen (.mkf 138 [] [(.c x3)]) fun x6 =>
c (.mk .d0 .d2 .d1 .d1) [x5, x6] s fun x7 s =>
K x7 s)
def F81 : F2 := .fn H81 true
theorem fe81 : feE Tryz.prog ann 81 2 [] = some F81 := by kernel_rfl
/- daguerre/pile.New -/
def H82 : F2C := fun _ _ v s K =>
endE v (
zMkm s fun x0 s =>
vBld [.nil .sl, .nil .map] (eCons 1 1 x0 eNil) fun x1 =>
zBox true x1 s fun x2 s =>
K x2 s)
def F82 : F2 := .fn H82 true
theorem fe82 : feE Tryz.prog ann 82 0 [] = some F82 := by kernel_rfl
/- (*daguerre/reach.Reach).make -/
def H83 : F2C := fun _ k v s K =>
pop v fun x0 v =>
pop v fun x1 v =>
endE v (
vChk x0 fun x2 =>
fa1 x2 5 fun x3 =>
ldA x3 take1 s fun x4 s =>
zLku .str (.bool false) x4 x1 false s fun x5 s =>
cnd x5 (none)
(vChk x0 fun x6 =>
fa1 x6 5 fun x7 =>
ldA x7 take1 s fun x8 s =>
zMup .str x8 x1 ct s fun _ s =>
vChk x0 fun x10 =>
fa1 x10 7 fun x11 =>
ldA x11 take1 s fun x12 s =>
vLenS x12 fun x13 =>
jn (fun _ s =>
K (.tup []) s) fun K14 =>
loopE k (fun _ v s =>
pop v fun x16 _ =>
bLt x16 x13 fun x17 =>
cnd x17 (none)
(K14 [] s)) [(ci 0)] s))
def F83 : F2 := .fn H83 true
theorem fe83 : feE Tryz.prog ann 83 2 [.cl, .j [], .j [22], .cl, .j []] = some F83 := by kernel_rfl
/- slices.Index[[]daguerre/reach.site,daguerre/reach.site] -/
def H84 : F2C := fun _ k v s K =>
pop v fun x0 v =>
pop v fun x1 v =>
endE v (
zTbox x1 s fun x2 s =>
vLenS x0 fun x3 =>
jn (fun _ s =>
K (.int .i64 (-1)) s) fun K4 =>
loopE k (fun K5 v s =>
pop v fun x6 _ =>
bLt x6 x3 fun x7 =>
cnd x7 (jn (fun _ s =>
bAdd x6 (ci 1) fun x9 =>
K5 [x9] s) fun K8 =>
lgE (qLdE x2 2) (ldA x2 (takeN 2)) s fun x10 e11 s =>
lgE qNoE (zK x0) s fun x12 e13 s =>
lgE qNoE (zK x6) s fun x14 e15 s =>
lgE qNoE (zV (vIaS x12 x14 2)) s fun x16 e17 s =>
lgE (qLdE x16 2) (ldA x16 (takeN 2)) s fun x18 e19 s =>
lgE qNoE (zV (vGen (.eqs false [(0, 1), (1, 1)] (.c x10) (.c x18)))) s fun x20 e21 s =>
calmE [(0, 4)] [e11, e13, e15, e17, e19, e21] (fun s =>
cnd x20 (K x6 s)
(K8 [] s)) s)
(K4 [] s)) [(ci 0)] s)
def F84 : F2 := .fn H84 true
theorem fe84 : feE Tryz.prog ann 84 2 [.j [], .j [8], .j [], .j [], .j []] = some F84 := by kernel_rfl
/- (*daguerre/pile.Pile).Put -/
def H85 : F2C := fun c _ v s K =>
pop v fun x0 v =>
pop v fun x1 v =>
pop v fun x2 v =>
endE v (
vNil false .ptr x0 fun x3 =>
gK x3 false x0 fun x4 =>
gV x3 false (vChk x4) fun x5 =>
gV x3 false (fa1 x5 1) fun x6 =>
gH x3 false (ldA x6 take1) s fun x7 s =>
gK x3 false x2 fun x8 =>
gH x3 false (zLku (.int .i64) (.bool false) x7 x8 false) s fun x9 s =>
vPick x3 ct x9 fun x10 =>
cnd x10 (K cf s)
(vChk x0 fun x11 =>
fa1 x11 1 fun x12 =>
ldA x12 take1 s fun x13 s =>
zMup (.int .i64) x13 x2 ct s fun _ s =>
vChk x0 fun x15 =>
fa1 x15 0 fun x16 =>
vBld [.int .i64 0, .int .i64 0] (eCons 0 1 x1 (eCons 1 1 x2 eNil)) fun x17 =>
c (.mk .d0 .d2 .d1 .d4) [(.ifc 154 x16), (.ifc 156 x17)] s fun _ s =>
K ct s))
def F85 : F2 := .fn H85 true
theorem fe85 : feE Tryz.prog ann 85 3 [.j []] = some F85 := by kernel_rfl
/- (*daguerre/pile.Pile).Take -/
def H86 : F2C := fun c _ v s K =>
pop v fun x0 v =>
endE v (
c (.mk .d0 .d1 .d3 .d1) [x0] s fun x1 s =>
bEqF x1 (ci 0) fun x2 =>
cnd x2 (K (.tup [(ci 0), cf]) s)
(vChk x0 fun x3 =>
fa1 x3 0 fun x4 =>
c (.mk .d0 .d2 .d1 .d5) [(.ifc 154 x4)] s fun x5 s =>
vTas 156 false x5 fun x6 =>
vFld x6 1 take1 fun x7 =>
K (.tup [x7, ct]) s))
def F86 : F2 := .fn H86 true
theorem fe86 : feE Tryz.prog ann 86 1 [.j []] = some F86 := by kernel_rfl
/- (*daguerre/reach.Reach).one -/
def H87 : F2C := fun c _ v s K =>
pop v fun x0 v =>
pop v fun x1 v =>
endE v (
zTbox x1 s fun x2 s =>
fa1 x2 0 fun x3 =>
ldA x3 take1 s fun x4 s =>
jn (fun _ s =>
K (.tup []) s) fun K5 =>
bEqF x4 (ci 37) fun x6 =>
jn (fun _ s =>
K5 [] s) fun K7 =>
cnd x6 (fa1 x2 2 fun x8 =>
ldA x8 take1 s fun x9 s =>
c (.mk .d0 .d1 .d2 .d3) [x0, x9] s fun _ s =>
fa1 x2 2 fun x11 =>
ldA x11 take1 s fun x12 s =>
c (.mk .d0 .d0 .d5 .d3) [x0, x12] s fun _ s =>
K7 [] s)
(bEqF x4 (ci 40) fun x14 =>
cnd x14 (none)
(bEqF x4 (ci 41) fun x15 =>
jn (fun _ s =>
K7 [] s) fun K16 =>
cnd x15 (lgE qNoE (zK x0) s fun x17 e18 s =>
lgE qNoE (zV (vChk x17)) s fun x19 e20 s =>
lgE qNoE (zV (fa1 x19 0)) s fun x21 e22 s =>
lgE (qLdE x21 1) (ldA x21 take1) s fun x23 e24 s =>
lgE qNoE (zV (fa1 x2 2)) s fun x25 e26 s =>
lgE (qLdE x25 1) (ldA x25 take1) s fun x27 e28 s =>
lgE qNoE (zV (fa1 x2 3)) s fun x29 e30 s =>
lgE (qLdE x29 1) (ldA x29 take1) s fun x31 e32 s =>
lgE qNoE (c (.mk .d0 .d0 .d4 .d6) [x23, x27, x31]) s fun x33 e34 s =>
lgE qNoE (zK x33) s fun x35 e36 s =>
lgE qNoE (zV (vExt x35 0)) s fun x37 e38 s =>
lgE qNoE (zV (vExt x35 1)) s fun x39 e40 s =>
lgE qNoE (zV (vExt x35 2)) s fun x41 e42 s =>
lgE qNoE (boxD false [.str [], .str [], .bool false]) s fun x43 e44 s =>
lgE qNoE (zK x37) s fun x45 e46 s =>
lgE qNoE (zSt x43 x39 3) s fun _ e48 s =>
lgE qNoE (zK x41) s fun x49 e50 s =>
calmE [(3, 5), (3, 7), (5, 7), (3, 13), (5, 13), (7, 13), (8, 13)] [e18, e20, e22, e24, e26, e28, e30, e32, e34, e36, e38, e40, e42, e44, e46, e48, e50] (fun s =>
cnd x49 (c (.mk .d0 .d0 .d5 .d3) [x0, x45] s fun _ s =>
K16 [] s)
(none)) s)
(bEqF x4 (ci 42) fun x52 =>
jn (fun v s =>
pop v fun x54 _ =>
jn (fun _ s =>
K16 [] s) fun K55 =>
cnd x54 (lgE qNoE (zK x0) s fun x56 e57 s =>
lgE qNoE (zV (vChk x56)) s fun x58 e59 s =>
lgE qNoE (zV (fa1 x58 0)) s fun x60 e61 s =>
lgE (qLdE x60 1) (ldA x60 take1) s fun x62 e63 s =>
lgE qNoE (zV (fa1 x2 2)) s fun x64 e65 s =>
lgE (qLdE x64 1) (ldA x64 take1) s fun x66 e67 s =>
lgE qNoE (zV (fa1 x2 3)) s fun x68 e69 s =>
lgE (qLdE x68 1) (ldA x68 take1) s fun x70 e71 s =>
lgE qNoE (c (.mk .d0 .d0 .d3 .d3) [x62, x66, x70]) s fun x72 e73 s =>
lgE qNoE (zK x72) s fun x74 e75 s =>
lgE qNoE (zV (vExt x74 0)) s fun x76 e77 s =>
lgE qNoE (zV (vExt x74 1)) s fun x78 e79 s =>
lgE qNoE (zV (vExt x74 2)) s fun x80 e81 s =>
lgE qNoE (boxD false [.str [], .nil .sl, .str [], .bool false, .bool false, .int .i64 0, .int .i64 0, .nil .sl, .nil .sl, .nil .sl]) s fun x82 e83 s =>
lgE qNoE (zK x76) s fun x84 e85 s =>
lgE qNoE (zSt x82 x78 10) s fun _ e87 s =>
lgE qNoE (zK x80) s fun x88 e89 s =>
calmE [(3, 5), (3, 7), (5, 7), (3, 13), (5, 13), (7, 13), (8, 13)] [e57, e59, e61, e63, e65, e67, e69, e71, e73, e75, e77, e79, e81, e83, e85, e87, e89] (fun s =>
vGen (.un .not (.c x88)) fun x90 =>
cnd x90 (none)
(fa1 x2 3 fun x91 =>
ldA x91 take1 s fun x92 s =>
c (.mk .d0 .d0 .d5 .d2) [x0, x84, x92] s fun _ s =>
fa1 x2 0 fun x94 =>
ldA x94 take1 s fun x95 s =>
bEqF x95 (ci 42) fun x96 =>
cnd x96 (c (.mk .d0 .d0 .d5 .d3) [x0, x84] s fun _ s =>
K55 [] s)
(none))) s)
(bEqF x4 (ci 43) fun x98 =>
cnd x98 (none)
(bEqF x4 (ci 45) fun x99 =>
cnd x99 (none)
(K55 [] s)))) fun K53 =>
cnd x52 (K53 [x52] s)
(bEqF x4 (ci 44) fun x100 =>
K53 [x100] s)))))
def F87 : F2 := .fn H87 true
theorem fe87 : feE Tryz.prog ann 87 2 [.j [], .j [], .cl, .j [], .cr, .j [45], .j [], .cl, .cr, .cl, .cl] = some F87 := by kernel_rfl
/- daguerre/daguerrelaw10.Begun -/
def H88 : F2C := fun c _ v s K =>
endE v (
c (.mk .d0 .d2 .d2 .d0) [] s fun x0 s =>
K x0 s)
def F88 : F2 := .pur H88 true mNo
theorem fe88 : feE Tryz.prog ann 88 0 [] = some F88 := by kernel_rfl
def M88 (k : Nat) : F2 := .pur H88 true (Bool.rec mNo (mVal (.bool true)) (Nat.ble 8 k))
/- (*daguerre/pile.Pile).Len -/
def H89 : F2C := fun _ _ v s K =>
pop v fun x0 v =>
endE v (
vNil false .ptr x0 fun x1 =>
cnd x1 (none)
(vChk x0 fun x2 =>
fa1 x2 0 fun x3 =>
ldA x3 take1 s fun x4 s =>
vLenS x4 fun x5 =>
K x5 s))
def F89 : F2 := .fn H89 true
theorem fe89 : feE Tryz.prog ann 89 1 [.cl] = some F89 := by kernel_rfl
/- daguerre/class.all[daguerre/api.Field] -/
def H90 : F2C := fun c k v s K =>
pop v fun x0 v =>
pop v fun x1 v =>
pop v fun x2 v =>
pop v fun x3 v =>
endE v (
zBox false x2 s fun x4 s =>
vLenS x0 fun x5 =>
jn (fun _ s =>
vLenS x0 fun x7 =>
bLe x7 x1 fun x8 =>
K x8 s) fun K6 =>
loopE k (fun K9 v s =>
pop v fun x10 _ =>
bLt x10 x5 fun x11 =>
cnd x11 (jn (fun _ s =>
bAdd x10 (ci 1) fun x13 =>
K9 [x13] s) fun K12 =>
vIaS x0 x10 3 fun x14 =>
ldA x14 (takeN 3) s fun x15 s =>
boxD false [.str [], .str [], .bool false] s fun x16 s =>
zSt x16 x15 3 s fun _ s =>
ldA x16 (takeN 3) s fun x18 s =>
zCallV c x3 [x18] s fun x19 s =>
vGen (.un .not (.c x19)) fun x20 =>
gK x20 false x0 fun x21 =>
gK x20 false x10 fun x22 =>
gV x20 false (vSlt x21 eN (eX x22) 3) fun x23 =>
gV x20 false (vGen (.mkf 145 [] [(.c x4), (.c x16)])) fun x24 =>
gH x20 false (c (.mk .d0 .d1 .d5 .d0) [x23, x24]) s fun x25 s =>
vPick x20 ct x25 fun x26 =>
cnd x26 (none)
(K12 [] s))
(K6 [] s)) [(ci 0)] s)
def F90 : F2 := .fn H90 true
theorem fe90 : feE Tryz.prog ann 90 4 [.j [], .j [13], .j [], .j [], .cl] = some F90 := by kernel_rfl
/- daguerre/class.May$1 -/
def H91 : F2C := fun _ _ v s K =>
pop v fun x0 v =>
endE v (
zTbox x0 s fun x1 s =>
fa1 x1 0 fun x2 =>
ldA x2 take1 s fun x3 s =>
K x3 s)
def F91 : F2 := .fn H91 true
theorem fe91 : feE Tryz.prog ann 91 1 [] = some F91 := by kernel_rfl
/- daguerre/class.May$2 -/
def H92 : F2C := fun c _ v s K =>
pop v fun x0 v =>
endE v (
zTbox x0 s fun x1 s =>
fa1 x1 0 fun x2 =>
ldA x2 take1 s fun x3 s =>
c (.mk .d0 .d1 .d3 .d5) [x3] s fun x4 s =>
gV x4 true (fa1 x1 0) fun x5 =>
gH x4 true (ldA x5 take1) s fun x6 s =>
gV x4 true (bEqT x6 (.str [36, 105, 110, 105, 116])) fun x7 =>
vPick x4 x7 cf fun x8 =>
gV x8 true (fa1 x1 1) fun x9 =>
gH x8 true (ldA x9 take1) s fun x10 s =>
gH x8 true (c (.mk .d0 .d1 .d3 .d6) [x10]) s fun x11 s =>
vPick x8 x11 cf fun x12 =>
K x12 s)
def F92 : F2 := .fn H92 true
theorem fe92 : feE Tryz.prog ann 92 1 [] = some F92 := by kernel_rfl
/- daguerre/class.May$4 -/
def H97 : F2C := fun c _ v s K =>
pop v fun x0 v =>
pop v fun x1 v =>
endE v (
zTbox x0 s fun x2 s =>
fa1 x2 4 fun x3 =>
ldA x3 take1 s fun x4 s =>
fa1 x1 2 fun x5 =>
ldA x5 take1 s fun x6 s =>
vBeq false x4 x6 fun x7 =>
gH x7 true (ldA x2 (takeN 10)) s fun x8 s =>
gH x7 true (c (.mk .d0 .d1 .d4 .d2) [x8]) s fun x9 s =>
vPick x7 x9 cf fun x10 =>
K x10 s)
def F97 : F2 := .fn H97 true
theorem fe97 : feE Tryz.prog ann 97 2 [] = some F97 := by kernel_rfl
/- daguerre/class.all[daguerre/api.Method] -/
def H95 : F2C := fun c k v s K =>
pop v fun x0 v =>
pop v fun x1 v =>
pop v fun x2 v =>
pop v fun x3 v =>
endE v (
zBox false x2 s fun x4 s =>
vLenS x0 fun x5 =>
jn (fun _ s =>
vLenS x0 fun x7 =>
bLe x7 x1 fun x8 =>
K x8 s) fun K6 =>
loopE k (fun K9 v s =>
pop v fun x10 _ =>
bLt x10 x5 fun x11 =>
cnd x11 (jn (fun _ s =>
bAdd x10 (ci 1) fun x13 =>
K9 [x13] s) fun K12 =>
vIaS x0 x10 10 fun x14 =>
ldA x14 (takeN 10) s fun x15 s =>
boxD false [.str [], .nil .sl, .str [], .bool false, .bool false, .int .i64 0, .int .i64 0, .nil .sl, .nil .sl, .nil .sl] s fun x16 s =>
zSt x16 x15 10 s fun _ s =>
ldA x16 (takeN 10) s fun x18 s =>
zCallV c x3 [x18] s fun x19 s =>
vGen (.un .not (.c x19)) fun x20 =>
gK x20 false x0 fun x21 =>
gK x20 false x10 fun x22 =>
gV x20 false (vSlt x21 eN (eX x22) 10) fun x23 =>
gV x20 false (vGen (.mkf 149 [] [(.c x4), (.c x16)])) fun x24 =>
gH x20 false (c (.mk .d0 .d1 .d5 .d2) [x23, x24]) s fun x25 s =>
vPick x20 ct x25 fun x26 =>
cnd x26 (none)
(K12 [] s))
(K6 [] s)) [(ci 0)] s)
def F95 : F2 := .fn H95 true
theorem fe95 : feE Tryz.prog ann 95 4 [.j [], .j [13], .j [], .j [], .cl] = some F95 := by kernel_rfl
/- daguerre/class.May$3 -/
def H96 : F2C := fun _ _ v s K =>
pop v fun x0 v =>
endE v (
zTbox x0 s fun x1 s =>
fa1 x1 0 fun x2 =>
ldA x2 take1 s fun x3 s =>
K x3 s)
def F96 : F2 := .fn H96 true
theorem fe96 : feE Tryz.prog ann 96 1 [] = some F96 := by kernel_rfl
/- daguerre/kind.Class -/
def H99 : F2C := fun c _ v s K =>
pop v fun x0 v =>
endE v (
c (.mk .d0 .d2 .d2 .d2) [x0] s fun x1 s =>
gK x1 true x0 fun x2 =>
gV x1 true (vLens x2) fun x3 =>
gV x1 true (bGt x3 (ci 1)) fun x4 =>
vPick x1 x4 cf fun x5 =>
gK x5 true x0 fun x6 =>
gV x5 true (vIxs x6 (ci 0)) fun x7 =>
gH x5 true (c (.mk .d0 .d2 .d3 .d6) [x7]) s fun x8 s =>
vPick x5 x8 cf fun x9 =>
K x9 s)
def F99 : F2 := .fn H99 true
theorem fe99 : feE Tryz.prog ann 99 1 [] = some F99 := by kernel_rfl
/- daguerre/class.all[string] -/
def H100 : F2C := fun c k v s K =>
pop v fun x0 v =>
pop v fun x1 v =>
pop v fun x2 v =>
pop v fun x3 v =>
endE v (
zBox false x2 s fun x4 s =>
vLenS x0 fun x5 =>
jn (fun _ s =>
vLenS x0 fun x7 =>
bLe x7 x1 fun x8 =>
K x8 s) fun K6 =>
loopE k (fun K9 v s =>
pop v fun x10 _ =>
bLt x10 x5 fun x11 =>
cnd x11 (jn (fun _ s =>
bAdd x10 (ci 1) fun x13 =>
K9 [x13] s) fun K12 =>
vIaS x0 x10 1 fun x14 =>
ldA x14 take1 s fun x15 s =>
boxD false [.str []] s fun x16 s =>
zSt x16 x15 1 s fun _ s =>
ldA x16 take1 s fun x18 s =>
zCallV c x3 [x18] s fun x19 s =>
vGen (.un .not (.c x19)) fun x20 =>
gK x20 false x0 fun x21 =>
gK x20 false x10 fun x22 =>
gV x20 false (vSlt x21 eN (eX x22) 1) fun x23 =>
gV x20 false (vGen (.mkf 159 [] [(.c x4), (.c x16)])) fun x24 =>
gH x20 false (c (.mk .d0 .d0 .d6 .d2) [x23, x24]) s fun x25 s =>
vPick x20 ct x25 fun x26 =>
cnd x26 (none)
(K12 [] s))
(K6 [] s)) [(ci 0)] s)
def F100 : F2 := .fn H100 true
theorem fe100 : feE Tryz.prog ann 100 4 [.j [], .j [13], .j [], .j [], .cl] = some F100 := by kernel_rfl
/- (*daguerre/hier.Hier).fits$1 -/
def H102 : F2C := fun c _ v s K =>
pop v fun x0 v =>
pop v fun x1 v =>
endE v (
ldA x1 take1 s fun x2 s =>
c (.mk .d0 .d1 .d1 .d5) [x2, x0] s fun x3 s =>
vFld x3 2 take1 fun x4 =>
vGen (.un .not (.c x4)) fun x5 =>
K x5 s)
def F102 : F2 := .fn H102 true
theorem fe102 : feE Tryz.prog ann 102 2 [] = some F102 := by kernel_rfl
/- daguerre/closed.whole$1 -/
def H103 : F2C := fun c _ v s K =>
pop v fun x0 v =>
pop v fun x1 v =>
endE v (
bEqT x0 (.str [86]) fun x2 =>
gK x2 true x0 fun x3 =>
gV x2 true (bEqT x3 (.str [])) fun x4 =>
vPick x2 x4 cf fun x5 =>
gH x5 true (ldA x1 take1) s fun x6 s =>
gK x5 true x0 fun x7 =>
gH x5 true (c (.mk .d0 .d0 .d7 .d6) [x6, x7]) s fun x8 s =>
gV x5 true (vGen (.un .not (.c x8))) fun x9 =>
vPick x5 x9 cf fun x10 =>
K x10 s)
def F103 : F2 := .fn H103 true
theorem fe103 : feE Tryz.prog ann 103 2 [] = some F103 := by kernel_rfl
/- daguerre/closed.whole$2 -/
def H105 : F2C := fun c _ v s K =>
pop v fun x0 v =>
pop v fun x1 v =>
endE v (
zTbox x0 s fun x2 s =>
ldA x1 take1 s fun x3 s =>
fa1 x2 1 fun x4 =>
ldA x4 take1 s fun x5 s =>
zCallV c x3 [x5] s fun x6 s =>
K x6 s)
def F105 : F2 := .fn H105 true
theorem fe105 : feE Tryz.prog ann 105 2 [] = some F105 := by kernel_rfl
/- slices.ContainsFunc[[]daguerre/api.Field,daguerre/api.Field] -/
def H104 : F2C := fun c _ v s K =>
pop v fun x0 v =>
pop v fun x1 v =>
endE v (
c (.mk .d0 .d2 .d1 .d1) [x0, x1] s fun x2 s =>
bGe x2 (ci 0) fun x3 =>
K x3 s)
def F104 : F2 := .fn H104 true
theorem fe104 : feE Tryz.prog ann 104 2 [] = some F104 := by kernel_rfl
/- daguerre/closed.whole$3 -/
def H107 : F2C := fun c _ v s K =>
pop v fun x0 v =>
pop v fun x1 v =>
pop v fun x2 v =>
endE v (
zTbox x0 s fun x3 s =>
fa1 x3 9 fun x4 =>
ldA x4 take1 s fun x5 s =>
vGen (.mkf 109 [] [(.c x1)]) fun x6 =>
c (.mk .d0 .d1 .d5 .d4) [x5, x6] s fun x7 s =>
fa1 x3 7 fun x8 =>
ldA x8 take1 s fun x9 s =>
vGen (.mkf 111 [] [(.c x1), (.c x2)]) fun x10 =>
c (.mk .d0 .d1 .d5 .d6) [x9, x10] s fun x11 s =>
ldA x1 take1 s fun x12 s =>
fa1 x3 2 fun x13 =>
ldA x13 take1 s fun x14 s =>
zCallV c x12 [x14] s fun x15 s =>
gV x15 false (fa1 x3 1) fun x16 =>
gH x15 false (ldA x16 take1) s fun x17 s =>
gH x15 false (ldA x1 take1) s fun x18 s =>
gH x15 false (c (.mk .d0 .d0 .d6 .d2) [x17, x18]) s fun x19 s =>
vPick x15 ct x19 fun x20 =>
gK x20 false x7 fun x21 =>
vPick x20 ct x21 fun x22 =>
gK x22 false x11 fun x23 =>
vPick x22 ct x23 fun x24 =>
K x24 s)
def F107 : F2 := .fn H107 true
theorem fe107 : feE Tryz.prog ann 107 3 [] = some F107 := by kernel_rfl
/- slices.ContainsFunc[[]daguerre/api.Method,daguerre/api.Method] -/
def H106 : F2C := fun c _ v s K =>
pop v fun x0 v =>
pop v fun x1 v =>
endE v (
c (.mk .d0 .d1 .d1 .d6) [x0, x1] s fun x2 s =>
bGe x2 (ci 0) fun x3 =>
K x3 s)
def F106 : F2 := .fn H106 true
theorem fe106 : feE Tryz.prog ann 106 2 [] = some F106 := by kernel_rfl
/- daguerre/closed.overrides$1 -/
def H113 : F2C := fun c _ v s K =>
pop v fun x0 v =>
pop v fun x1 v =>
endE v (
zTbox x0 s fun x2 s =>
fa1 x2 0 fun x3 =>
ldA x3 take1 s fun x4 s =>
fa1 x1 0 fun x5 =>
ldA x5 take1 s fun x6 s =>
bEqF x4 x6 fun x7 =>
gV x7 true (fa1 x1 0) fun x8 =>
gH x7 true (ldA x8 take1) s fun x9 s =>
gV x7 true (bEqT x9 (.str [36, 105, 110, 105, 116])) fun x10 =>
vPick x7 x10 cf fun x11 =>
gH x11 true (ldA x1 (takeN 10)) s fun x12 s =>
gH x11 true (ldA x2 (takeN 10)) s fun x13 s =>
gH x11 true (c (.mk .d0 .d1 .d6 .d2) [x12, x13]) s fun x14 s =>
gV x11 true (vGen (.un .not (.c x14))) fun x15 =>
gK x11 true x15 fun x16 =>
gV x16 false (fa1 x1 3) fun x17 =>
gH x16 false (ldA x17 take1) s fun x18 s =>
gV x11 true (vPick x16 ct x18) fun x19 =>
gK x11 true x19 fun x20 =>
gV x20 false (fa1 x2 3) fun x21 =>
gH x20 false (ldA x21 take1) s fun x22 s =>
gV x11 true (vPick x20 ct x22) fun x23 =>
vPick x11 x23 cf fun x24 =>
K x24 s)
def F113 : F2 := .fn H113 true
theorem fe113 : feE Tryz.prog ann 113 2 [] = some F113 := by kernel_rfl
/- (*daguerre/hier.Hier).Faces -/
def H115 : F2C := fun c k v s K =>
pop v fun x0 v =>
pop v fun x1 v =>
endE v (
c (.mk .d0 .d0 .d6 .d5) [x0, x1] s fun x2 s =>
vGen (.un .not (.c x2)) fun x3 =>
cnd x3 (K (.nil .sl) s)
(c (.mk .d0 .d0 .d7 .d3) [x0, x1] s fun x4 s =>
jn (fun v s =>
pop v fun x6 _ =>
c (.mk .d0 .d2 .d4 .d3) [x6] s fun _ s =>
K x6 s) fun K5 =>
loopE k (fun K8 v s =>
pop v fun x9 v =>
pop v fun x10 v =>
pop v fun x11 _ =>
vLenS x10 fun x12 =>
bLt x9 x12 fun x13 =>
cnd x13 (jn (fun v s =>
pop v fun x15 v =>
pop v fun x16 _ =>
bAdd x9 (ci 1) fun x17 =>
K8 [x17, x15, x16] s) fun K14 =>
vIaS x10 x9 1 fun x18 =>
ldA x18 take1 s fun x19 s =>
c (.mk .d0 .d1 .d1 .d5) [x0, x19] s fun x20 s =>
boxD false [.str [], .str [], .bool false, .nil .sl, .nil .sl, .nil .sl] s fun x21 s =>
zSt x21 x20 6 s fun _ s =>
fa1 x21 2 fun x23 =>
ldA x23 take1 s fun x24 s =>
jn (fun v s =>
pop v fun x26 _ =>
fa1 x21 3 fun x27 =>
ldA x27 take1 s fun x28 s =>
vLenS x28 fun x29 =>
jn (fun v s =>
pop v fun x31 _ =>
K14 [x31, x26] s) fun K30 =>
loopE k (fun K32 v s =>
pop v fun x33 v =>
pop v fun x34 _ =>
bLt x33 x29 fun x35 =>
cnd x35 (jn (fun v s =>
pop v fun x37 _ =>
bAdd x33 (ci 1) fun x38 =>
K32 [x38, x37] s) fun K36 =>
vIaS x28 x33 1 fun x39 =>
ldA x39 take1 s fun x40 s =>
c (.mk .d0 .d0 .d3 .d7) [x34, x40] s fun x41 s =>
vGen (.un .not (.c x41)) fun x42 =>
cnd x42 (zBsl [.str []] 1 1 (eCons 0 1 x40 eNil) s fun x43 s =>
appB 1 16 x34 x43 s fun x44 s =>
K36 [x44] s)
(none))
(K30 [x34] s)) [(ci 0), x10] s) fun K25 =>
cnd x24 (fa1 x21 0 fun x45 =>
ldA x45 take1 s fun x46 s =>
zBsl [.str []] 1 1 (eCons 0 1 x46 eNil) s fun x47 s =>
appB 1 16 x11 x47 s fun x48 s =>
K25 [x48] s)
(K25 [x11] s))
(K5 [x11] s)) [(ci 0), x4, (.nil .sl)] s))
def F115 : F2 := .fn H115 true
theorem fe115 : feE Tryz.prog ann 115 2 [.j [], .j [5], .j [7, 6, 5], .j [], .j [6, 5], .j [5], .j [6], .j [40, 6], .j [], .j [6], .cr] = some F115 := by kernel_rfl
/- daguerre/closed.faces$2 -/
def H117 : F2C := fun c _ v s K =>
pop v fun x0 v =>
pop v fun x1 v =>
pop v fun x2 v =>
endE v (
zTbox x0 s fun x3 s =>
ldA x1 take1 s fun x4 s =>
fa1 x2 0 fun x5 =>
ldA x5 take1 s fun x6 s =>
ldA x3 (takeN 10) s fun x7 s =>
c (.mk .d0 .d1 .d6 .d6) [x4, x6, x7] s fun x8 s =>
vGen (.un .not (.c x8)) fun x9 =>
K x9 s)
def F117 : F2 := .fn H117 true
theorem fe117 : feE Tryz.prog ann 117 3 [] = some F117 := by kernel_rfl
/- (*daguerre/hier.Hier).there -/
def H120 : F2C := fun c k v s K =>
pop v fun x0 v =>
pop v fun x1 v =>
endE v (
c (.mk .d0 .d1 .d7 .d1) [x1] s fun x2 s =>
vExt x2 0 fun x3 =>
vExt x2 1 fun x4 =>
jn (fun v s =>
pop v fun x6 _ =>
vNil true .ptr x0 fun x7 =>
gK x7 true x6 fun x8 =>
gV x7 true (bEqF x8 (.str [73])) fun x9 =>
gK x7 true x9 fun x10 =>
gK x10 false x0 fun x11 =>
gK x10 false x6 fun x12 =>
gH x10 false (c (.mk .d0 .d0 .d6 .d5) [x11, x12]) s fun x13 s =>
gV x7 true (vPick x10 ct x13) fun x14 =>
vPick x7 x14 cf fun x15 =>
K x15 s) fun K5 =>
loopE k (fun K16 v s =>
pop v fun x17 v =>
pop v fun x18 v =>
pop v fun x19 _ =>
cnd x17 (jn (fun v s =>
pop v fun x21 _ =>
c (.mk .d0 .d1 .d7 .d1) [x21] s fun x22 s =>
vExt x22 0 fun x23 =>
vExt x22 1 fun x24 =>
K16 [x24, x23, x21] s) fun K20 =>
K20 [x18] s)
(K5 [x19] s)) [x4, x3, x1] s)
def F120 : F2 := .fn H120 true
theorem fe120 : feE Tryz.prog ann 120 2 [.j [1], .j [6, 5, 1], .j [], .j [1]] = some F120 := by kernel_rfl
/- daguerre/kind.Elem -/
def H121 : F2C := fun c _ v s K =>
pop v fun x0 v =>
endE v (
c (.mk .d0 .d1 .d3 .d6) [x0] s fun x1 s =>
vGen (.un .not (.c x1)) fun x2 =>
gK x2 false x0 fun x3 =>
gV x2 false (vIxs x3 (ci 0)) fun x4 =>
gV x2 false (bEqT x4 (cu 91)) fun x5 =>
vPick x2 ct x5 fun x6 =>
cnd x6 (K (.tup [(.str []), cf]) s)
(vGen (.sls (.c x0) (some (.c (ci 1))) none) fun x7 =>
K (.tup [x7, ct]) s))
def F121 : F2 := .fn H121 true
theorem fe121 : feE Tryz.prog ann 121 1 [.j []] = some F121 := by kernel_rfl
/- (*daguerre/verify.checker).find -/
def H122 : F2C := fun c _ v s K =>
pop v fun x0 v =>
pop v fun x1 v =>
endE v (
zBox false x1 s fun x2 s =>
vChk x0 fun x3 =>
fa1 x3 2 fun x4 =>
fa1 x4 8 fun x5 =>
ldA x5 take1 s fun x6 s =>
vGen (.mkf 167 [] [(.c x2)]) fun x7 =>
c (.mk .d0 .d2 .d4 .d6) [x6, x7] s fun x8 s =>
bLt x8 (ci 0) fun x9 =>
cnd x9 (K (.nil .ptr) s)
(none))
def F122 : F2 := .fn H122 true
theorem fe122 : feE Tryz.prog ann 122 2 [.cr] = some F122 := by kernel_rfl
/- daguerre/verify.between -/
def H124 : F2C := fun _ _ v s K =>
pop v fun x0 v =>
pop v fun x1 v =>
pop v fun x2 v =>
endE v (
bGe x0 x1 fun x3 =>
gK x3 true x0 fun x4 =>
gK x3 true x2 fun x5 =>
gV x3 true (bLe x4 x5) fun x6 =>
vPick x3 x6 cf fun x7 =>
K x7 s)
def F124 : F2 := .fn H124 true
theorem fe124 : feE Tryz.prog ann 124 3 [] = some F124 := by kernel_rfl
/- (*daguerre/verify.checker).move -/
def H125 : F2C := fun c _ v s K =>
pop v fun x0 v =>
pop v fun x1 v =>
endE v (
zTbox x1 s fun x2 s =>
fa1 x2 0 fun x3 =>
ldA x3 take1 s fun x4 s =>
jn (fun _ s =>
K (.tup []) s) fun K5 =>
bEqF x4 (ci 1) fun x6 =>
jn (fun _ s =>
K5 [] s) fun K7 =>
cnd x6 (c (.mk .d0 .d1 .d7 .d7) [x0, (.str [73])] s fun _ s =>
K7 [] s)
(bEqF x4 (ci 2) fun x9 =>
jn (fun _ s =>
K7 [] s) fun K10 =>
cnd x9 (c (.mk .d0 .d1 .d7 .d7) [x0, (.str [78])] s fun _ s =>
K10 [] s)
(bEqF x4 (ci 3) fun x12 =>
cnd x12 (none)
(bEqF x4 (ci 4) fun x13 =>
cnd x13 (none)
(bEqF x4 (ci 5) fun x14 =>
cnd x14 (c (.mk .d0 .d2 .d5 .d0) [x0] s fun _ s =>
K10 [] s)
(none))))))
def F125 : F2 := .fn H125 true
theorem fe125 : feE Tryz.prog ann 125 2 [.j [], .j [], .j [], .cl, .cl, .cr] = some F125 := by kernel_rfl
/- (*daguerre/verify.checker).field -/
def H129 : F2C := fun c _ v s K =>
pop v fun x0 v =>
pop v fun x1 v =>
endE v (
zTbox x1 s fun x2 s =>
fa1 x2 0 fun x3 =>
ldA x3 take1 s fun x4 s =>
bEqF x4 (ci 37) fun x5 =>
cnd x5 (lgE qNoE (zK x0) s fun x6 e7 s =>
lgE qNoE (zV (vChk x6)) s fun x8 e9 s =>
lgE qNoE (zV (fa1 x8 0)) s fun x10 e11 s =>
lgE (qLdE x10 1) (ldA x10 take1) s fun x12 e13 s =>
lgE qNoE (zV (fa1 x2 2)) s fun x14 e15 s =>
lgE (qLdE x14 1) (ldA x14 take1) s fun x16 e17 s =>
lgE qNoE (c (.mk .d0 .d0 .d4 .d3) [x12, x16]) s fun x18 e19 s =>
lgE qNoE (zK x18) s fun x20 e21 s =>
lgE qNoE (zV (vExt x20 0)) s fun x22 e23 s =>
lgE qNoE (zV (vExt x20 1)) s fun x24 e25 s =>
lgE qNoE (boxD false [.str [], .str [], .bool false, .nil .sl, .nil .sl, .nil .sl]) s fun x26 e27 s =>
lgE qNoE (zSt x26 x22 6) s fun _ e29 s =>
lgE qNoE (zK x24) s fun x30 e31 s =>
calmE [(3, 5), (3, 10), (5, 10), (6, 10)] [e7, e9, e11, e13, e15, e17, e19, e21, e23, e25, e27, e29, e31] (fun s =>
gV x30 true (fa1 x26 2) fun x32 =>
gH x30 true (ldA x32 take1) s fun x33 s =>
gV x30 true (vGen (.un .not (.c x33))) fun x34 =>
vPick x30 x34 cf fun x35 =>
c (.mk .d0 .d0 .d7 .d7) [x0, x35] s fun _ s =>
fa1 x2 2 fun x37 =>
ldA x37 take1 s fun x38 s =>
c (.mk .d0 .d1 .d7 .d7) [x0, x38] s fun _ s =>
K (.tup []) s) s)
(lgE qNoE (zK x0) s fun x40 e41 s =>
lgE qNoE (zV (vChk x40)) s fun x42 e43 s =>
lgE qNoE (zV (fa1 x42 0)) s fun x44 e45 s =>
lgE (qLdE x44 1) (ldA x44 take1) s fun x46 e47 s =>
lgE qNoE (zV (fa1 x2 2)) s fun x48 e49 s =>
lgE (qLdE x48 1) (ldA x48 take1) s fun x50 e51 s =>
lgE qNoE (zV (fa1 x2 3)) s fun x52 e53 s =>
lgE (qLdE x52 1) (ldA x52 take1) s fun x54 e55 s =>
lgE qNoE (c (.mk .d0 .d0 .d4 .d6) [x46, x50, x54]) s fun x56 e57 s =>
lgE qNoE (zK x56) s fun x58 e59 s =>
lgE qNoE (zV (vExt x58 0)) s fun x60 e61 s =>
lgE qNoE (zV (vExt x58 1)) s fun x62 e63 s =>
lgE qNoE (zV (vExt x58 2)) s fun x64 e65 s =>
lgE qNoE (boxD false [.str [], .str [], .bool false]) s fun x66 e67 s =>
lgE qNoE (zK x60) s fun _ e69 s =>
lgE qNoE (zSt x66 x62 3) s fun _ e71 s =>
lgE qNoE (zK x64) s fun x72 e73 s =>
calmE [(3, 5), (3, 7), (5, 7), (3, 13), (5, 13), (7, 13), (8, 13)] [e41, e43, e45, e47, e49, e51, e53, e55, e57, e59, e61, e63, e65, e67, e69, e71, e73] (fun s =>
gV x72 true (fa1 x66 2) fun x74 =>
gH x72 true (ldA x74 take1) s fun x75 s =>
gV x72 true (fa1 x2 0) fun x76 =>
gH x72 true (ldA x76 take1) s fun x77 s =>
gV x72 true (bEqF x77 (ci 40)) fun x78 =>
gK x72 true x78 fun x79 =>
gV x79 false (fa1 x2 0) fun x80 =>
gH x79 false (ldA x80 take1) s fun x81 s =>
gV x79 false (bEqF x81 (ci 41)) fun x82 =>
gV x72 true (vPick x79 ct x82) fun x83 =>
gV x72 true (vBeq false x75 x83) fun x84 =>
vPick x72 x84 cf fun x85 =>
c (.mk .d0 .d0 .d7 .d7) [x0, x85] s fun _ s =>
fa1 x2 0 fun x87 =>
ldA x87 take1 s fun x88 s =>
jn (fun _ s =>
K (.tup []) s) fun K89 =>
bEqF x88 (ci 38) fun x90 =>
cnd x90 (none)
(bEqF x88 (ci 39) fun x91 =>
cnd x91 (none)
(bEqF x88 (ci 40) fun x92 =>
cnd x92 (none)
(fa1 x66 1 fun x93 =>
ldA x93 take1 s fun x94 s =>
zBsl [.str []] 1 1 (eCons 0 1 x94 eNil) s fun x95 s =>
c (.mk .d0 .d1 .d7 .d6) [x0, x95] s fun _ s =>
K89 [] s)))) s))
def F129 : F2 := .fn H129 true
theorem fe129 : feE Tryz.prog ann 129 2 [.j [], .j [], .cl, .cl, .cl] = some F129 := by kernel_rfl
/- (*daguerre/verify.checker).call -/
def H130 : F2C := fun c _ v s K =>
pop v fun x0 v =>
pop v fun x1 v =>
endE v (
zTbox x1 s fun x2 s =>
lgE qNoE (zK x0) s fun x3 e4 s =>
lgE qNoE (zV (vChk x3)) s fun x5 e6 s =>
lgE qNoE (zV (fa1 x5 0)) s fun x7 e8 s =>
lgE (qLdE x7 1) (ldA x7 take1) s fun x9 e10 s =>
lgE qNoE (zV (fa1 x2 2)) s fun x11 e12 s =>
lgE (qLdE x11 1) (ldA x11 take1) s fun x13 e14 s =>
lgE qNoE (zV (fa1 x2 3)) s fun x15 e16 s =>
lgE (qLdE x15 1) (ldA x15 take1) s fun x17 e18 s =>
lgE qNoE (c (.mk .d0 .d0 .d3 .d3) [x9, x13, x17]) s fun x19 e20 s =>
lgE qNoE (zK x19) s fun x21 e22 s =>
lgE qNoE (zV (vExt x21 0)) s fun x23 e24 s =>
lgE qNoE (zV (vExt x21 1)) s fun x25 e26 s =>
lgE qNoE (zV (vExt x21 2)) s fun x27 e28 s =>
lgE qNoE (boxD false [.str [], .nil .sl, .str [], .bool false, .bool false, .int .i64 0, .int .i64 0, .nil .sl, .nil .sl, .nil .sl]) s fun x29 e30 s =>
lgE qNoE (zK x23) s fun _ e32 s =>
lgE qNoE (zSt x29 x25 10) s fun _ e34 s =>
lgE qNoE (zK x27) s fun x35 e36 s =>
calmE [(3, 5), (3, 7), (5, 7), (3, 13), (5, 13), (7, 13), (8, 13)] [e4, e6, e8, e10, e12, e14, e16, e18, e20, e22, e24, e26, e28, e30, e32, e34, e36] (fun s =>
gV x35 true (fa1 x29 4) fun x37 =>
gH x35 true (ldA x37 take1) s fun x38 s =>
gV x35 true (vGen (.un .not (.c x38))) fun x39 =>
vPick x35 x39 cf fun x40 =>
fa1 x2 0 fun x41 =>
ldA x41 take1 s fun x42 s =>
bEqF x42 (ci 45) fun x43 =>
cnd x43 (none)
(gV x40 true (fa1 x29 3) fun x44 =>
gH x40 true (ldA x44 take1) s fun x45 s =>
gV x40 true (fa1 x2 0) fun x46 =>
gH x40 true (ldA x46 take1) s fun x47 s =>
gV x40 true (bEqF x47 (ci 42)) fun x48 =>
gV x40 true (vBeq false x45 x48) fun x49 =>
vPick x40 x49 cf fun x50 =>
c (.mk .d0 .d0 .d7 .d7) [x0, x50] s fun _ s =>
fa1 x29 1 fun x52 =>
ldA x52 take1 s fun x53 s =>
c (.mk .d0 .d1 .d7 .d6) [x0, x53] s fun _ s =>
fa1 x2 0 fun x55 =>
ldA x55 take1 s fun x56 s =>
jn (fun _ s =>
fa1 x29 2 fun x58 =>
ldA x58 take1 s fun x59 s =>
bEqT x59 (.str [86]) fun x60 =>
cnd x60 (none)
(K (.tup []) s)) fun K57 =>
bEqF x56 (ci 43) fun x61 =>
cnd x61 (none)
(bEqF x56 (ci 45) fun x62 =>
cnd x62 (none)
(bEqF x56 (ci 44) fun x63 =>
cnd x63 (none)
(K57 [] s))))) s)
def F130 : F2 := .fn H130 true
theorem fe130 : feE Tryz.prog ann 130 2 [.cl, .j [], .cl, .cl, .cl, .cl] = some F130 := by kernel_rfl
/- (*daguerre/verify.checker).ret -/
def H131 : F2C := fun c _ v s K =>
pop v fun x0 v =>
pop v fun x1 v =>
endE v (
jn (fun _ s =>
K (.tup []) s) fun K2 =>
bEqF x1 (ci 46) fun x3 =>
jn (fun _ s =>
K2 [] s) fun K4 =>
cnd x3 (vChk x0 fun x5 =>
fa1 x5 2 fun x6 =>
fa1 x6 2 fun x7 =>
ldA x7 take1 s fun x8 s =>
bEqF x8 (.str [86]) fun x9 =>
c (.mk .d0 .d0 .d7 .d7) [x0, x9] s fun _ s =>
K4 [] s)
(bEqF x1 (ci 47) fun x11 =>
cnd x11 (vChk x0 fun x12 =>
fa1 x12 2 fun x13 =>
fa1 x13 2 fun x14 =>
ldA x14 take1 s fun x15 s =>
bEqF x15 (.str [73]) fun x16 =>
c (.mk .d0 .d0 .d7 .d7) [x0, x16] s fun _ s =>
zBsl [.str []] 1 1 (eCons 0 1 (.str [73]) eNil) s fun x18 s =>
c (.mk .d0 .d1 .d7 .d6) [x0, x18] s fun _ s =>
K4 [] s)
(none)))
def F131 : F2 := .fn H131 true
theorem fe131 : feE Tryz.prog ann 131 2 [.j [], .j [], .cr] = some F131 := by kernel_rfl
/- (*daguerre/verify.checker).rest -/
def H133 : F2C := fun c _ v s K =>
pop v fun x0 v =>
pop v fun x1 v =>
endE v (
zTbox x1 s fun x2 s =>
fa1 x2 0 fun x3 =>
ldA x3 take1 s fun x4 s =>
jn (fun _ s =>
K (.tup []) s) fun K5 =>
bEqF x4 (ci 56) fun x6 =>
cnd x6 (none)
(bEqF x4 (ci 57) fun x7 =>
cnd x7 (none)
(bEqF x4 (ci 58) fun x8 =>
cnd x8 (none)
(bEqF x4 (ci 59) fun x9 =>
jn (fun _ s =>
K5 [] s) fun K10 =>
cnd x9 (c (.mk .d0 .d1 .d7 .d7) [x0, (.str [73])] s fun _ s =>
K10 [] s)
(zBsl [.str []] 1 1 (eCons 0 1 (.str [73]) eNil) s fun x12 s =>
c (.mk .d0 .d1 .d7 .d6) [x0, x12] s fun _ s =>
K10 [] s)))))
def F133 : F2 := .fn H133 true
theorem fe133 : feE Tryz.prog ann 133 2 [.j [], .cl, .cl, .cl, .j []] = some F133 := by kernel_rfl
/- daguerre/op.between -/
def H134 : F2C := fun _ _ v s K =>
pop v fun x0 v =>
pop v fun x1 v =>
pop v fun x2 v =>
endE v (
bGe x0 x1 fun x3 =>
gK x3 true x0 fun x4 =>
gK x3 true x2 fun x5 =>
gV x3 true (bLe x4 x5) fun x6 =>
vPick x3 x6 cf fun x7 =>
K x7 s)
def F134 : F2 := .fn H134 true
theorem fe134 : feE Tryz.prog ann 134 3 [] = some F134 := by kernel_rfl
/- internal/stringslite.Cut -/
def H136 : F2C := fun c _ v s K =>
pop v fun x0 v =>
pop v fun x1 v =>
endE v (
c (.mk .d0 .d2 .d5 .d6) [x0, x1] s fun x2 s =>
bGe x2 (ci 0) fun x3 =>
cnd x3 (lgE qNoE (zK x0) s fun x4 e5 s =>
lgE qNoE (zK x2) s fun x6 e7 s =>
lgE qNoE (zV (vGen (.sls (.c x4) none (some (.c x6))))) s fun x8 e9 s =>
lgE qNoE (zK x0) s fun x10 e11 s =>
lgE qNoE (zK x2) s fun x12 e13 s =>
lgE qNoE (zK x1) s fun x14 e15 s =>
lgE qNoE (zV (vLens x14)) s fun x16 e17 s =>
lgE qNoE (zV (bAdd x12 x16)) s fun x18 e19 s =>
lgE qNoE (zV (vGen (.sls (.c x10) (some (.c x18)) none))) s fun x20 e21 s =>
lgE qNoE (zK x8) s fun x22 e23 s =>
lgE qNoE (zK x20) s fun x24 e25 s =>
lgE qNoE (zK ct) s fun x26 e27 s =>
calmE [(2, 6), (2, 8)] [e5, e7, e9, e11, e13, e15, e17, e19, e21, e23, e25, e27] (fun s =>
K (.tup [x22, x24, x26]) s) s)
(none))
def F136 : F2 := .fn H136 true
theorem fe136 : feE Tryz.prog ann 136 2 [.cr] = some F136 := by kernel_rfl
/- daguerre/class.Field$1 -/
def H138 : F2C := fun _ _ v s K =>
pop v fun x0 v =>
pop v fun x1 v =>
endE v (
zTbox x0 s fun x2 s =>
fa1 x2 0 fun x3 =>
ldA x3 take1 s fun x4 s =>
ldA x1 take1 s fun x5 s =>
bEqF x4 x5 fun x6 =>
K x6 s)
def F138 : F2 := .fn H138 true
theorem fe138 : feE Tryz.prog ann 138 2 [] = some F138 := by kernel_rfl
/- slices.IndexFunc[[]daguerre/api.Field,daguerre/api.Field] -/
def H137 : F2C := fun c k v s K =>
pop v fun x0 v =>
pop v fun x1 v =>
endE v (
vLenS x0 fun x2 =>
jn (fun _ s =>
K (.int .i64 (-1)) s) fun K3 =>
loopE k (fun K4 v s =>
pop v fun x5 _ =>
bLt x5 x2 fun x6 =>
cnd x6 (jn (fun _ s =>
bAdd x5 (ci 1) fun x8 =>
K4 [x8] s) fun K7 =>
vIaS x0 x5 3 fun x9 =>
ldA x9 (takeN 3) s fun x10 s =>
zCallV c x1 [x10] s fun x11 s =>
cnd x11 (K x5 s)
(K7 [] s))
(K3 [] s)) [(ci 0)] s)
def F137 : F2 := .fn H137 true
theorem fe137 : feE Tryz.prog ann 137 2 [.j [], .j [8], .j [], .j [], .j []] = some F137 := by kernel_rfl
/- container/heap.Push -/
def H140 : F2C := fun c _ v s K =>
pop v fun x0 v =>
pop v fun x1 v =>
endE v (
zInv [(154, 313, none)] x0 [x1] c s fun _ s =>
zInv [(17, 306, none), (56, 89, none), (154, 309, some none)] x0 [] c s fun x3 s =>
bSub x3 (ci 1) fun x4 =>
c (.mk .d0 .d2 .d5 .d7) [x0, x4] s fun _ s =>
K (.tup []) s)
def F140 : F2 := .fn H140 true
theorem fe140 : feE Tryz.prog ann 140 2 [] = some F140 := by kernel_rfl
/- container/heap.Pop -/
def H141 : F2C := fun c _ v s K =>
pop v fun x0 v =>
endE v (
zInv [(17, 306, none), (56, 89, none), (154, 309, some none)] x0 [] c s fun x1 s =>
bSub x1 (ci 1) fun x2 =>
zInv [(154, 311, some none)] x0 [(ci 0), x2] c s fun _ s =>
c (.mk .d0 .d2 .d6 .d0) [x0, (ci 0), x2] s fun _ s =>
zInv [(154, 312, none)] x0 [] c s fun x5 s =>
K x5 s)
def F141 : F2 := .fn H141 true
theorem fe141 : feE Tryz.prog ann 141 1 [] = some F141 := by kernel_rfl
/- daguerre/daguerrelaw10.begun -/
def H144 : F2C := fun c _ v s K =>
endE v (
c (.mk .d0 .d0 .d1 .d7) [] s fun x0 s =>
c (.mk .d0 .d0 .d3 .d1) [x0] s fun x1 s =>
vExt x1 0 fun x2 =>
vExt x1 1 fun x3 =>
c (.mk .d0 .d0 .d1 .d7) [] s fun x4 s =>
vIaS x4 (ci 1) 6 fun x5 =>
fa1 x5 5 fun x6 =>
ldA x6 take1 s fun x7 s =>
vIaS x7 (ci 0) 10 fun x8 =>
fa1 x8 7 fun x9 =>
ldA x9 take1 s fun x10 s =>
vBld [.int .i64 0, .int .i64 0, .str [], .str []] (eCons 0 1 (ci 2) eNil) fun x11 =>
vIaS x10 (ci 0) 4 fun x12 =>
zSt x12 x11 4 s fun _ s =>
c (.mk .d0 .d0 .d3 .d1) [x4] s fun x14 s =>
vExt x14 0 fun x15 =>
vExt x14 1 fun x16 =>
bEqT x3 (ci 0) fun x17 =>
gK x17 false x16 fun x18 =>
gV x17 false (bEqT x18 (ci 0)) fun x19 =>
vPick x17 ct x19 fun x20 =>
cnd x20 (none)
(c (.mk .d0 .d2 .d6 .d3) [] s fun x21 s =>
gK x21 true x2 fun x22 =>
gH x21 true (c (.mk .d0 .d0 .d3 .d4) [x22, (.str [65, 97]), (ci 0)]) s fun x23 s =>
vPick x21 x23 cf fun x24 =>
gK x24 true x2 fun x25 =>
gH x24 true (c (.mk .d0 .d0 .d3 .d4) [x25, (.str [66, 98]), (ci 0)]) s fun x26 s =>
vPick x24 x26 cf fun x27 =>
gK x27 true x15 fun x28 =>
gH x27 true (c (.mk .d0 .d0 .d3 .d4) [x28, (.str [65, 97]), (ci 0)]) s fun x29 s =>
gV x27 true (vGen (.un .not (.c x29))) fun x30 =>
vPick x27 x30 cf fun x31 =>
gK x31 true x2 fun x32 =>
gH x31 true (c (.mk .d0 .d0 .d3 .d4) [x32, (.str [70, 97, 99, 101]), (ci 0)]) s fun x33 s =>
gV x31 true (vGen (.un .not (.c x33))) fun x34 =>
vPick x31 x34 cf fun x35 =>
gK x35 true x2 fun x36 =>
gH x35 true (c (.mk .d0 .d0 .d3 .d4) [x36, (.str [65, 97]), (ci 1)]) s fun x37 s =>
gV x35 true (vGen (.un .not (.c x37))) fun x38 =>
vPick x35 x38 cf fun x39 =>
gK x39 true x2 fun x40 =>
gH x39 true (c (.mk .d0 .d0 .d3 .d4) [x40, (.str [90, 122]), (ci 0)]) s fun x41 s =>
gV x39 true (vGen (.un .not (.c x41))) fun x42 =>
vPick x39 x42 cf fun x43 =>
K x43 s))
def F144 : F2 := .pur H144 true mNo
theorem fe144 : feE Tryz.prog ann 144 0 [.cl] = some F144 := by kernel_rfl
/- daguerre/class.all[daguerre/api.Field]$1 -/
def H145 : F2C := fun c _ v s K =>
pop v fun x0 v =>
pop v fun x1 v =>
pop v fun x2 v =>
endE v (
zTbox x0 s fun x3 s =>
lgE (qLdE x1 1) (ldA x1 take1) s fun x4 e5 s =>
lgE (qLdE x2 3) (ldA x2 (takeN 3)) s fun x6 e7 s =>
lgE qNoE (zCallV c x4 [x6]) s fun x8 e9 s =>
lgE (qLdE x1 1) (ldA x1 take1) s fun x10 e11 s =>
lgE (qLdE x3 3) (ldA x3 (takeN 3)) s fun x12 e13 s =>
lgE qNoE (zCallV c x10 [x12]) s fun x14 e15 s =>
lgE qNoE (zV (bEqF x8 x14)) s fun x16 e17 s =>
lgE qNoE (zK x16) s fun x18 e19 s =>
calmE [(0, 1), (0, 3), (1, 3), (2, 3), (0, 4), (1, 4), (2, 4), (3, 4)] [e5, e7, e9, e11, e13, e15, e17, e19] (fun s =>
K x18 s) s)
def F145 : F2 := .fn H145 true
theorem fe145 : feE Tryz.prog ann 145 3 [] = some F145 := by kernel_rfl
/- daguerre/kind.Name -/
def H93 : F2C := fun c _ v s K =>
pop v fun x0 v =>
endE v (
bEqF x0 (.str [36, 105, 110, 105, 116]) fun x1 =>
gK x1 false x0 fun x2 =>
gH x1 false (c (.mk .d0 .d2 .d2 .d2) [x2]) s fun x3 s =>
gK x1 false x3 fun x4 =>
gK x4 true x0 fun x5 =>
gV x4 true (vIxs x5 (ci 0)) fun x6 =>
gH x4 true (c (.mk .d0 .d2 .d2 .d3) [x6]) s fun x7 s =>
gV x1 false (vPick x4 x7 cf) fun x8 =>
vPick x1 ct x8 fun x9 =>
K x9 s)
def F93 : F2 := .fn H93 true
theorem fe93 : feE Tryz.prog ann 93 1 [] = some F93 := by kernel_rfl
/- daguerre/kind.May -/
def H94 : F2C := fun c _ v s K =>
pop v fun x0 v =>
endE v (
c (.mk .d0 .d2 .d2 .d4) [x0, (.str [91])] s fun x1 s =>
c (.mk .d0 .d2 .d2 .d4) [x1, (.str [91])] s fun x2 s =>
bEqF x2 (.str [73]) fun x3 =>
gK x3 false x2 fun x4 =>
gH x3 false (c (.mk .d0 .d1 .d4 .d3) [x4]) s fun x5 s =>
vPick x3 ct x5 fun x6 =>
K x6 s)
def F94 : F2 := .fn H94 true
theorem fe94 : feE Tryz.prog ann 94 1 [] = some F94 := by kernel_rfl
/- daguerre/class.method -/
def H98 : F2C := fun c _ v s K =>
pop v fun x0 v =>
endE v (
zTbox x0 s fun x1 s =>
fa1 x1 0 fun x2 =>
ldA x2 take1 s fun x3 s =>
c (.mk .d0 .d1 .d3 .d5) [x3] s fun x4 s =>
vGen (.un .not (.c x4)) fun x5 =>
gV x5 false (fa1 x1 1) fun x6 =>
gH x5 false (ldA x6 take1) s fun x7 s =>
gV x5 false (vLenS x7) fun x8 =>
gV x5 false (bGt x8 (ci 6)) fun x9 =>
vPick x5 ct x9 fun x10 =>
gV x10 false (fa1 x1 1) fun x11 =>
gH x10 false (ldA x11 take1) s fun x12 s =>
gH x10 false (c (.mk .d0 .d2 .d2 .d6) [x12, (.fn 94 [] [])]) s fun x13 s =>
gV x10 false (vGen (.un .not (.c x13))) fun x14 =>
vPick x10 ct x14 fun x15 =>
gV x15 false (fa1 x1 2) fun x16 =>
gH x15 false (ldA x16 take1) s fun x17 s =>
gH x15 false (c (.mk .d0 .d2 .d2 .d7) [x17]) s fun x18 s =>
gV x15 false (vGen (.un .not (.c x18))) fun x19 =>
vPick x15 ct x19 fun x20 =>
cnd x20 (none)
(fa1 x1 4 fun x21 =>
ldA x21 take1 s fun x22 s =>
cnd x22 (ldA x1 (takeN 10) s fun x23 s =>
c (.mk .d0 .d2 .d3 .d0) [x23] s fun x24 s =>
K x24 s)
(fa1 x1 0 fun x25 =>
ldA x25 take1 s fun x26 s =>
bEqF x26 (.str [36, 105, 110, 105, 116]) fun x27 =>
gV x27 true (fa1 x1 3) fun x28 =>
gH x27 true (ldA x28 take1) s fun x29 s =>
gV x27 true (vGen (.un .not (.c x29))) fun x30 =>
gK x27 true x30 fun x31 =>
gV x31 false (fa1 x1 1) fun x32 =>
gH x31 false (ldA x32 take1) s fun x33 s =>
gV x31 false (vLenS x33) fun x34 =>
gV x31 false (bGt x34 (ci 0)) fun x35 =>
gV x27 true (vPick x31 ct x35) fun x36 =>
gK x27 true x36 fun x37 =>
gV x37 false (fa1 x1 2) fun x38 =>
gH x37 false (ldA x38 take1) s fun x39 s =>
gV x37 false (bEqT x39 (.str [86])) fun x40 =>
gV x27 true (vPick x37 ct x40) fun x41 =>
vPick x27 x41 cf fun x42 =>
cnd x42 (none)
(lgE qNoE (zV (fa1 x1 5)) s fun x43 e44 s =>
lgE (qLdE x43 1) (ldA x43 take1) s fun x45 e46 s =>
lgE (qLdE x1 10) (ldA x1 (takeN 10)) s fun x47 e48 s =>
lgE qNoE (c (.mk .d0 .d2 .d3 .d2) [x47]) s fun x49 e50 s =>
lgE qNoE (c (.mk .d0 .d2 .d3 .d1) [x45, x49, (ci 16)]) s fun x51 e52 s =>
lgE qNoE (zK x51) s fun x53 e54 s =>
lgE (qGE x53 true qNoE) (zG x53 true (zV (fa1 x1 6))) s fun x55 e56 s =>
lgE (qGE x53 true (qLdE x55 1)) (zG x53 true (ldA x55 take1)) s fun x57 e58 s =>
lgE (qGE x53 true qNoE) (zG x53 true (c (.mk .d0 .d2 .d3 .d1) [x57, (ci 0), (ci 16)])) s fun x59 e60 s =>
lgE qNoE (zV (vPick x53 x59 cf)) s fun x61 e62 s =>
lgE qNoE (zK x61) s fun x63 e64 s =>
lgE (qGE x63 true (qLdE x1 10)) (zG x63 true (ldA x1 (takeN 10))) s fun x65 e66 s =>
lgE (qGE x63 true qNoE) (zG x63 true (c (.mk .d0 .d2 .d3 .d3) [x65])) s fun x67 e68 s =>
lgE qNoE (zV (vPick x63 x67 cf)) s fun x69 e70 s =>
lgE qNoE (zK x69) s fun x71 e72 s =>
lgE (qGE x71 true (qLdE x1 10)) (zG x71 true (ldA x1 (takeN 10))) s fun x73 e74 s =>
lgE (qGE x71 true qNoE) (zG x71 true (c (.mk .d0 .d2 .d3 .d4) [x73])) s fun x75 e76 s =>
lgE qNoE (zV (vPick x71 x75 cf)) s fun x77 e78 s =>
lgE qNoE (zK x77) s fun x79 e80 s =>
lgE (qGE x79 true (qLdE x1 10)) (zG x79 true (ldA x1 (takeN 10))) s fun x81 e82 s =>
lgE (qGE x79 true qNoE) (zG x79 true (c (.mk .d0 .d2 .d3 .d5) [x81])) s fun x83 e84 s =>
lgE qNoE (zV (vPick x79 x83 cf)) s fun x85 e86 s =>
lgE qNoE (zK x85) s fun x87 e88 s =>
calmE [(1, 2), (1, 3)] [e44, e46, e48, e50, e52, e54, e56, e58, e60, e62, e64, e66, e68, e70, e72, e74, e76, e78, e80, e82, e84, e86, e88] (fun s =>
K x87 s) s))))
def F98 : F2 := .fn H98 true
theorem fe98 : feE Tryz.prog ann 98 1 [.cl, .j [], .cl] = some F98 := by kernel_rfl
/- daguerre/class.all[daguerre/api.Method]$1 -/
def H149 : F2C := fun c _ v s K =>
pop v fun x0 v =>
pop v fun x1 v =>
pop v fun x2 v =>
endE v (
zTbox x0 s fun x3 s =>
lgE (qLdE x1 1) (ldA x1 take1) s fun x4 e5 s =>
lgE (qLdE x2 10) (ldA x2 (takeN 10)) s fun x6 e7 s =>
lgE qNoE (zCallV c x4 [x6]) s fun x8 e9 s =>
lgE (qLdE x1 1) (ldA x1 take1) s fun x10 e11 s =>
lgE (qLdE x3 10) (ldA x3 (takeN 10)) s fun x12 e13 s =>
lgE qNoE (zCallV c x10 [x12]) s fun x14 e15 s =>
lgE qNoE (zV (bEqF x8 x14)) s fun x16 e17 s =>
lgE qNoE (zK x16) s fun x18 e19 s =>
calmE [(0, 1), (0, 3), (1, 3), (2, 3), (0, 4), (1, 4), (2, 4), (3, 4)] [e5, e7, e9, e11, e13, e15, e17, e19] (fun s =>
K x18 s) s)
def F149 : F2 := .fn H149 true
theorem fe149 : feE Tryz.prog ann 149 3 [] = some F149 := by kernel_rfl
/- daguerre/kind.word -/
def H146 : F2C := fun c k v s K =>
pop v fun x0 v =>
endE v (
vLens x0 fun x1 =>
jn (fun _ s =>
bEqT x0 (.str []) fun x3 =>
gK x3 true x0 fun x4 =>
gV x3 true (vLens x4) fun x5 =>
gV x3 true (bLe x5 (ci 8)) fun x6 =>
vPick x3 x6 cf fun x7 =>
K x7 s) fun K2 =>
loopE k (fun K8 v s =>
pop v fun x9 _ =>
bLt x9 x1 fun x10 =>
cnd x10 (jn (fun _ s =>
bAdd x9 (ci 1) fun x12 =>
K8 [x12] s) fun K11 =>
vIxs x0 x9 fun x13 =>
c (.mk .d0 .d2 .d2 .d3) [x13] s fun x14 s =>
vGen (.un .not (.c x14)) fun x15 =>
gK x15 true x0 fun x16 =>
gK x15 true x9 fun x17 =>
gV x15 true (vIxs x16 x17) fun x18 =>
gH x15 true (c (.mk .d0 .d2 .d3 .d6) [x18]) s fun x19 s =>
gV x15 true (vGen (.un .not (.c x19))) fun x20 =>
vPick x15 x20 cf fun x21 =>
gK x21 true x0 fun x22 =>
gK x21 true x9 fun x23 =>
gV x21 true (vIxs x22 x23) fun x24 =>
gH x21 true (c (.mk .d0 .d2 .d6 .d4) [x24]) s fun x25 s =>
gV x21 true (vGen (.un .not (.c x25))) fun x26 =>
vPick x21 x26 cf fun x27 =>
cnd x27 (K cf s)
(K11 [] s))
(K2 [] s)) [(ci 0)] s)
def F146 : F2 := .fn H146 true
theorem fe146 : feE Tryz.prog ann 146 1 [.j [], .j [6], .j [], .j [], .j []] = some F146 := by kernel_rfl
/- daguerre/kind.great -/
def H158 : F2C := fun _ _ v s K =>
pop v fun x0 v =>
endE v (
bGe x0 (cu 65) fun x1 =>
gK x1 true x0 fun x2 =>
gV x1 true (bLe x2 (cu 90)) fun x3 =>
vPick x1 x3 cf fun x4 =>
K x4 s)
def F158 : F2 := .fn H158 true
theorem fe158 : feE Tryz.prog ann 158 1 [] = some F158 := by kernel_rfl
/- daguerre/types.There -/
def H62 : F2C := fun c _ v s K =>
pop v fun x0 v =>
pop v fun x1 v =>
endE v (
vNil true .ptr x0 fun x2 =>
gK x2 true x1 fun x3 =>
gV x2 true (bEqF x3 (.str [78])) fun x4 =>
gK x2 true x4 fun x5 =>
gK x5 false x1 fun x6 =>
gV x5 false (bEqF x6 (.str [84])) fun x7 =>
gV x2 true (vPick x5 ct x7) fun x8 =>
gK x2 true x8 fun x9 =>
gK x9 false x0 fun x10 =>
gK x9 false x1 fun x11 =>
gK x9 false x1 fun x12 =>
gH x9 false (c (.mk .d0 .d1 .d0 .d1) [x10, x11, x12]) s fun x13 s =>
gV x2 true (vPick x9 ct x13) fun x14 =>
vPick x2 x14 cf fun x15 =>
K x15 s)
def F62 : F2 := .fn H62 true
theorem fe62 : feE Tryz.prog ann 62 2 [] = some F62 := by kernel_rfl
/- slices.ContainsFunc[[]daguerre/api.Trap,daguerre/api.Trap] -/
def H108 : F2C := fun c _ v s K =>
pop v fun x0 v =>
pop v fun x1 v =>
endE v (
c (.mk .d0 .d2 .d4 .d0) [x0, x1] s fun x2 s =>
bGe x2 (ci 0) fun x3 =>
K x3 s)
def F108 : F2 := .fn H108 true
theorem fe108 : feE Tryz.prog ann 108 2 [] = some F108 := by kernel_rfl
/- daguerre/closed.whole$3$2 -/
def H111 : F2C := fun c _ v s K =>
pop v fun x0 v =>
pop v fun x1 v =>
pop v fun x2 v =>
endE v (
zTbox x0 s fun x3 s =>
ldA x1 take1 s fun x4 s =>
fa1 x3 2 fun x5 =>
ldA x5 take1 s fun x6 s =>
zCallV c x4 [x6] s fun x7 s =>
gH x7 false (ldA x2 take1) s fun x8 s =>
gH x7 false (ldA x3 (takeN 4)) s fun x9 s =>
gH x7 false (c (.mk .d0 .d1 .d6 .d0) [x8, x9]) s fun x10 s =>
gV x7 false (vGen (.un .not (.c x10))) fun x11 =>
vPick x7 ct x11 fun x12 =>
K x12 s)
def F111 : F2 := .fn H111 true
theorem fe111 : feE Tryz.prog ann 111 3 [] = some F111 := by kernel_rfl
/- slices.ContainsFunc[[]daguerre/api.Ins,daguerre/api.Ins] -/
def H110 : F2C := fun c _ v s K =>
pop v fun x0 v =>
pop v fun x1 v =>
endE v (
c (.mk .d0 .d2 .d4 .d1) [x0, x1] s fun x2 s =>
bGe x2 (ci 0) fun x3 =>
K x3 s)
def F110 : F2 := .fn H110 true
theorem fe110 : feE Tryz.prog ann 110 2 [] = some F110 := by kernel_rfl
/- daguerre/link.Alike -/
def H114 : F2C := fun c _ v s K =>
pop v fun x0 v =>
pop v fun x1 v =>
endE v (
zTbox x0 s fun x2 s =>
zTbox x1 s fun x3 s =>
fa1 x2 1 fun x4 =>
ldA x4 take1 s fun x5 s =>
fa1 x3 1 fun x6 =>
ldA x6 take1 s fun x7 s =>
c (.mk .d0 .d2 .d4 .d2) [x5, x7] s fun x8 s =>
gV x8 true (fa1 x2 2) fun x9 =>
gH x8 true (ldA x9 take1) s fun x10 s =>
gV x8 true (fa1 x3 2) fun x11 =>
gH x8 true (ldA x11 take1) s fun x12 s =>
gV x8 true (bEqF x10 x12) fun x13 =>
vPick x8 x13 cf fun x14 =>
K x14 s)
def F114 : F2 := .fn H114 true
theorem fe114 : feE Tryz.prog ann 114 2 [] = some F114 := by kernel_rfl
/- slices.Sort[[]string,string] -/
def H163 : F2C := fun c _ v s K =>
pop v fun x0 v =>
endE v (
vLenS x0 fun x1 =>
vCv .u64 x1 fun x2 =>
c (.mk .d0 .d2 .d7 .d4) [x2] s fun x3 s =>
c (.mk .d0 .d2 .d7 .d3) [x0, (ci 0), x1, x3] s fun _ s =>
K (.tup []) s)
def F163 : F2 := .fn H163 true
theorem fe163 : feE Tryz.prog ann 163 1 [] = some F163 := by kernel_rfl
/- daguerre/closed.has -/
def H118 : F2C := fun c _ v s K =>
pop v fun x0 v =>
pop v fun x1 v =>
pop v fun x2 v =>
endE v (
zBox false x2 s fun x3 s =>
fa1 x3 0 fun x4 =>
ldA x4 take1 s fun x5 s =>
c (.mk .d0 .d2 .d4 .d4) [x0, x1, x5] s fun x6 s =>
vExt x6 0 fun x7 =>
vExt x6 1 fun x8 =>
vGen (.un .not (.c x8)) fun x9 =>
cnd x9 (K cf s)
(c (.mk .d0 .d0 .d4 .d3) [x0, x7] s fun x10 s =>
vExt x10 0 fun x11 =>
vExt x10 1 fun _ =>
boxD false [.str [], .str [], .bool false, .nil .sl, .nil .sl, .nil .sl] s fun x13 s =>
zSt x13 x11 6 s fun _ s =>
fa1 x13 5 fun x15 =>
ldA x15 take1 s fun x16 s =>
vGen (.mkf 165 [] [(.c x3)]) fun x17 =>
c (.mk .d0 .d1 .d5 .d2) [x16, x17] s fun x18 s =>
K x18 s))
def F118 : F2 := .fn H118 true
theorem fe118 : feE Tryz.prog ann 118 3 [.j []] = some F118 := by kernel_rfl
/- slices.IndexFunc[[]daguerre/api.Map,daguerre/api.Map] -/
def H166 : F2C := fun _ k v s K =>
pop v fun x0 v =>
pop v fun _ v =>
endE v (
vLenS x0 fun x2 =>
jn (fun _ s =>
K (.int .i64 (-1)) s) fun K3 =>
loopE k (fun _ v s =>
pop v fun x5 _ =>
bLt x5 x2 fun x6 =>
cnd x6 (none)
(K3 [] s)) [(ci 0)] s)
def F166 : F2 := .fn H166 true
theorem fe166 : feE Tryz.prog ann 166 2 [.j [], .j [8], .cl, .j [], .ch] = some F166 := by kernel_rfl
/- (*daguerre/verify.checker).push -/
def H127 : F2C := fun _ _ v s K =>
pop v fun x0 v =>
pop v fun x1 v =>
endE v (
vChk x0 fun x2 =>
fa1 x2 13 fun x3 =>
ldA x3 take1 s fun x4 s =>
zBsl [.str []] 1 1 (eCons 0 1 x1 eNil) s fun x5 s =>
appB 1 16 x4 x5 s fun x6 s =>
vChk x0 fun x7 =>
fa1 x7 13 fun x8 =>
zSt x8 x6 1 s fun _ s =>
K (.tup []) s)
def F127 : F2 := .fn H127 true
theorem fe127 : feE Tryz.prog ann 127 2 [] = some F127 := by kernel_rfl
/- (*daguerre/verify.checker).pop -/
def H168 : F2C := fun _ _ v s K =>
pop v fun x0 v =>
endE v (
vChk x0 fun x1 =>
fa1 x1 13 fun x2 =>
ldA x2 take1 s fun x3 s =>
vLenS x3 fun x4 =>
bEqF x4 (ci 0) fun x5 =>
cnd x5 (none)
(lgE qNoE (zK x0) s fun x6 e7 s =>
lgE qNoE (zV (vChk x6)) s fun x8 e9 s =>
lgE qNoE (zV (fa1 x8 13)) s fun x10 e11 s =>
lgE (qLdE x10 1) (ldA x10 take1) s fun x12 e13 s =>
lgE qNoE (zK x0) s fun x14 e15 s =>
lgE qNoE (zV (vChk x14)) s fun x16 e17 s =>
lgE qNoE (zV (fa1 x16 13)) s fun x18 e19 s =>
lgE (qLdE x18 1) (ldA x18 take1) s fun x20 e21 s =>
lgE qNoE (zV (vLenS x20)) s fun x22 e23 s =>
lgE qNoE (zV (bSub x22 (ci 1))) s fun x24 e25 s =>
lgE qNoE (zV (vIaS x12 x24 1)) s fun x26 e27 s =>
lgE (qLdE x26 1) (ldA x26 take1) s fun x28 e29 s =>
lgE qNoE (zK x28) s fun x30 e31 s =>
calmE [(3, 7), (3, 8)] [e7, e9, e11, e13, e15, e17, e19, e21, e23, e25, e27, e29, e31] (fun s =>
lgE qNoE (zK x0) s fun x32 e33 s =>
lgE qNoE (zK x0) s fun x34 e35 s =>
lgE qNoE (zV (vChk x34)) s fun x36 e37 s =>
lgE qNoE (zV (fa1 x36 13)) s fun x38 e39 s =>
lgE (qLdE x38 1) (ldA x38 take1) s fun x40 e41 s =>
lgE qNoE (zK x0) s fun x42 e43 s =>
lgE qNoE (zV (vChk x42)) s fun x44 e45 s =>
lgE qNoE (zV (fa1 x44 13)) s fun x46 e47 s =>
lgE (qLdE x46 1) (ldA x46 take1) s fun x48 e49 s =>
lgE qNoE (zV (vLenS x48)) s fun x50 e51 s =>
lgE qNoE (zV (bSub x50 (ci 1))) s fun x52 e53 s =>
lgE qNoE (zV (vSlt x40 eN (eX x52) 1)) s fun x54 e55 s =>
lgE qNoE (zV (vChk x32)) s fun x56 e57 s =>
lgE qNoE (zV (fa1 x56 13)) s fun x58 e59 s =>
lgE qNoE (zSt x58 x54 1) s fun _ e61 s =>
calmE [(4, 8), (4, 9)] [e33, e35, e37, e39, e41, e43, e45, e47, e49, e51, e53, e55, e57, e59, e61] (fun s =>
K x30 s) s) s))
def F168 : F2 := .fn H168 true
theorem fe168 : feE Tryz.prog ann 168 1 [.cl] = some F168 := by kernel_rfl
/- (*daguerre/verify.checker).take -/
def H126 : F2C := fun c k v s K =>
pop v fun x0 v =>
pop v fun x1 v =>
endE v (
vLenS x1 fun x2 =>
bSub x2 (ci 1) fun x3 =>
jn (fun _ s =>
K (.tup []) s) fun K4 =>
loopE k (fun K5 v s =>
pop v fun x6 _ =>
bGe x6 (ci 0) fun x7 =>
cnd x7 (jn (fun _ s =>
bSub x6 (ci 1) fun x9 =>
K5 [x9] s) fun K8 =>
lgE qNoE (zK x0) s fun x10 e11 s =>
lgE qNoE (zK x0) s fun x12 e13 s =>
lgE qNoE (zV (vChk x12)) s fun x14 e15 s =>
lgE qNoE (zV (fa1 x14 0)) s fun x16 e17 s =>
lgE (qLdE x16 1) (ldA x16 take1) s fun x18 e19 s =>
lgE qNoE (zK x0) s fun x20 e21 s =>
lgE qNoE (c (.mk .d0 .d2 .d5 .d0) [x20]) s fun x22 e23 s =>
lgE qNoE (zK x1) s fun x24 e25 s =>
lgE qNoE (zK x6) s fun x26 e27 s =>
lgE qNoE (zV (vIaS x24 x26 1)) s fun x28 e29 s =>
lgE (qLdE x28 1) (ldA x28 take1) s fun x30 e31 s =>
lgE qNoE (c (.mk .d0 .d2 .d5 .d1) [x18, x22, x30]) s fun x32 e33 s =>
lgE qNoE (c (.mk .d0 .d0 .d7 .d7) [x10, x32]) s fun _ e35 s =>
calmE [(4, 6), (4, 10), (6, 10)] [e11, e13, e15, e17, e19, e21, e23, e25, e27, e29, e31, e33, e35] (fun s =>
K8 [] s) s)
(K4 [] s)) [x3] s)
def F126 : F2 := .fn H126 true
theorem fe126 : feE Tryz.prog ann 126 2 [.j [], .j [4], .j [], .j []] = some F126 := by kernel_rfl
/- internal/stringslite.Index -/
def H174 : F2C := fun c k v s K =>
pop v fun x0 v =>
pop v fun x1 v =>
endE v (
vLens x1 fun x2 =>
jn (fun _ s =>
vIxs x1 (ci 0) fun _ =>
vIxs x1 (ci 1) fun _ =>
vLens x0 fun x6 =>
bSub x6 x2 fun x7 =>
bAdd x7 (ci 1) fun x8 =>
jn (fun _ s =>
K (.int .i64 (-1)) s) fun _ =>
loopE k (fun _ v _ =>
pop v fun x11 _ =>
bLt x11 x8 fun _ =>
none) [(ci 0)] s) fun _ =>
bEqF x2 (ci 0) fun x13 =>
gK x13 false x1 fun x14 =>
gK x13 false x0 fun x15 =>
gV x13 false (bEqF x14 x15) fun x16 =>
vPick x13 ct x16 fun x17 =>
cnd x17 (none)
(bEqF x2 (ci 1) fun x18 =>
cnd x18 (vIxs x1 (ci 0) fun x19 =>
c (.mk .d0 .d2 .d7 .d7) [x0, x19] s fun x20 s =>
K x20 s)
(none)))
def F174 : F2 := .fn H174 true
theorem fe174 : feE Tryz.prog ann 174 2 [.j [], .cl, .cr, .j [], .j [8], .ch, .j [8], .ch, .ch, .ch] = some F174 := by kernel_rfl
/- (*daguerre/pile.row).Push -/
def H313 : F2C := fun _ _ v s K =>
pop v fun x0 v =>
pop v fun x1 v =>
endE v (
lgE qNoE (zK x0) s fun x2 e3 s =>
lgE qNoE (zK x0) s fun x4 e5 s =>
lgE qNoE (zV (vChk x4)) s fun x6 e7 s =>
lgE (qLdE x6 1) (ldA x6 take1) s fun x8 e9 s =>
lgE qNoE (zK x1) s fun x10 e11 s =>
lgE qNoE (zV (vTas 156 false x10)) s fun x12 e13 s =>
lgE qNoE (zBsl [.int .i64 0, .int .i64 0] 2 1 (eCons 0 2 x12 eNil)) s fun x14 e15 s =>
lgE qNoE (appB 2 16 x8 x14) s fun x16 e17 s =>
lgE qNoE (zV (vChk x2)) s fun x18 e19 s =>
lgE qNoE (zSt x18 x16 1) s fun _ e21 s =>
calmE [(3, 5), (3, 6)] [e3, e5, e7, e9, e11, e13, e15, e17, e19, e21] (fun s =>
K (.tup []) s) s)
def F313 : F2 := .fn H313 true
theorem fe313 : feE Tryz.prog ann 313 2 [] = some F313 := by kernel_rfl
/- 306 (*internal/abi.Type).Len: no body -/
/- (daguerre/pile.row).Len -/
def H309 : F2C := fun _ _ v s K =>
pop v fun x0 v =>
endE v (
vLenS x0 fun x1 =>
K x1 s)
def F309 : F2 := .fn H309 true
theorem fe309 : feE Tryz.prog ann 309 1 [] = some F309 := by kernel_rfl
/- container/heap.up -/
def H175 : F2C := fun c k v s K =>
pop v fun x0 v =>
pop v fun x1 v =>
endE v (
jn (fun _ s =>
K (.tup []) s) fun K2 =>
loopE k (fun K3 v s =>
pop v fun x4 _ =>
jn (fun v s =>
pop v fun x6 _ =>
K3 [x6] s) fun K5 =>
bSub x4 (ci 1) fun x7 =>
bQuo x7 (ci 2) fun x8 =>
bEqF x8 x4 fun x9 =>
gK x9 false x0 fun x10 =>
gK x9 false x4 fun x11 =>
gK x9 false x8 fun x12 =>
gH x9 false (zInv [(154, 310, some none)] x10 [x11, x12] c) s fun x13 s =>
gV x9 false (vGen (.un .not (.c x13))) fun x14 =>
vPick x9 ct x14 fun x15 =>
cnd x15 (K2 [] s)
(zInv [(154, 311, some none)] x0 [x8, x4] c s fun _ s =>
K5 [x8] s)) [x1] s)
def F175 : F2 := .fn H175 true
theorem fe175 : feE Tryz.prog ann 175 2 [.j [], .j [1], .j [1], .j []] = some F175 := by kernel_rfl
/- (daguerre/pile.row).Swap -/
def H311 : F2C := fun _ _ v s K =>
pop v fun x0 v =>
pop v fun x1 v =>
pop v fun x2 v =>
endE v (
lgE qNoE (zK x0) s fun x3 e4 s =>
lgE qNoE (zK x1) s fun x5 e6 s =>
lgE qNoE (zK x0) s fun x7 e8 s =>
lgE qNoE (zK x2) s fun x9 e10 s =>
lgE qNoE (zK x0) s fun x11 e12 s =>
lgE qNoE (zK x2) s fun x13 e14 s =>
lgE qNoE (zV (vIaS x11 x13 2)) s fun x15 e16 s =>
lgE (qLdE x15 2) (ldA x15 (takeN 2)) s fun x17 e18 s =>
lgE qNoE (zK x0) s fun x19 e20 s =>
lgE qNoE (zK x1) s fun x21 e22 s =>
lgE qNoE (zV (vIaS x19 x21 2)) s fun x23 e24 s =>
lgE (qLdE x23 2) (ldA x23 (takeN 2)) s fun x25 e26 s =>
lgE qNoE (zV (vIaS x3 x5 2)) s fun x27 e28 s =>
lgE qNoE (zSt x27 x17 2) s fun _ e30 s =>
lgE qNoE (zV (vIaS x7 x9 2)) s fun x31 e32 s =>
lgE qNoE (zSt x31 x25 2) s fun _ e34 s =>
calmE [(7, 11)] [e4, e6, e8, e10, e12, e14, e16, e18, e20, e22, e24, e26, e28, e30, e32, e34] (fun s =>
K (.tup []) s) s)
def F311 : F2 := .fn H311 true
theorem fe311 : feE Tryz.prog ann 311 3 [] = some F311 := by kernel_rfl
/- container/heap.down -/
def H176 : F2C := fun c k v s K =>
pop v fun x0 v =>
pop v fun x1 v =>
pop v fun x2 v =>
endE v (
jn (fun v s =>
pop v fun x4 _ =>
bGt x4 x1 fun x5 =>
K x5 s) fun K3 =>
loopE k (fun K6 v s =>
pop v fun x7 _ =>
jn (fun v s =>
pop v fun x9 _ =>
K6 [x9] s) fun _ =>
bMul (ci 2) x7 fun x10 =>
bAdd x10 (ci 1) fun x11 =>
bGe x11 x2 fun x12 =>
gK x12 false x11 fun x13 =>
gV x12 false (bLt x13 (ci 0)) fun x14 =>
vPick x12 ct x14 fun x15 =>
cnd x15 (K3 [x7] s)
(bAdd x11 (ci 1) fun x16 =>
bLt x16 x2 fun x17 =>
gK x17 true x0 fun x18 =>
gK x17 true x16 fun x19 =>
gK x17 true x11 fun x20 =>
gH x17 true (zInv [(154, 310, some none)] x18 [x19, x20] c) s fun x21 s =>
vPick x17 x21 cf fun x22 =>
cnd x22 (none)
(zInv [(154, 310, some none)] x0 [x11, x7] c s fun x23 s =>
vGen (.un .not (.c x23)) fun x24 =>
cnd x24 (K3 [x7] s)
(none)))) [x1] s)
def F176 : F2 := .fn H176 true
theorem fe176 : feE Tryz.prog ann 176 3 [.j [7], .j [7], .j [7], .j [], .cl, .cr] = some F176 := by kernel_rfl
/- (*daguerre/pile.row).Pop -/
def H312 : F2C := fun _ _ v s K =>
pop v fun x0 v =>
endE v (
vChk x0 fun x1 =>
ldA x1 take1 s fun x2 s =>
vLenS x2 fun x3 =>
bSub x3 (ci 1) fun x4 =>
vIaS x2 x4 2 fun x5 =>
ldA x5 (takeN 2) s fun x6 s =>
boxD false [.int .i64 0, .int .i64 0] s fun x7 s =>
zSt x7 x6 2 s fun _ s =>
vLenS x2 fun x9 =>
bSub x9 (ci 1) fun x10 =>
vSlt x2 eN (eX x10) 2 fun x11 =>
vChk x0 fun x12 =>
zSt x12 x11 1 s fun _ s =>
ldA x7 (takeN 2) s fun x14 s =>
K (.ifc 156 x14) s)
def F312 : F2 := .fn H312 true
theorem fe312 : feE Tryz.prog ann 312 1 [] = some F312 := by kernel_rfl
/- daguerre/daguerrelaw9.Begun -/
def H179 : F2C := fun c _ v s K =>
endE v (
c (.mk .d0 .d3 .d0 .d3) [] s fun x0 s =>
K x0 s)
def F179 : F2 := .pur H179 true mNo
theorem fe179 : feE Tryz.prog ann 179 0 [] = some F179 := by kernel_rfl
def M179 (k : Nat) : F2 := .pur H179 true (Bool.rec mNo (mVal (.bool true)) (Nat.ble 7 k))
/- daguerre/kind.small -/
def H147 : F2C := fun _ _ v s K =>
pop v fun x0 v =>
endE v (
bGe x0 (cu 97) fun x1 =>
gK x1 true x0 fun x2 =>
gV x1 true (bLe x2 (cu 122)) fun x3 =>
vPick x1 x3 cf fun x4 =>
K x4 s)
def F147 : F2 := .fn H147 true
theorem fe147 : feE Tryz.prog ann 147 1 [] = some F147 := by kernel_rfl
/- strings.TrimPrefix -/
def H148 : F2C := fun c _ v s K =>
pop v fun x0 v =>
pop v fun x1 v =>
endE v (
c (.mk .d0 .d2 .d6 .d5) [x0, x1] s fun x2 s =>
K x2 s)
def F148 : F2 := .fn H148 true
theorem fe148 : feE Tryz.prog ann 148 2 [] = some F148 := by kernel_rfl
/- daguerre/class.types -/
def H150 : F2C := fun c _ v s K =>
pop v fun x0 v =>
pop v fun x1 v =>
endE v (
zBox false x1 s fun x2 s =>
vGen (.mkf 182 [] [(.c x2)]) fun x3 =>
c (.mk .d0 .d0 .d6 .d2) [x0, x3] s fun x4 s =>
vGen (.un .not (.c x4)) fun x5 =>
K x5 s)
def F150 : F2 := .fn H150 true
theorem fe150 : feE Tryz.prog ann 150 2 [] = some F150 := by kernel_rfl
/- daguerre/kind.Ret -/
def H151 : F2C := fun c _ v s K =>
pop v fun x0 v =>
endE v (
bEqF x0 (.str [86]) fun x1 =>
gK x1 false x0 fun x2 =>
gH x1 false (c (.mk .d0 .d1 .d3 .d6) [x2]) s fun x3 s =>
vPick x1 ct x3 fun x4 =>
K x4 s)
def F151 : F2 := .fn H151 true
theorem fe151 : feE Tryz.prog ann 151 1 [] = some F151 := by kernel_rfl
/- daguerre/class.empty -/
def H152 : F2C := fun _ _ v s K =>
pop v fun x0 v =>
endE v (
zTbox x0 s fun x1 s =>
fa1 x1 3 fun x2 =>
ldA x2 take1 s fun x3 s =>
vGen (.un .not (.c x3)) fun x4 =>
gV x4 true (fa1 x1 0) fun x5 =>
gH x4 true (ldA x5 take1) s fun x6 s =>
gV x4 true (bEqT x6 (.str [36, 105, 110, 105, 116])) fun x7 =>
vPick x4 x7 cf fun x8 =>
gV x8 true (fa1 x1 5) fun x9 =>
gH x8 true (ldA x9 take1) s fun x10 s =>
gV x8 true (bEqF x10 (ci 0)) fun x11 =>
vPick x8 x11 cf fun x12 =>
gV x12 true (fa1 x1 6) fun x13 =>
gH x12 true (ldA x13 take1) s fun x14 s =>
gV x12 true (bEqF x14 (ci 0)) fun x15 =>
vPick x12 x15 cf fun x16 =>
gV x16 true (fa1 x1 7) fun x17 =>
gH x16 true (ldA x17 take1) s fun x18 s =>
gV x16 true (vLenS x18) fun x19 =>
gV x16 true (fa1 x1 8) fun x20 =>
gH x16 true (ldA x20 take1) s fun x21 s =>
gV x16 true (vLenS x21) fun x22 =>
gV x16 true (bAdd x19 x22) fun x23 =>
gV x16 true (fa1 x1 9) fun x24 =>
gH x16 true (ldA x24 take1) s fun x25 s =>
gV x16 true (vLenS x25) fun x26 =>
gV x16 true (bAdd x23 x26) fun x27 =>
gV x16 true (bEqF x27 (ci 0)) fun x28 =>
vPick x16 x28 cf fun x29 =>
K x29 s)
def F152 : F2 := .fn H152 true
theorem fe152 : feE Tryz.prog ann 152 1 [] = some F152 := by kernel_rfl
/- daguerre/class.args -/
def H154 : F2C := fun _ _ v s K =>
pop v fun x0 v =>
endE v (
zTbox x0 s fun x1 s =>
fa1 x1 3 fun x2 =>
ldA x2 take1 s fun x3 s =>
cnd x3 (fa1 x1 1 fun x4 =>
ldA x4 take1 s fun x5 s =>
vLenS x5 fun x6 =>
K x6 s)
(fa1 x1 1 fun x7 =>
ldA x7 take1 s fun x8 s =>
vLenS x8 fun x9 =>
bAdd x9 (ci 1) fun x10 =>
K x10 s))
def F154 : F2 := .fn H154 true
theorem fe154 : feE Tryz.prog ann 154 1 [.j []] = some F154 := by kernel_rfl
/- daguerre/class.between -/
def H153 : F2C := fun _ _ v s K =>
pop v fun x0 v =>
pop v fun x1 v =>
pop v fun x2 v =>
endE v (
bGe x0 x1 fun x3 =>
gK x3 true x0 fun x4 =>
gK x3 true x2 fun x5 =>
gV x3 true (bLe x4 x5) fun x6 =>
vPick x3 x6 cf fun x7 =>
K x7 s)
def F153 : F2 := .fn H153 true
theorem fe153 : feE Tryz.prog ann 153 3 [] = some F153 := by kernel_rfl
/- daguerre/class.instructions -/
def H155 : F2C := fun c _ v s K =>
pop v fun x0 v =>
endE v (
zTbox x0 s fun x1 s =>
fa1 x1 7 fun x2 =>
ldA x2 take1 s fun x3 s =>
vLenS x3 fun x4 =>
boxD false [.int .i64 0] s fun x5 s =>
zSt x5 x4 1 s fun _ s =>
ldA x5 take1 s fun x7 s =>
c (.mk .d0 .d2 .d3 .d1) [x7, (ci 1), (ci 100)] s fun x8 s =>
vGen (.un .not (.c x8)) fun x9 =>
gV x9 false (fa1 x1 7) fun x10 =>
gH x9 false (ldA x10 take1) s fun x11 s =>
gH x9 false (ldA x5 take1) s fun x12 s =>
gV x9 false (bSub x12 (ci 1)) fun x13 =>
gV x9 false (vIaS x11 x13 4) fun x14 =>
gV x9 false (fa1 x14 0) fun x15 =>
gH x9 false (ldA x15 take1) s fun x16 s =>
gH x9 false (c (.mk .d0 .d1 .d1 .d0) [x16]) s fun x17 s =>
gV x9 false (vGen (.un .not (.c x17))) fun x18 =>
vPick x9 ct x18 fun x19 =>
cnd x19 (none)
(fa1 x1 7 fun x20 =>
ldA x20 take1 s fun x21 s =>
vGen (.mkf 183 [] [(.c x5)]) fun x22 =>
c (.mk .d0 .d1 .d5 .d6) [x21, x22] s fun x23 s =>
vGen (.un .not (.c x23)) fun x24 =>
K x24 s))
def F155 : F2 := .fn H155 true
theorem fe155 : feE Tryz.prog ann 155 1 [.cl] = some F155 := by kernel_rfl
/- daguerre/class.maps -/
def H156 : F2C := fun _ k v s K =>
pop v fun x0 v =>
endE v (
zTbox x0 s fun x1 s =>
fa1 x1 8 fun x2 =>
ldA x2 take1 s fun x3 s =>
vLenS x3 fun x4 =>
jn (fun _ s =>
fa1 x1 8 fun x6 =>
ldA x6 take1 s fun x7 s =>
vLenS x7 fun x8 =>
bLe x8 (ci 100) fun x9 =>
K x9 s) fun K5 =>
loopE k (fun _ v s =>
pop v fun x11 _ =>
bLt x11 x4 fun x12 =>
cnd x12 (none)
(K5 [] s)) [(ci 0)] s)
def F156 : F2 := .fn H156 true
theorem fe156 : feE Tryz.prog ann 156 1 [.j [], .j [8], .cl, .j [], .ch, .ch] = some F156 := by kernel_rfl
/- daguerre/class.traps -/
def H157 : F2C := fun c _ v s K =>
pop v fun x0 v =>
endE v (
zBox false x0 s fun x1 s =>
fa1 x1 9 fun x2 =>
ldA x2 take1 s fun x3 s =>
vGen (.mkf 186 [] [(.c x1)]) fun x4 =>
c (.mk .d0 .d1 .d5 .d4) [x3, x4] s fun x5 s =>
vGen (.un .not (.c x5)) fun x6 =>
gV x6 true (fa1 x1 9) fun x7 =>
gH x6 true (ldA x7 take1) s fun x8 s =>
gV x6 true (vLenS x8) fun x9 =>
gV x6 true (bLe x9 (ci 6)) fun x10 =>
vPick x6 x10 cf fun x11 =>
K x11 s)
def F157 : F2 := .fn H157 true
theorem fe157 : feE Tryz.prog ann 157 1 [] = some F157 := by kernel_rfl
/- daguerre/kind.digit -/
def H180 : F2C := fun _ _ v s K =>
pop v fun x0 v =>
endE v (
bGe x0 (cu 48) fun x1 =>
gK x1 true x0 fun x2 =>
gV x1 true (bLe x2 (cu 57)) fun x3 =>
vPick x1 x3 cf fun x4 =>
K x4 s)
def F180 : F2 := .fn H180 true
theorem fe180 : feE Tryz.prog ann 180 1 [] = some F180 := by kernel_rfl
/- slices.IndexFunc[[]daguerre/api.Trap,daguerre/api.Trap] -/
def H160 : F2C := fun _ k v s K =>
pop v fun x0 v =>
pop v fun _ v =>
endE v (
vLenS x0 fun x2 =>
jn (fun _ s =>
K (.int .i64 (-1)) s) fun K3 =>
loopE k (fun _ v s =>
pop v fun x5 _ =>
bLt x5 x2 fun x6 =>
cnd x6 (none)
(K3 [] s)) [(ci 0)] s)
def F160 : F2 := .fn H160 true
theorem fe160 : feE Tryz.prog ann 160 2 [.j [], .j [8], .cl, .j [], .ch] = some F160 := by kernel_rfl
/- daguerre/closed.named -/
def H112 : F2C := fun c _ v s K =>
pop v fun x0 v =>
pop v fun x1 v =>
endE v (
zTbox x1 s fun x2 s =>
fa1 x2 2 fun x3 =>
ldA x3 take1 s fun x4 s =>
c (.mk .d0 .d0 .d4 .d3) [x0, x4] s fun x5 s =>
vExt x5 0 fun x6 =>
vExt x5 1 fun _ =>
boxD false [.str [], .str [], .bool false, .nil .sl, .nil .sl, .nil .sl] s fun x8 s =>
zSt x8 x6 6 s fun _ s =>
fa1 x2 0 fun x10 =>
ldA x10 take1 s fun x11 s =>
jn (fun v s =>
pop v fun x13 _ =>
K x13 s) fun K12 =>
bEqF x11 (ci 38) fun x14 =>
cnd x14 (none)
(bEqF x11 (ci 39) fun x15 =>
cnd x15 (none)
(bEqF x11 (ci 40) fun x16 =>
cnd x16 (none)
(bEqF x11 (ci 41) fun x17 =>
jn (fun v s =>
pop v fun x19 _ =>
K12 [x19] s) fun K18 =>
cnd x17 (fa1 x2 2 fun x20 =>
ldA x20 take1 s fun x21 s =>
fa1 x2 3 fun x22 =>
ldA x22 take1 s fun x23 s =>
c (.mk .d0 .d0 .d4 .d6) [x0, x21, x23] s fun x24 s =>
vExt x24 0 fun _ =>
vExt x24 1 fun _ =>
vExt x24 2 fun x27 =>
K18 [x27] s)
(bEqF x11 (ci 42) fun x28 =>
jn (fun v s =>
pop v fun x30 _ =>
jn (fun v s =>
pop v fun _ v =>
pop v fun x33 _ =>
K18 [x33] s) fun K31 =>
cnd x30 (fa1 x2 2 fun x34 =>
ldA x34 take1 s fun x35 s =>
fa1 x2 3 fun x36 =>
ldA x36 take1 s fun x37 s =>
c (.mk .d0 .d0 .d3 .d3) [x0, x35, x37] s fun x38 s =>
vExt x38 0 fun _ =>
vExt x38 1 fun _ =>
vExt x38 2 fun x41 =>
gV x41 true (fa1 x8 2) fun x42 =>
gH x41 true (ldA x42 take1) s fun x43 s =>
gV x41 true (vGen (.un .not (.c x43))) fun x44 =>
vPick x41 x44 cf fun x45 =>
K31 [x45, x45] s)
(bEqF x11 (ci 45) fun x46 =>
cnd x46 (none)
(K31 [ct, ct] s))) fun K29 =>
cnd x28 (K29 [x28] s)
(bEqF x11 (ci 43) fun x47 =>
cnd x47 (none)
(bEqF x11 (ci 44) fun x48 =>
K29 [x48] s)))))))
def F112 : F2 := .fn H112 true
theorem fe112 : feE Tryz.prog ann 112 2 [.j [7], .cl, .cl, .cl, .j [7], .j [32], .cl, .j [7, 7], .cl] = some F112 := by kernel_rfl
/- slices.IndexFunc[[]daguerre/api.Ins,daguerre/api.Ins] -/
def H161 : F2C := fun c k v s K =>
pop v fun x0 v =>
pop v fun x1 v =>
endE v (
vLenS x0 fun x2 =>
jn (fun _ s =>
K (.int .i64 (-1)) s) fun K3 =>
loopE k (fun K4 v s =>
pop v fun x5 _ =>
bLt x5 x2 fun x6 =>
cnd x6 (jn (fun _ s =>
bAdd x5 (ci 1) fun x8 =>
K4 [x8] s) fun K7 =>
vIaS x0 x5 4 fun x9 =>
ldA x9 (takeN 4) s fun x10 s =>
zCallV c x1 [x10] s fun x11 s =>
cnd x11 (none)
(K7 [] s))
(K3 [] s)) [(ci 0)] s)
def F161 : F2 := .fn H161 true
theorem fe161 : feE Tryz.prog ann 161 2 [.j [], .j [8], .j [], .j [], .cl] = some F161 := by kernel_rfl
/- slices.Equal[[]string,string] -/
def H162 : F2C := fun _ k v s K =>
pop v fun x0 v =>
pop v fun x1 v =>
endE v (
vLenS x0 fun x2 =>
vLenS x1 fun x3 =>
bEqT x2 x3 fun x4 =>
cnd x4 (none)
(vLenS x0 fun x5 =>
jn (fun _ s =>
K ct s) fun K6 =>
loopE k (fun _ v s =>
pop v fun x8 _ =>
bLt x8 x5 fun x9 =>
cnd x9 (none)
(K6 [] s)) [(ci 0)] s))
def F162 : F2 := .fn H162 true
theorem fe162 : feE Tryz.prog ann 162 2 [.cl, .j [], .j [13], .cl, .j [], .ch] = some F162 := by kernel_rfl
/- math/bits.Len -/
def H188 : F2C := fun c _ v s K =>
pop v fun x0 v =>
endE v (
cnd cf (none)
(c (.mk .d0 .d3 .d2 .d3) [x0] s fun x1 s =>
K x1 s))
def F188 : F2 := .fn H188 true
theorem fe188 : feE Tryz.prog ann 188 1 [.cl] = some F188 := by kernel_rfl
/- slices.pdqsortOrdered[string] -/
def H187 : F2C := fun c k v s K =>
pop v fun x0 v =>
pop v fun x1 v =>
pop v fun x2 v =>
pop v fun _ v =>
endE v (
jn (fun _ s =>
K (.tup []) s) fun _ =>
loopE k (fun K5 _ s =>
jn (fun _ s =>
K5 [] s) fun _ =>
bSub x2 x1 fun x7 =>
bLe x7 (ci 12) fun x8 =>
cnd x8 (c (.mk .d0 .d3 .d1 .d1) [x0, x1, x2] s fun _ s =>
K (.tup []) s)
(none)) [] s)
def F187 : F2 := .fn H187 true
theorem fe187 : feE Tryz.prog ann 187 4 [.j [], .j [], .j [], .cr, .ch, .ch, .ch, .ch, .ch, .ch] = some F187 := by kernel_rfl
/- daguerre/link.Chosen -/
def H164 : F2C := fun c _ v s K =>
pop v fun x0 v =>
pop v fun x1 v =>
pop v fun x2 v =>
endE v (
c (.mk .d0 .d0 .d7 .d3) [x0, x1] s fun x3 s =>
c (.mk .d0 .d0 .d7 .d2) [x0, x3, x2, (.fn 189 [] [])] s fun x4 s =>
vExt x4 0 fun x5 =>
vExt x4 1 fun x6 =>
vExt x4 2 fun x7 =>
boxD false [.str [], .nil .sl, .str [], .bool false, .bool false, .int .i64 0, .int .i64 0, .nil .sl, .nil .sl, .nil .sl] s fun x8 s =>
zSt x8 x6 10 s fun _ s =>
K (.tup [x5, x7]) s)
def F164 : F2 := .fn H164 true
theorem fe164 : feE Tryz.prog ann 164 3 [] = some F164 := by kernel_rfl
/- daguerre/closed.has$1 -/
def H165 : F2C := fun c _ v s K =>
pop v fun x0 v =>
pop v fun x1 v =>
endE v (
zTbox x0 s fun x2 s =>
fa1 x2 0 fun x3 =>
ldA x3 take1 s fun x4 s =>
fa1 x1 0 fun x5 =>
ldA x5 take1 s fun x6 s =>
bEqF x4 x6 fun x7 =>
gH x7 true (ldA x1 (takeN 10)) s fun x8 s =>
gH x7 true (ldA x2 (takeN 10)) s fun x9 s =>
gH x7 true (c (.mk .d0 .d1 .d6 .d2) [x8, x9]) s fun x10 s =>
vPick x7 x10 cf fun x11 =>
K x11 s)
def F165 : F2 := .fn H165 true
theorem fe165 : feE Tryz.prog ann 165 2 [] = some F165 := by kernel_rfl
/- daguerre/types.Fits -/
def H169 : F2C := fun c _ v s K =>
pop v fun x0 v =>
pop v fun x1 v =>
pop v fun x2 v =>
endE v (
jn (fun _ s =>
c (.mk .d0 .d0 .d4 .d3) [x0, x2] s fun x4 s =>
vExt x4 0 fun x5 =>
vExt x4 1 fun _ =>
boxD false [.str [], .str [], .bool false, .nil .sl, .nil .sl, .nil .sl] s fun x7 s =>
zSt x7 x5 6 s fun _ s =>
fa1 x7 2 fun x9 =>
ldA x9 take1 s fun x10 s =>
gK x10 false x0 fun x11 =>
gK x10 false x1 fun x12 =>
gK x10 false x2 fun x13 =>
gH x10 false (c (.mk .d0 .d1 .d0 .d1) [x11, x12, x13]) s fun x14 s =>
vPick x10 ct x14 fun x15 =>
K x15 s) fun K3 =>
c (.mk .d0 .d0 .d7 .d6) [x0, x1] s fun x16 s =>
vGen (.un .not (.c x16)) fun x17 =>
gK x17 false x0 fun x18 =>
gK x17 false x2 fun x19 =>
gH x17 false (c (.mk .d0 .d0 .d7 .d6) [x18, x19]) s fun x20 s =>
gV x17 false (vGen (.un .not (.c x20))) fun x21 =>
vPick x17 ct x21 fun x22 =>
cnd x22 (none)
(bEqF x2 (.str [84]) fun x23 =>
gK x23 false x1 fun x24 =>
gK x23 false x2 fun x25 =>
gV x23 false (bEqF x24 x25) fun x26 =>
vPick x23 ct x26 fun x27 =>
cnd x27 (K ct s)
(bEqF x1 (.str [78]) fun x28 =>
cnd x28 (c (.mk .d0 .d2 .d7 .d6) [x0, x2] s fun x29 s =>
K x29 s)
(c (.mk .d0 .d2 .d7 .d6) [x0, x1] s fun x30 s =>
vGen (.un .not (.c x30)) fun x31 =>
gK x31 false x0 fun x32 =>
gK x31 false x2 fun x33 =>
gH x31 false (c (.mk .d0 .d2 .d7 .d6) [x32, x33]) s fun x34 s =>
gV x31 false (vGen (.un .not (.c x34))) fun x35 =>
vPick x31 ct x35 fun x36 =>
cnd x36 (K cf s)
(K3 [] s)))))
def F169 : F2 := .fn H169 true
theorem fe169 : feE Tryz.prog ann 169 3 [.j [], .cl, .j [], .j [], .j []] = some F169 := by kernel_rfl
/- internal/stringslite.IndexByte -/
def H191 : F2C := fun c _ v s K =>
pop v fun x0 v =>
pop v fun x1 v =>
endE v (
c (.mk .d0 .d3 .d2 .d4) [x0, x1] s fun x2 s =>
K x2 s)
def F191 : F2 := .fn H191 true
theorem fe191 : feE Tryz.prog ann 191 2 [] = some F191 := by kernel_rfl
/- (daguerre/pile.row).Less -/
def H310 : F2C := fun _ _ v s K =>
pop v fun x0 v =>
pop v fun x1 v =>
pop v fun x2 v =>
endE v (
lgE qNoE (zK x0) s fun x3 e4 s =>
lgE qNoE (zK x1) s fun x5 e6 s =>
lgE qNoE (zV (vIaS x3 x5 2)) s fun x7 e8 s =>
lgE qNoE (zV (fa1 x7 0)) s fun x9 e10 s =>
lgE (qLdE x9 1) (ldA x9 take1) s fun x11 e12 s =>
lgE qNoE (zK x0) s fun x13 e14 s =>
lgE qNoE (zK x2) s fun x15 e16 s =>
lgE qNoE (zV (vIaS x13 x15 2)) s fun x17 e18 s =>
lgE qNoE (zV (fa1 x17 0)) s fun x19 e20 s =>
lgE (qLdE x19 1) (ldA x19 take1) s fun x21 e22 s =>
lgE qNoE (zV (bLt x11 x21)) s fun x23 e24 s =>
lgE qNoE (zK x23) s fun x25 e26 s =>
lgE (qGE x25 false qNoE) (zG x25 false (zK x0)) s fun x27 e28 s =>
lgE (qGE x25 false qNoE) (zG x25 false (zK x1)) s fun x29 e30 s =>
lgE (qGE x25 false qNoE) (zG x25 false (zV (vIaS x27 x29 2))) s fun x31 e32 s =>
lgE (qGE x25 false qNoE) (zG x25 false (zV (fa1 x31 0))) s fun x33 e34 s =>
lgE (qGE x25 false (qLdE x33 1)) (zG x25 false (ldA x33 take1)) s fun x35 e36 s =>
lgE (qGE x25 false qNoE) (zG x25 false (zK x0)) s fun x37 e38 s =>
lgE (qGE x25 false qNoE) (zG x25 false (zK x2)) s fun x39 e40 s =>
lgE (qGE x25 false qNoE) (zG x25 false (zV (vIaS x37 x39 2))) s fun x41 e42 s =>
lgE (qGE x25 false qNoE) (zG x25 false (zV (fa1 x41 0))) s fun x43 e44 s =>
lgE (qGE x25 false (qLdE x43 1)) (zG x25 false (ldA x43 take1)) s fun x45 e46 s =>
lgE (qGE x25 false qNoE) (zG x25 false (zV (bEqF x35 x45))) s fun x47 e48 s =>
lgE (qGE x25 false qNoE) (zG x25 false (zK x47)) s fun x49 e50 s =>
lgE (qGE x49 true qNoE) (zG x49 true (zK x0)) s fun x51 e52 s =>
lgE (qGE x49 true qNoE) (zG x49 true (zK x1)) s fun x53 e54 s =>
lgE (qGE x49 true qNoE) (zG x49 true (zV (vIaS x51 x53 2))) s fun x55 e56 s =>
lgE (qGE x49 true qNoE) (zG x49 true (zV (fa1 x55 1))) s fun x57 e58 s =>
lgE (qGE x49 true (qLdE x57 1)) (zG x49 true (ldA x57 take1)) s fun x59 e60 s =>
lgE (qGE x49 true qNoE) (zG x49 true (zK x0)) s fun x61 e62 s =>
lgE (qGE x49 true qNoE) (zG x49 true (zK x2)) s fun x63 e64 s =>
lgE (qGE x49 true qNoE) (zG x49 true (zV (vIaS x61 x63 2))) s fun x65 e66 s =>
lgE (qGE x49 true qNoE) (zG x49 true (zV (fa1 x65 1))) s fun x67 e68 s =>
lgE (qGE x49 true (qLdE x67 1)) (zG x49 true (ldA x67 take1)) s fun x69 e70 s =>
lgE (qGE x49 true qNoE) (zG x49 true (zV (bLt x59 x69))) s fun x71 e72 s =>
lgE (qGE x25 false qNoE) (zG x25 false (zV (vPick x49 x71 cf))) s fun x73 e74 s =>
lgE qNoE (zV (vPick x25 ct x73)) s fun x75 e76 s =>
lgE qNoE (zK x75) s fun x77 e78 s =>
calmE [(4, 9), (16, 21), (28, 33)] [e4, e6, e8, e10, e12, e14, e16, e18, e20, e22, e24, e26, e28, e30, e32, e34, e36, e38, e40, e42, e44, e46, e48, e50, e52, e54, e56, e58, e60, e62, e64, e66, e68, e70, e72, e74, e76, e78] (fun s =>
K x77 s) s)
def F310 : F2 := .fn H310 true
theorem fe310 : feE Tryz.prog ann 310 3 [] = some F310 := by kernel_rfl
/- daguerre/daguerrelaw9.begun -/
def H195 : F2C := fun c _ v s K =>
endE v (
c (.mk .d0 .d0 .d1 .d7) [] s fun x0 s =>
c (.mk .d0 .d0 .d3 .d1) [x0] s fun x1 s =>
vExt x1 0 fun x2 =>
vExt x1 1 fun x3 =>
bEqT x3 (ci 0) fun x4 =>
cnd x4 (none)
(zHbs [.str []] 1 1 (eCons 0 1 (.str [84]) eNil) s fun x5 s =>
zHbs [.str []] 1 1 (eCons 0 1 (.str [65, 97]) eNil) s fun x6 s =>
vBld [.int .i64 0, .nil .sl, .nil .sl] (eCons 1 1 x5 (eCons 2 1 x6 eNil)) fun x7 =>
boxD false [.int .i64 0, .nil .sl, .nil .sl] s fun x8 s =>
zSt x8 x7 3 s fun _ s =>
c (.mk .d0 .d3 .d2 .d6) [] s fun x10 s =>
gK x10 true x2 fun x11 =>
gH x10 true (c (.mk .d0 .d0 .d7 .d6) [x11, (.str [78])]) s fun x12 s =>
vPick x10 x12 cf fun x13 =>
gK x13 true x2 fun x14 =>
gH x13 true (c (.mk .d0 .d0 .d7 .d6) [x14, (.str [90, 122])]) s fun x15 s =>
gV x13 true (vGen (.un .not (.c x15))) fun x16 =>
vPick x13 x16 cf fun x17 =>
gK x17 true x2 fun x18 =>
gH x17 true (c (.mk .d0 .d2 .d5 .d1) [x18, (.str [78]), (.str [65, 97])]) s fun x19 s =>
vPick x17 x19 cf fun x20 =>
gK x20 true x2 fun x21 =>
gH x20 true (c (.mk .d0 .d2 .d5 .d1) [x21, (.str [65, 97]), (.str [78])]) s fun x22 s =>
gV x20 true (vGen (.un .not (.c x22))) fun x23 =>
vPick x20 x23 cf fun x24 =>
gK x24 true x2 fun x25 =>
gH x24 true (c (.mk .d0 .d2 .d5 .d1) [x25, (.str [66, 98]), (.str [65, 97])]) s fun x26 s =>
vPick x24 x26 cf fun x27 =>
gK x27 true x2 fun x28 =>
gH x27 true (c (.mk .d0 .d2 .d5 .d1) [x28, (.str [79, 98, 106, 101, 99, 116]), (.str [70, 97, 99, 101])]) s fun x29 s =>
vPick x27 x29 cf fun x30 =>
gK x30 true x2 fun x31 =>
gH x30 true (c (.mk .d0 .d2 .d5 .d1) [x31, (.str [73]), (.str [84])]) s fun x32 s =>
vPick x30 x32 cf fun x33 =>
gK x33 true x2 fun x34 =>
gH x33 true (c (.mk .d0 .d2 .d5 .d1) [x34, (.str [84]), (.str [73])]) s fun x35 s =>
gV x33 true (vGen (.un .not (.c x35))) fun x36 =>
vPick x33 x36 cf fun x37 =>
gK x37 true x2 fun x38 =>
gH x37 true (c (.mk .d0 .d2 .d5 .d5) [x38, (.nil .sl), (.nil .sl)]) s fun x39 s =>
vPick x37 x39 cf fun x40 =>
gK x40 true x2 fun x41 =>
gH x40 true (ldA x8 (takeN 3)) s fun x42 s =>
gH x40 true (zBsl [.str []] 1 1 (eCons 0 1 (.str [73]) eNil)) s fun x43 s =>
gH x40 true (zBsl [.str []] 1 1 (eCons 0 1 (.str [66, 98]) eNil)) s fun x44 s =>
gH x40 true (c (.mk .d0 .d2 .d0 .d7) [x41, x42, x43, x44]) s fun x45 s =>
vPick x40 x45 cf fun x46 =>
gK x46 true x2 fun x47 =>
gH x46 true (ldA x8 (takeN 3)) s fun x48 s =>
gH x46 true (zBsl [.str []] 1 1 (eCons 0 1 (.str [66, 98]) eNil)) s fun x49 s =>
gH x46 true (c (.mk .d0 .d2 .d0 .d7) [x47, x48, (.nil .sl), x49]) s fun x50 s =>
gV x46 true (vGen (.un .not (.c x50))) fun x51 =>
vPick x46 x51 cf fun x52 =>
K x52 s))
def F195 : F2 := .pur H195 true mNo
theorem fe195 : feE Tryz.prog ann 195 0 [.cl] = some F195 := by kernel_rfl
/- internal/stringslite.TrimPrefix -/
def H181 : F2C := fun c _ v s K =>
pop v fun x0 v =>
pop v fun x1 v =>
endE v (
c (.mk .d0 .d3 .d0 .d4) [x0, x1] s fun x2 s =>
cnd x2 (vLens x1 fun x3 =>
vGen (.sls (.c x0) (some (.c x3)) none) fun x4 =>
K x4 s)
(K x0 s))
def F181 : F2 := .fn H181 true
theorem fe181 : feE Tryz.prog ann 181 2 [.j []] = some F181 := by kernel_rfl
/- daguerre/class.instructions$1 -/
def H183 : F2C := fun c _ v s K =>
pop v fun x0 v =>
pop v fun x1 v =>
endE v (
zTbox x0 s fun x2 s =>
ldA x2 (takeN 4) s fun x3 s =>
c (.mk .d0 .d2 .d7 .d0) [x3] s fun x4 s =>
vGen (.un .not (.c x4)) fun x5 =>
gV x5 false (fa1 x2 0) fun x6 =>
gH x5 false (ldA x6 take1) s fun x7 s =>
gH x5 false (c (.mk .d0 .d1 .d0 .d6) [x7]) s fun x8 s =>
gK x5 false x8 fun x9 =>
gV x9 true (fa1 x2 1) fun x10 =>
gH x9 true (ldA x10 take1) s fun x11 s =>
gH x9 true (ldA x1 take1) s fun x12 s =>
gV x9 true (bGe x11 x12) fun x13 =>
gV x5 false (vPick x9 x13 cf) fun x14 =>
vPick x5 ct x14 fun x15 =>
K x15 s)
def F183 : F2 := .fn H183 true
theorem fe183 : feE Tryz.prog ann 183 2 [] = some F183 := by kernel_rfl
/- math/bits.Len64 -/
def H211 : F2C := fun _ _ v s K =>
pop v fun x0 v =>
endE v (
bGe x0 (.int .u64 4294967296) fun x1 =>
cnd x1 (none)
(bGe x0 (.int .u64 65536) fun x2 =>
cnd x2 (none)
(bGe x0 (.int .u64 256) fun x3 =>
cnd x3 (none)
(vCv .u8 x0 fun x4 =>
vIxs (.str [0, 1, 2, 2, 3, 3, 3, 3, 4, 4, 4, 4, 4, 4, 4, 4, 5, 5, 5, 5, 5, 5, 5, 5, 5, 5, 5, 5, 5, 5, 5, 5, 6, 6, 6, 6, 6, 6, 6, 6, 6, 6, 6, 6, 6, 6, 6, 6, 6, 6, 6, 6, 6, 6, 6, 6, 6, 6, 6, 6, 6, 6, 6, 6, 7, 7, 7, 7, 7, 7, 7, 7, 7, 7, 7, 7, 7, 7, 7, 7, 7, 7, 7, 7, 7, 7, 7, 7, 7, 7, 7, 7, 7, 7, 7, 7, 7, 7, 7, 7, 7, 7, 7, 7, 7, 7, 7, 7, 7, 7, 7, 7, 7, 7, 7, 7, 7, 7, 7, 7, 7, 7, 7, 7, 7, 7, 7, 7, 8, 8, 8, 8, 8, 8, 8, 8, 8, 8, 8, 8, 8, 8, 8, 8, 8, 8, 8, 8, 8, 8, 8, 8, 8, 8, 8, 8, 8, 8, 8, 8, 8, 8, 8, 8, 8, 8, 8, 8, 8, 8, 8, 8, 8, 8, 8, 8, 8, 8, 8, 8, 8, 8, 8, 8, 8, 8, 8, 8, 8, 8, 8, 8, 8, 8, 8, 8, 8, 8, 8, 8, 8, 8, 8, 8, 8, 8, 8, 8, 8, 8, 8, 8, 8, 8, 8, 8, 8, 8, 8, 8, 8, 8, 8, 8, 8, 8, 8, 8, 8, 8, 8, 8, 8, 8, 8, 8, 8, 8, 8, 8, 8, 8, 8, 8, 8, 8, 8, 8, 8, 8, 8, 8, 8, 8, 8, 8]) x4 fun x5 =>
vCv .i64 x5 fun x6 =>
bAdd (ci 0) x6 fun x7 =>
K x7 s))))
def F211 : F2 := .fn H211 true
theorem fe211 : feE Tryz.prog ann 211 1 [.cl, .cl, .cl] = some F211 := by kernel_rfl
/- slices.insertionSortOrdered[string] -/
def H201 : F2C := fun _ k v s K =>
pop v fun _ v =>
pop v fun x1 v =>
pop v fun x2 v =>
endE v (
bAdd x1 (ci 1) fun x3 =>
jn (fun _ s =>
K (.tup []) s) fun K4 =>
loopE k (fun _ v s =>
pop v fun x6 _ =>
bLt x6 x2 fun x7 =>
cnd x7 (none)
(K4 [] s)) [x3] s)
def F201 : F2 := .fn H201 true
theorem fe201 : feE Tryz.prog ann 201 3 [.j [], .j [6], .cl, .j [], .j [], .j [7], .ch, .j []] = some F201 := by kernel_rfl
/- daguerre/link.Chosen$1 -/
def H189 : F2C := fun _ _ v s K =>
pop v fun x0 v =>
endE v (
zTbox x0 s fun x1 s =>
fa1 x1 3 fun x2 =>
ldA x2 take1 s fun x3 s =>
vGen (.un .not (.c x3)) fun x4 =>
gV x4 true (fa1 x1 4) fun x5 =>
gH x4 true (ldA x5 take1) s fun x6 s =>
gV x4 true (vGen (.un .not (.c x6))) fun x7 =>
vPick x4 x7 cf fun x8 =>
K x8 s)
def F189 : F2 := .fn H189 true
theorem fe189 : feE Tryz.prog ann 189 1 [] = some F189 := by kernel_rfl
/- daguerre/types.ref -/
def H190 : F2C := fun c _ v s K =>
pop v fun x0 v =>
pop v fun x1 v =>
endE v (
bEqT x1 (.str [73]) fun x2 =>
gK x2 true x0 fun x3 =>
gK x2 true x1 fun x4 =>
gK x2 true x1 fun x5 =>
gH x2 true (c (.mk .d0 .d1 .d0 .d1) [x3, x4, x5]) s fun x6 s =>
vPick x2 x6 cf fun x7 =>
K x7 s)
def F190 : F2 := .fn H190 true
theorem fe190 : feE Tryz.prog ann 190 2 [] = some F190 := by kernel_rfl
/- internal/bytealg.IndexByteString -/
def H212 : F2 := .ext .idx true
theorem ok212 : F2ok Tryz.prog ann 212 H212 := ⟨rfl, ⟨Tryz.f212, Tryz.func212, by kernel_rfl⟩, rfl, rfl⟩
/- daguerre/daguerrelaw8.Begun -/
def H214 : F2C := fun c _ v s K =>
endE v (
c (.mk .d0 .d3 .d4 .d0) [] s fun x0 s =>
K x0 s)
def F214 : F2 := .pur H214 true mNo
theorem fe214 : feE Tryz.prog ann 214 0 [] = some F214 := by kernel_rfl
def M214 (k : Nat) : F2 := .pur H214 true (Bool.rec mNo (mVal (.bool true)) (Nat.ble 6 k))
/- daguerre/types.All -/
def H173 : F2C := fun c k v s K =>
pop v fun x0 v =>
pop v fun x1 v =>
pop v fun x2 v =>
endE v (
vLenS x1 fun x3 =>
vLenS x2 fun x4 =>
bEqT x3 x4 fun x5 =>
cnd x5 (K cf s)
(vLenS x1 fun x6 =>
jn (fun _ s =>
K ct s) fun K7 =>
loopE k (fun K8 v s =>
pop v fun x9 _ =>
bLt x9 x6 fun x10 =>
cnd x10 (jn (fun _ s =>
bAdd x9 (ci 1) fun x12 =>
K8 [x12] s) fun K11 =>
lgE qNoE (zK x0) s fun x13 e14 s =>
lgE qNoE (zK x1) s fun x15 e16 s =>
lgE qNoE (zK x9) s fun x17 e18 s =>
lgE qNoE (zV (vIaS x15 x17 1)) s fun x19 e20 s =>
lgE (qLdE x19 1) (ldA x19 take1) s fun x21 e22 s =>
lgE qNoE (zK x2) s fun x23 e24 s =>
lgE qNoE (zK x9) s fun x25 e26 s =>
lgE qNoE (zV (vIaS x23 x25 1)) s fun x27 e28 s =>
lgE (qLdE x27 1) (ldA x27 take1) s fun x29 e30 s =>
lgE qNoE (c (.mk .d0 .d2 .d5 .d1) [x13, x21, x29]) s fun x31 e32 s =>
lgE qNoE (zV (vGen (.un .not (.c x31)))) s fun x33 e34 s =>
calmE [(4, 8)] [e14, e16, e18, e20, e22, e24, e26, e28, e30, e32, e34] (fun s =>
cnd x33 (none)
(K11 [] s)) s)
(K7 [] s)) [(ci 0)] s))
def F173 : F2 := .fn H173 true
theorem fe173 : feE Tryz.prog ann 173 3 [.j [], .j [], .j [15], .j [], .j [], .cl] = some F173 := by kernel_rfl
/- daguerre/types.Goes -/
def H135 : F2C := fun c _ v s K =>
pop v fun x0 v =>
pop v fun x1 v =>
pop v fun x2 v =>
pop v fun x3 v =>
endE v (
zTbox x1 s fun x4 s =>
fa1 x4 1 fun x5 =>
ldA x5 take1 s fun x6 s =>
c (.mk .d0 .d2 .d5 .d5) [x0, x2, x6] s fun x7 s =>
gK x7 true x0 fun x8 =>
gK x7 true x3 fun x9 =>
gV x7 true (fa1 x4 2) fun x10 =>
gH x7 true (ldA x10 take1) s fun x11 s =>
gH x7 true (c (.mk .d0 .d2 .d5 .d5) [x8, x9, x11]) s fun x12 s =>
vPick x7 x12 cf fun x13 =>
K x13 s)
def F135 : F2 := .fn H135 true
theorem fe135 : feE Tryz.prog ann 135 4 [] = some F135 := by kernel_rfl
/- internal/stringslite.HasPrefix -/
def H196 : F2C := fun _ _ v s K =>
pop v fun x0 v =>
pop v fun x1 v =>
endE v (
vLens x0 fun x2 =>
vLens x1 fun x3 =>
bGe x2 x3 fun x4 =>
gK x4 true x0 fun x5 =>
gK x4 true x1 fun x6 =>
gV x4 true (vLens x6) fun x7 =>
gV x4 true (vGen (.sls (.c x5) none (some (.c x7)))) fun x8 =>
gK x4 true x1 fun x9 =>
gV x4 true (bEqF x8 x9) fun x10 =>
vPick x4 x10 cf fun x11 =>
K x11 s)
def F196 : F2 := .fn H196 true
theorem fe196 : feE Tryz.prog ann 196 2 [] = some F196 := by kernel_rfl
/- daguerre/op.May -/
def H184 : F2C := fun c _ v s K =>
pop v fun x0 v =>
endE v (
zTbox x0 s fun x1 s =>
fa1 x1 0 fun x2 =>
ldA x2 take1 s fun x3 s =>
c (.mk .d0 .d3 .d0 .d5) [x3] s fun x4 s =>
gV x4 true (fa1 x1 0) fun x5 =>
gH x4 true (ldA x5 take1) s fun x6 s =>
gV x4 true (fa1 x1 1) fun x7 =>
gH x4 true (ldA x7 take1) s fun x8 s =>
gH x4 true (c (.mk .d0 .d3 .d0 .d6) [x6, x8]) s fun x9 s =>
vPick x4 x9 cf fun x10 =>
gV x10 true (fa1 x1 0) fun x11 =>
gH x10 true (ldA x11 take1) s fun x12 s =>
gV x10 true (fa1 x1 2) fun x13 =>
gH x10 true (ldA x13 take1) s fun x14 s =>
gH x10 true (c (.mk .d0 .d3 .d0 .d7) [x12, x14]) s fun x15 s =>
vPick x10 x15 cf fun x16 =>
gV x16 true (fa1 x1 0) fun x17 =>
gH x16 true (ldA x17 take1) s fun x18 s =>
gV x16 true (fa1 x1 3) fun x19 =>
gH x16 true (ldA x19 take1) s fun x20 s =>
gH x16 true (c (.mk .d0 .d3 .d1 .d0) [x18, x20]) s fun x21 s =>
vPick x16 x21 cf fun x22 =>
K x22 s)
def F184 : F2 := .fn H184 true
theorem fe184 : feE Tryz.prog ann 184 1 [] = some F184 := by kernel_rfl
/- daguerre/daguerrelaw8.begun -/
def H224 : F2C := fun c _ v s K =>
endE v (
c (.mk .d0 .d0 .d1 .d7) [] s fun x0 s =>
c (.mk .d0 .d0 .d3 .d1) [x0] s fun x1 s =>
vExt x1 0 fun x2 =>
vExt x1 1 fun x3 =>
bEqT x3 (ci 0) fun x4 =>
cnd x4 (none)
(c (.mk .d0 .d0 .d4 .d6) [x2, (.str [66, 98]), (.str [120])] s fun x5 s =>
vExt x5 0 fun x6 =>
vExt x5 1 fun x7 =>
vExt x5 2 fun x8 =>
boxD false [.str [], .str [], .bool false] s fun x9 s =>
zSt x9 x7 3 s fun _ s =>
c (.mk .d0 .d0 .d3 .d3) [x2, (.str [66, 98]), (.str [102])] s fun x11 s =>
vExt x11 0 fun x12 =>
vExt x11 1 fun x13 =>
vExt x11 2 fun x14 =>
boxD false [.str [], .nil .sl, .str [], .bool false, .bool false, .int .i64 0, .int .i64 0, .nil .sl, .nil .sl, .nil .sl] s fun x15 s =>
zSt x15 x13 10 s fun _ s =>
c (.mk .d0 .d2 .d1 .d7) [x2, (.str [70, 97, 99, 101]), (.str [102])] s fun x17 s =>
vExt x17 0 fun x18 =>
vExt x17 1 fun x19 =>
vExt x17 2 fun x20 =>
boxD false [.str [], .nil .sl, .str [], .bool false, .bool false, .int .i64 0, .int .i64 0, .nil .sl, .nil .sl, .nil .sl] s fun x21 s =>
zSt x21 x19 10 s fun _ s =>
c (.mk .d0 .d2 .d4 .d4) [x2, (.str [66, 98]), (.str [102])] s fun x23 s =>
vExt x23 0 fun x24 =>
vExt x23 1 fun x25 =>
c (.mk .d0 .d2 .d4 .d4) [x2, (.str [70, 97, 99, 101]), (.str [102])] s fun x26 s =>
vExt x26 0 fun _ =>
vExt x26 1 fun x28 =>
c (.mk .d0 .d3 .d4 .d2) [] s fun x29 s =>
gK x29 true x8 fun x30 =>
vPick x29 x30 cf fun x31 =>
gK x31 true x6 fun x32 =>
gV x31 true (bEqF x32 (.str [65, 97])) fun x33 =>
vPick x31 x33 cf fun x34 =>
gV x34 true (fa1 x9 1) fun x35 =>
gH x34 true (ldA x35 take1) s fun x36 s =>
gV x34 true (bEqF x36 (.str [73])) fun x37 =>
vPick x34 x37 cf fun x38 =>
gK x38 true x14 fun x39 =>
vPick x38 x39 cf fun x40 =>
gK x40 true x12 fun x41 =>
gV x40 true (bEqF x41 (.str [65, 97])) fun x42 =>
vPick x40 x42 cf fun x43 =>
gV x43 true (fa1 x15 2) fun x44 =>
gH x43 true (ldA x44 take1) s fun x45 s =>
gV x43 true (bEqF x45 (.str [73])) fun x46 =>
vPick x43 x46 cf fun x47 =>
gK x47 true x20 fun x48 =>
vPick x47 x48 cf fun x49 =>
gK x49 true x18 fun x50 =>
gV x49 true (bEqF x50 (.str [70, 97, 99, 101])) fun x51 =>
vPick x49 x51 cf fun x52 =>
gK x52 true x25 fun x53 =>
vPick x52 x53 cf fun x54 =>
gK x54 true x24 fun x55 =>
gV x54 true (bEqF x55 (.str [65, 97])) fun x56 =>
vPick x54 x56 cf fun x57 =>
gK x57 true x28 fun x58 =>
gV x57 true (vGen (.un .not (.c x58))) fun x59 =>
vPick x57 x59 cf fun x60 =>
gH x60 true (ldA x15 (takeN 10)) s fun x61 s =>
gH x60 true (ldA x15 (takeN 10)) s fun x62 s =>
gH x60 true (c (.mk .d0 .d1 .d6 .d2) [x61, x62]) s fun x63 s =>
vPick x60 x63 cf fun x64 =>
gH x64 true (ldA x15 (takeN 10)) s fun x65 s =>
gV x64 true (vBld [.str [], .nil .sl, .str [], .bool false, .bool false, .int .i64 0, .int .i64 0, .nil .sl, .nil .sl, .nil .sl] (eCons 2 1 (.str [86]) eNil)) fun x66 =>
gH x64 true (c (.mk .d0 .d1 .d6 .d2) [x65, x66]) s fun x67 s =>
gV x64 true (vGen (.un .not (.c x67))) fun x68 =>
vPick x64 x68 cf fun x69 =>
K x69 s))
def F224 : F2 := .pur H224 true mNo
theorem fe224 : feE Tryz.prog ann 224 0 [.cl] = some F224 := by kernel_rfl
/- daguerre/op.known -/
def H197 : F2C := fun c _ v s K =>
pop v fun x0 v =>
endE v (
c (.mk .d0 .d2 .d0 .d6) [x0, (ci 1), (ci 61)] s fun x1 s =>
K x1 s)
def F197 : F2 := .fn H197 true
theorem fe197 : feE Tryz.prog ann 197 1 [] = some F197 := by kernel_rfl
/- daguerre/op.mayA -/
def H198 : F2C := fun c _ v s K =>
pop v fun x0 v =>
pop v fun x1 v =>
endE v (
jn (fun _ s =>
bEqF x1 (ci 0) fun x3 =>
K x3 s) fun K2 =>
bEqF x0 (ci 1) fun x4 =>
cnd x4 (c (.mk .d0 .d2 .d0 .d6) [x1, (.int .i64 (-2147483648)), (ci 2147483647)] s fun x5 s =>
K x5 s)
(bEqF x0 (ci 3) fun x6 =>
gK x6 false x0 fun x7 =>
gV x6 false (bEqF x7 (ci 4)) fun x8 =>
vPick x6 ct x8 fun x9 =>
cnd x9 (none)
(c (.mk .d0 .d1 .d0 .d6) [x0] s fun x10 s =>
cnd x10 (none)
(K2 [] s))))
def F198 : F2 := .fn H198 true
theorem fe198 : feE Tryz.prog ann 198 2 [.j [], .j [], .cl, .cl] = some F198 := by kernel_rfl
/- daguerre/op.mayC -/
def H199 : F2C := fun c _ v s K =>
pop v fun x0 v =>
pop v fun x1 v =>
endE v (
jn (fun _ s =>
bEqF x1 (.str []) fun x3 =>
K x3 s) fun K2 =>
c (.mk .d0 .d3 .d2 .d7) [x0] s fun x4 s =>
cnd x4 (none)
(c (.mk .d0 .d3 .d3 .d0) [x0] s fun x5 s =>
cnd x5 (c (.mk .d0 .d1 .d4 .d3) [x1] s fun x6 s =>
K x6 s)
(K2 [] s)))
def F199 : F2 := .fn H199 true
theorem fe199 : feE Tryz.prog ann 199 2 [.j [], .cl, .j []] = some F199 := by kernel_rfl
/- daguerre/op.mayM -/
def H200 : F2C := fun c _ v s K =>
pop v fun x0 v =>
pop v fun x1 v =>
endE v (
c (.mk .d0 .d3 .d3 .d1) [x0] s fun x2 s =>
cnd x2 (c (.mk .d0 .d1 .d3 .d5) [x1] s fun x3 s =>
gK x3 true x1 fun x4 =>
gV x3 true (bEqT x4 (.str [36, 105, 110, 105, 116])) fun x5 =>
vPick x3 x5 cf fun x6 =>
K x6 s)
(bEqF x1 (.str []) fun x7 =>
K x7 s))
def F200 : F2 := .fn H200 true
theorem fe200 : feE Tryz.prog ann 200 2 [.j []] = some F200 := by kernel_rfl
/- daguerre/link.Face -/
def H143 : F2C := fun c _ v s K =>
pop v fun x0 v =>
pop v fun x1 v =>
pop v fun x2 v =>
endE v (
boxD false [.str [], .nil .sl, .str [], .bool false, .bool false, .int .i64 0, .int .i64 0, .nil .sl, .nil .sl, .nil .sl] s fun x3 s =>
c (.mk .d0 .d0 .d4 .d3) [x0, x1] s fun x4 s =>
vExt x4 0 fun x5 =>
vExt x4 1 fun _ =>
boxD false [.str [], .str [], .bool false, .nil .sl, .nil .sl, .nil .sl] s fun x7 s =>
zSt x7 x5 6 s fun _ s =>
fa1 x7 2 fun x9 =>
ldA x9 take1 s fun x10 s =>
vGen (.un .not (.c x10)) fun x11 =>
cnd x11 (none)
(zHbs [.str []] 1 1 (eCons 0 1 x1 eNil) s fun x12 s =>
c (.mk .d0 .d1 .d6 .d3) [x0, x1] s fun x13 s =>
appB 1 16 x12 x13 s fun x14 s =>
c (.mk .d0 .d0 .d7 .d2) [x0, x14, x2, (.fn 178 [] [])] s fun x15 s =>
vExt x15 0 fun x16 =>
vExt x15 1 fun x17 =>
vExt x15 2 fun x18 =>
zSt x3 x17 10 s fun _ s =>
ldA x3 (takeN 10) s fun x20 s => K (.tup [x16, x20, x18]) s))
def F143 : F2 := .fn H143 true
theorem fe143 : feE Tryz.prog ann 143 3 [.cl] = some F143 := by kernel_rfl
/- daguerre/daguerrelaw7.Begun -/
def H226 : F2C := fun c _ v s K =>
endE v (
c (.mk .d0 .d3 .d4 .d3) [] s fun x0 s =>
K x0 s)
def F226 : F2 := .pur H226 true mNo
theorem fe226 : feE Tryz.prog ann 226 0 [] = some F226 := by kernel_rfl
def M226 (k : Nat) : F2 := .pur H226 true (Bool.rec mNo (mVal (.bool true)) (Nat.ble 5 k))
/- daguerre/op.typed -/
def H215 : F2C := fun _ _ v s K =>
pop v fun x0 v =>
endE v (
bEqF x0 (ci 50) fun x1 =>
gK x1 false x0 fun x2 =>
gV x1 false (bEqF x2 (ci 56)) fun x3 =>
vPick x1 ct x3 fun x4 =>
gK x4 false x0 fun x5 =>
gV x4 false (bEqF x5 (ci 57)) fun x6 =>
vPick x4 ct x6 fun x7 =>
K x7 s)
def F215 : F2 := .fn H215 true
theorem fe215 : feE Tryz.prog ann 215 1 [] = some F215 := by kernel_rfl
/- daguerre/op.c -/
def H216 : F2C := fun c _ v s K =>
pop v fun x0 v =>
endE v (
bEqF x0 (ci 37) fun x1 =>
gK x1 false x0 fun x2 =>
gH x1 false (c (.mk .d0 .d3 .d3 .d1) [x2]) s fun x3 s =>
vPick x1 ct x3 fun x4 =>
gK x4 false x0 fun x5 =>
gH x4 false (c (.mk .d0 .d3 .d2 .d7) [x5]) s fun x6 s =>
vPick x4 ct x6 fun x7 =>
K x7 s)
def F216 : F2 := .fn H216 true
theorem fe216 : feE Tryz.prog ann 216 1 [] = some F216 := by kernel_rfl
/- daguerre/op.m -/
def H217 : F2C := fun c _ v s K =>
pop v fun x0 v =>
endE v (
c (.mk .d0 .d2 .d0 .d6) [x0, (ci 38), (ci 45)] s fun x1 s =>
K x1 s)
def F217 : F2 := .fn H217 true
theorem fe217 : feE Tryz.prog ann 217 1 [] = some F217 := by kernel_rfl
/- daguerre/link.Face$1 -/
def H178 : F2C := fun _ _ v s K =>
pop v fun x0 v =>
endE v (
zTbox x0 s fun _ s =>
K ct s)
def F178 : F2 := .fn H178 true
theorem fe178 : feE Tryz.prog ann 178 1 [] = some F178 := by kernel_rfl
/- daguerre/daguerrelaw7.begun -/
def H227 : F2C := fun c _ v s K =>
endE v (
c (.mk .d0 .d0 .d1 .d7) [] s fun x0 s =>
c (.mk .d0 .d0 .d3 .d1) [x0] s fun x1 s =>
vExt x1 0 fun x2 =>
vExt x1 1 fun x3 =>
c (.mk .d0 .d0 .d5 .d0) [(.str [79, 98, 106, 101, 99, 116])] s fun x4 s =>
zBsl [.str [], .str [], .bool false, .nil .sl, .nil .sl, .nil .sl] 6 1 (eCons 0 6 x4 eNil) s fun x5 s =>
c (.mk .d0 .d0 .d3 .d1) [x5] s fun x6 s =>
vExt x6 0 fun _ =>
vExt x6 1 fun x8 =>
bEqT x3 (ci 0) fun x9 =>
gK x9 false x2 fun x10 =>
gV x9 false (vNil false .ptr x10) fun x11 =>
vPick x9 ct x11 fun x12 =>
gH x12 false (c (.mk .d0 .d0 .d3 .d5) []) s fun x13 s =>
gV x12 false (vLenS x13) fun x14 =>
gV x12 false (bEqT x14 (ci 10)) fun x15 =>
vPick x12 ct x15 fun x16 =>
cnd x16 (none)
(c (.mk .d0 .d0 .d3 .d6) [x2] s fun x17 s =>
c (.mk .d0 .d3 .d4 .d4) [] s fun x18 s =>
gK x18 true x8 fun x19 =>
gV x18 true (bEqF x19 (ci 1)) fun x20 =>
vPick x18 x20 cf fun x21 =>
gK x21 true x17 fun x22 =>
gV x21 true (vLenS x22) fun x23 =>
gV x21 true (bEqF x23 (ci 13)) fun x24 =>
vPick x21 x24 cf fun x25 =>
gK x25 true x17 fun x26 =>
gV x25 true (vIaS x26 (ci 12) 1) fun x27 =>
gH x25 true (ldA x27 take1) s fun x28 s =>
gV x25 true (bEqF x28 (.str [66, 98])) fun x29 =>
vPick x25 x29 cf fun x30 =>
gK x30 true x2 fun x31 =>
gH x30 true (c (.mk .d0 .d0 .d7 .d3) [x31, (.str [66, 98])]) s fun x32 s =>
gH x30 true (zBsl [.str [], .str [], .str []] 1 3 (eCons 0 1 (.str [66, 98]) (eCons 1 1 (.str [65, 97]) (eCons 2 1 (.str [79, 98, 106, 101, 99, 116]) eNil)))) s fun x33 s =>
gH x30 true (c (.mk .d0 .d0 .d2 .d4) [x32, x33]) s fun x34 s =>
vPick x30 x34 cf fun x35 =>
gK x35 true x2 fun x36 =>
gH x35 true (c (.mk .d0 .d1 .d6 .d3) [x36, (.str [66, 98])]) s fun x37 s =>
gH x35 true (zBsl [.str []] 1 1 (eCons 0 1 (.str [70, 97, 99, 101]) eNil)) s fun x38 s =>
gH x35 true (c (.mk .d0 .d0 .d2 .d4) [x37, x38]) s fun x39 s =>
vPick x35 x39 cf fun x40 =>
gK x40 true x2 fun x41 =>
gH x40 true (c (.mk .d0 .d1 .d0 .d1) [x41, (.str [66, 98]), (.str [70, 97, 99, 101])]) s fun x42 s =>
vPick x40 x42 cf fun x43 =>
gK x43 true x2 fun x44 =>
gH x43 true (c (.mk .d0 .d1 .d0 .d1) [x44, (.str [91, 66, 98]), (.str [91, 65, 97])]) s fun x45 s =>
vPick x43 x45 cf fun x46 =>
gK x46 true x2 fun x47 =>
gH x46 true (c (.mk .d0 .d1 .d0 .d1) [x47, (.str [91, 65, 97]), (.str [91, 66, 98])]) s fun x48 s =>
gV x46 true (vGen (.un .not (.c x48))) fun x49 =>
vPick x46 x49 cf fun x50 =>
gK x50 true x2 fun x51 =>
gH x50 true (c (.mk .d0 .d1 .d0 .d1) [x51, (.str [91, 73]), (.str [79, 98, 106, 101, 99, 116])]) s fun x52 s =>
vPick x50 x52 cf fun x53 =>
gK x53 true x2 fun x54 =>
gH x53 true (c (.mk .d0 .d1 .d0 .d1) [x54, (.str [73]), (.str [79, 98, 106, 101, 99, 116])]) s fun x55 s =>
gV x53 true (vGen (.un .not (.c x55))) fun x56 =>
vPick x53 x56 cf fun x57 =>
K x57 s))
def F227 : F2 := .pur H227 true mNo
theorem fe227 : feE Tryz.prog ann 227 0 [.cl] = some F227 := by kernel_rfl
/- daguerre/daguerrelaw6.Begun -/
def H228 : F2C := fun c _ v s K =>
endE v (
c (.mk .d0 .d3 .d4 .d5) [] s fun x0 s =>
K x0 s)
def F228 : F2 := .pur H228 true mNo
theorem fe228 : feE Tryz.prog ann 228 0 [] = some F228 := by kernel_rfl
def M228 (k : Nat) : F2 := .pur H228 true (Bool.rec mNo (mVal (.bool true)) (Nat.ble 4 k))
/- daguerre/daguerrelaw6.begun -/
def H229 : F2C := fun c _ v s K =>
endE v (
c (.mk .d0 .d0 .d5 .d0) [(.str [65, 98])] s fun x0 s =>
boxD false [.str [], .str [], .bool false, .nil .sl, .nil .sl, .nil .sl] s fun x1 s =>
zSt x1 x0 6 s fun _ s =>
ldA x1 (takeN 6) s fun x3 s =>
c (.mk .d0 .d3 .d4 .d6) [x3] s fun x4 s =>
c (.mk .d0 .d3 .d4 .d7) [x4] s fun x5 s =>
vExt x5 0 fun x6 =>
vExt x5 1 fun x7 =>
boxD false [.str [], .str [], .bool false, .nil .sl, .nil .sl, .nil .sl] s fun x8 s =>
zSt x8 x6 6 s fun _ s =>
c (.mk .d0 .d3 .d4 .d7) [(.nil .sl)] s fun x10 s =>
vExt x10 0 fun x11 =>
vExt x10 1 fun x12 =>
boxD false [.str [], .str [], .bool false, .nil .sl, .nil .sl, .nil .sl] s fun x13 s =>
zSt x13 x11 6 s fun _ s =>
c (.mk .d0 .d3 .d5 .d0) [] s fun x15 s =>
gK x15 true x4 fun x16 =>
gV x15 true (vLenS x16) fun x17 =>
gV x15 true (bGt x17 (ci 10)) fun x18 =>
vPick x15 x18 cf fun x19 =>
gK x19 true x4 fun x20 =>
gV x19 true (vIaS x20 (ci 0) 1) fun x21 =>
gH x19 true (ldA x21 take1) s fun x22 s =>
gV x19 true (bEqF x22 (cu 74)) fun x23 =>
vPick x19 x23 cf fun x24 =>
gK x24 true x7 fun x25 =>
gV x24 true (bEqF x25 (ci 0)) fun x26 =>
vPick x24 x26 cf fun x27 =>
gH x27 true (ldA x1 (takeN 6)) s fun x28 s =>
gH x27 true (ldA x8 (takeN 6)) s fun x29 s =>
gH x27 true (c (.mk .d0 .d3 .d5 .d1) [x28, x29]) s fun x30 s =>
vPick x27 x30 cf fun x31 =>
gK x31 true x12 fun x32 =>
gV x31 true (bEqF x32 (ci 1)) fun x33 =>
vPick x31 x33 cf fun x34 =>
gV x34 true (vBld [.str [], .str [], .bool false, .nil .sl, .nil .sl, .nil .sl] eNil) fun x35 =>
gH x34 true (c (.mk .d0 .d3 .d4 .d6) [x35]) s fun x36 s =>
gV x34 true (vLenS x36) fun x37 =>
gV x34 true (bEqF x37 (ci 0)) fun x38 =>
vPick x34 x38 cf fun x39 =>
K x39 s)
def F229 : F2 := .pur H229 true mNo
theorem fe229 : feE Tryz.prog ann 229 0 [] = some F229 := by kernel_rfl
/- daguerre/file.Encode -/
def H230 : F2C := fun c k v s K =>
pop v fun x0 v =>
endE v (
zTbox x0 s fun x1 s =>
ldA x1 (takeN 6) s fun x2 s =>
c (.mk .d0 .d0 .d6 .d1) [x2] s fun x3 s =>
vGen (.un .not (.c x3)) fun x4 =>
cnd x4 (K (.nil .sl) s)
(vBld [.nil .sl, .nil .sl] eNil fun x5 =>
zBox false x5 s fun x6 s =>
fa1 x1 0 fun x7 =>
ldA x7 take1 s fun x8 s =>
c (.mk .d0 .d3 .d5 .d2) [x6, x8] s fun _ s =>
fa1 x1 1 fun x10 =>
ldA x10 take1 s fun x11 s =>
c (.mk .d0 .d3 .d5 .d2) [x6, x11] s fun _ s =>
fa1 x1 2 fun x13 =>
ldA x13 take1 s fun x14 s =>
c (.mk .d0 .d3 .d5 .d3) [x6, x14] s fun _ s =>
fa1 x1 3 fun x16 =>
ldA x16 take1 s fun x17 s =>
vGen (.mkf 234 [(.c x6)] []) fun x18 =>
c (.mk .d0 .d3 .d5 .d4) [x6, x17, x18] s fun _ s =>
fa1 x1 4 fun x20 =>
ldA x20 take1 s fun x21 s =>
vGen (.mkf 238 [(.c x6)] []) fun x22 =>
c (.mk .d0 .d3 .d5 .d5) [x6, x21, x22] s fun _ s =>
fa1 x1 5 fun x24 =>
ldA x24 take1 s fun x25 s =>
vGen (.mkf 240 [(.c x6)] []) fun x26 =>
c (.mk .d0 .d3 .d5 .d7) [x6, x25, x26] s fun _ s =>
zHbs [.int .u8 0, .int .u8 0, .int .u8 0, .int .u8 0] 1 4 (eCons 0 1 (cu 74) (eCons 1 1 (cu 65) (eCons 2 1 (cu 86) (eCons 3 1 (cu 65) eNil)))) s fun x28 s =>
zCvs x28 s fun x29 s =>
vChk x6 fun x30 =>
fa1 x30 0 fun x31 =>
ldA x31 take1 s fun x32 s =>
vLenS x32 fun x33 =>
c (.mk .d0 .d3 .d6 .d1) [x29, x33] s fun x34 s =>
vChk x6 fun x35 =>
fa1 x35 0 fun x36 =>
ldA x36 take1 s fun x37 s =>
vLenS x37 fun x38 =>
jn (fun v s =>
pop v fun x40 _ =>
vChk x6 fun x41 =>
fa1 x41 1 fun x42 =>
ldA x42 take1 s fun x43 s =>
appB 1 1 x40 x43 s fun x44 s =>
vLenS x44 fun x45 =>
bGt x45 (ci 6000) fun x46 =>
cnd x46 (none)
(K x44 s)) fun K39 =>
loopE k (fun K47 v s =>
pop v fun x48 v =>
pop v fun x49 _ =>
bLt x48 x38 fun x50 =>
cnd x50 (jn (fun v s =>
pop v fun x52 _ =>
bAdd x48 (ci 1) fun x53 =>
K47 [x53, x52] s) fun K51 =>
vIaS x37 x48 1 fun x54 =>
ldA x54 take1 s fun x55 s =>
c (.mk .d0 .d3 .d6 .d2) [x49, x55] s fun x56 s =>
K51 [x56] s)
(K39 [x49] s)) [(ci 0), x34] s))
def F230 : F2 := .fn H230 true
theorem fe230 : feE Tryz.prog ann 230 1 [.j [], .j [4], .j [55, 4], .j [], .j [4], .cl] = some F230 := by kernel_rfl
/- daguerre/file.Decode -/
def H231 : F2C := fun c _ v s K =>
pop v fun x0 v =>
endE v (
boxD false [.str [], .str [], .bool false, .nil .sl, .nil .sl, .nil .sl] s fun x1 s =>
vLenS x0 fun x2 =>
bGt x2 (ci 6000) fun x3 =>
cnd x3 (none)
(b2sA x0 s fun x4 s =>
c (.mk .d0 .d3 .d6 .d3) [x4, (.str [74, 65, 86, 65])] s fun x5 s =>
vGen (.un .not (.c x5)) fun x6 =>
cnd x6 (vBld [.str [], .str [], .bool false, .nil .sl, .nil .sl, .nil .sl] eNil fun x7 =>
zSt x1 x7 6 s fun _ s =>
ldA x1 (takeN 6) s fun x9 s => K (.tup [x9, (ci 1)]) s)
(vSlt x0 (eX (ci 4)) eN 1 fun x10 =>
vBld [.nil .sl, .nil .sl, .bool false] (eCons 1 1 x10 eNil) fun x11 =>
zBox false x11 s fun x12 s =>
vGen (.mkf 245 [(.c x12)] []) fun x13 =>
c (.mk .d0 .d3 .d6 .d4) [x12, x13] s fun x14 s =>
vChk x12 fun x15 =>
fa1 x15 0 fun x16 =>
zSt x16 x14 1 s fun _ s =>
c (.mk .d0 .d3 .d6 .d6) [x12] s fun x18 s =>
c (.mk .d0 .d3 .d6 .d6) [x12] s fun x19 s =>
c (.mk .d0 .d3 .d6 .d7) [x12] s fun x20 s =>
vGen (.mkf 246 [(.c x12)] []) fun x21 =>
c (.mk .d0 .d3 .d6 .d4) [x12, x21] s fun x22 s =>
vBld [.str [], .str [], .bool false, .nil .sl, .nil .sl, .nil .sl] (eCons 0 1 x18 (eCons 1 1 x19 (eCons 2 1 x20 (eCons 3 1 x22 eNil)))) fun x23 =>
boxD false [.str [], .str [], .bool false, .nil .sl, .nil .sl, .nil .sl] s fun x24 s =>
zSt x24 x23 6 s fun _ s =>
vGen (.mkf 249 [(.c x12)] []) fun x26 =>
c (.mk .d0 .d3 .d7 .d0) [x12, x26] s fun x27 s =>
vGen (.mkf 251 [(.c x12)] []) fun x28 =>
c (.mk .d0 .d3 .d7 .d2) [x12, x28] s fun x29 s =>
fa1 x24 4 fun x30 =>
zSt x30 x27 1 s fun _ s =>
fa1 x24 5 fun x32 =>
zSt x32 x29 1 s fun _ s =>
ldA x24 (takeN 6) s fun x34 s =>
c (.mk .d0 .d3 .d4 .d6) [x34] s fun x35 s =>
vChk x12 fun x36 =>
fa1 x36 2 fun x37 =>
ldA x37 take1 s fun x38 s =>
gK x38 false x35 fun x39 =>
gV x38 false (vNil false .sl x39) fun x40 =>
vPick x38 ct x40 fun x41 =>
gK x41 false x35 fun x42 =>
gK x41 false x0 fun x43 =>
gH x41 false (c (.mk .d0 .d3 .d7 .d4) [x42, x43]) s fun x44 s =>
gV x41 false (vGen (.un .not (.c x44))) fun x45 =>
vPick x41 ct x45 fun x46 =>
cnd x46 (none)
(ldA x24 (takeN 6) s fun x47 s =>
zSt x1 x47 6 s fun _ s =>
ldA x1 (takeN 6) s fun x49 s => K (.tup [x49, (ci 0)]) s))))
def F231 : F2 := .fn H231 true
theorem fe231 : feE Tryz.prog ann 231 1 [.cl, .j [], .cl] = some F231 := by kernel_rfl
/- daguerre/daguerrelaw5.Begun -/
def H232 : F2C := fun c _ v s K =>
endE v (
c (.mk .d0 .d3 .d7 .d5) [] s fun x0 s =>
K x0 s)
def F232 : F2 := .pur H232 true mNo
theorem fe232 : feE Tryz.prog ann 232 0 [] = some F232 := by kernel_rfl
def M232 (k : Nat) : F2 := .pur H232 true (Bool.rec mNo (mVal (.bool true)) (Nat.ble 3 k))
/- daguerre/daguerreref3.EqClass -/
def H233 : F2C := fun c k v s K =>
pop v fun x0 v =>
pop v fun x1 v =>
endE v (
zTbox x0 s fun x2 s =>
zTbox x1 s fun x3 s =>
fa1 x2 0 fun x4 =>
ldA x4 take1 s fun x5 s =>
fa1 x3 0 fun x6 =>
ldA x6 take1 s fun x7 s =>
bEqT x5 x7 fun x8 =>
gV x8 false (fa1 x2 1) fun x9 =>
gH x8 false (ldA x9 take1) s fun x10 s =>
gV x8 false (fa1 x3 1) fun x11 =>
gH x8 false (ldA x11 take1) s fun x12 s =>
gV x8 false (bEqT x10 x12) fun x13 =>
vPick x8 ct x13 fun x14 =>
gV x14 false (fa1 x2 2) fun x15 =>
gH x14 false (ldA x15 take1) s fun x16 s =>
gV x14 false (fa1 x3 2) fun x17 =>
gH x14 false (ldA x17 take1) s fun x18 s =>
gV x14 false (vBeq true x16 x18) fun x19 =>
vPick x14 ct x19 fun x20 =>
gV x20 false (fa1 x2 3) fun x21 =>
gH x20 false (ldA x21 take1) s fun x22 s =>
gV x20 false (fa1 x3 3) fun x23 =>
gH x20 false (ldA x23 take1) s fun x24 s =>
gH x20 false (c (.mk .d0 .d0 .d2 .d4) [x22, x24]) s fun x25 s =>
gV x20 false (vGen (.un .not (.c x25))) fun x26 =>
vPick x20 ct x26 fun x27 =>
gV x27 false (fa1 x2 4) fun x28 =>
gH x27 false (ldA x28 take1) s fun x29 s =>
gV x27 false (vLenS x29) fun x30 =>
gV x27 false (fa1 x3 4) fun x31 =>
gH x27 false (ldA x31 take1) s fun x32 s =>
gV x27 false (vLenS x32) fun x33 =>
gV x27 false (bEqT x30 x33) fun x34 =>
vPick x27 ct x34 fun x35 =>
gV x35 false (fa1 x2 5) fun x36 =>
gH x35 false (ldA x36 take1) s fun x37 s =>
gV x35 false (vLenS x37) fun x38 =>
gV x35 false (fa1 x3 5) fun x39 =>
gH x35 false (ldA x39 take1) s fun x40 s =>
gV x35 false (vLenS x40) fun x41 =>
gV x35 false (bEqT x38 x41) fun x42 =>
vPick x35 ct x42 fun x43 =>
cnd x43 (none)
(jn (fun _ s =>
jn (fun _ s =>
K ct s) fun K45 =>
loopE k (fun K46 v s =>
pop v fun x47 _ =>
fa1 x2 5 fun x48 =>
ldA x48 take1 s fun x49 s =>
vLenS x49 fun x50 =>
bLt x47 x50 fun x51 =>
cnd x51 (jn (fun _ s =>
bAdd x47 (ci 1) fun x53 =>
K46 [x53] s) fun K52 =>
lgE qNoE (zV (fa1 x2 5)) s fun x54 e55 s =>
lgE (qLdE x54 1) (ldA x54 take1) s fun x56 e57 s =>
lgE qNoE (zK x47) s fun x58 e59 s =>
lgE qNoE (zV (vIaS x56 x58 10)) s fun x60 e61 s =>
lgE (qLdE x60 10) (ldA x60 (takeN 10)) s fun x62 e63 s =>
lgE qNoE (zV (fa1 x3 5)) s fun x64 e65 s =>
lgE (qLdE x64 1) (ldA x64 take1) s fun x66 e67 s =>
lgE qNoE (zK x47) s fun x68 e69 s =>
lgE qNoE (zV (vIaS x66 x68 10)) s fun x70 e71 s =>
lgE (qLdE x70 10) (ldA x70 (takeN 10)) s fun x72 e73 s =>
lgE qNoE (c (.mk .d0 .d3 .d7 .d6) [x62, x72]) s fun x74 e75 s =>
lgE qNoE (zV (vGen (.un .not (.c x74)))) s fun x76 e77 s =>
calmE [(1, 6), (4, 6), (1, 9), (4, 9)] [e55, e57, e59, e61, e63, e65, e67, e69, e71, e73, e75, e77] (fun s =>
cnd x76 (none)
(K52 [] s)) s)
(K45 [] s)) [(ci 0)] s) fun K44 =>
loopE k (fun K78 v s =>
pop v fun x79 _ =>
fa1 x2 4 fun x80 =>
ldA x80 take1 s fun x81 s =>
vLenS x81 fun x82 =>
bLt x79 x82 fun x83 =>
cnd x83 (jn (fun _ s =>
bAdd x79 (ci 1) fun x85 =>
K78 [x85] s) fun K84 =>
lgE qNoE (zV (fa1 x2 4)) s fun x86 e87 s =>
lgE (qLdE x86 1) (ldA x86 take1) s fun x88 e89 s =>
lgE qNoE (zK x79) s fun x90 e91 s =>
lgE qNoE (zV (vIaS x88 x90 3)) s fun x92 e93 s =>
lgE (qLdE x92 3) (ldA x92 (takeN 3)) s fun x94 e95 s =>
lgE qNoE (zV (fa1 x3 4)) s fun x96 e97 s =>
lgE (qLdE x96 1) (ldA x96 take1) s fun x98 e99 s =>
lgE qNoE (zK x79) s fun x100 e101 s =>
lgE qNoE (zV (vIaS x98 x100 3)) s fun x102 e103 s =>
lgE (qLdE x102 3) (ldA x102 (takeN 3)) s fun x104 e105 s =>
lgE qNoE (boxD false [.str [], .str [], .bool false]) s fun x106 e107 s =>
lgE qNoE (boxD false [.str [], .str [], .bool false]) s fun x108 e109 s =>
lgE qNoE (zSt x106 x94 3) s fun _ e111 s =>
lgE qNoE (zSt x108 x104 3) s fun _ e113 s =>
calmE [(1, 6), (4, 6), (1, 9), (4, 9), (1, 10), (4, 10), (6, 10), (9, 10), (1, 11), (4, 11), (6, 11), (9, 11), (10, 11), (6, 12), (9, 12)] [e87, e89, e91, e93, e95, e97, e99, e101, e103, e105, e107, e109, e111, e113] (fun s =>
fa1 x106 0 fun x114 =>
ldA x114 take1 s fun x115 s =>
fa1 x108 0 fun x116 =>
ldA x116 take1 s fun x117 s =>
bEqT x115 x117 fun x118 =>
gV x118 false (fa1 x106 1) fun x119 =>
gH x118 false (ldA x119 take1) s fun x120 s =>
gV x118 false (fa1 x108 1) fun x121 =>
gH x118 false (ldA x121 take1) s fun x122 s =>
gV x118 false (bEqT x120 x122) fun x123 =>
vPick x118 ct x123 fun x124 =>
gV x124 false (fa1 x106 2) fun x125 =>
gH x124 false (ldA x125 take1) s fun x126 s =>
gV x124 false (fa1 x108 2) fun x127 =>
gH x124 false (ldA x127 take1) s fun x128 s =>
gV x124 false (vBeq true x126 x128) fun x129 =>
vPick x124 ct x129 fun x130 =>
cnd x130 (none)
(K84 [] s)) s)
(K44 [] s)) [(ci 0)] s))
def F233 : F2 := .fn H233 true
theorem fe233 : feE Tryz.prog ann 233 2 [.cl, .j [], .j [5], .j [], .j [], .cl, .j [], .j [8], .j [], .j [], .cl] = some F233 := by kernel_rfl
/- (*daguerre/file.writer).text -/
def H234 : F2C := fun c _ v s K =>
pop v fun x0 v =>
pop v fun x1 v =>
endE v (
vChk x0 fun x2 =>
fa1 x2 0 fun x3 =>
ldA x3 take1 s fun x4 s =>
c (.mk .d0 .d1 .d1 .d1) [x4, x1] s fun x5 s =>
bLt x5 (ci 0) fun x6 =>
jn (fun v s =>
pop v fun x8 _ =>
c (.mk .d0 .d3 .d7 .d7) [x0, x8] s fun _ s =>
K (.tup []) s) fun K7 =>
cnd x6 (vChk x0 fun x10 =>
fa1 x10 0 fun x11 =>
ldA x11 take1 s fun x12 s =>
vLenS x12 fun x13 =>
vChk x0 fun x14 =>
fa1 x14 0 fun x15 =>
ldA x15 take1 s fun x16 s =>
zBsl [.str []] 1 1 (eCons 0 1 x1 eNil) s fun x17 s =>
appB 1 16 x16 x17 s fun x18 s =>
vChk x0 fun x19 =>
fa1 x19 0 fun x20 =>
zSt x20 x18 1 s fun _ s =>
K7 [x13] s)
(K7 [x5] s))
def F234 : F2 := .fn H234 true
theorem fe234 : feE Tryz.prog ann 234 2 [.j [4]] = some F234 := by kernel_rfl
/- (*daguerre/file.writer).truth -/
def H235 : F2C := fun c _ v s K =>
pop v fun x0 v =>
pop v fun x1 v =>
endE v (
jn (fun _ s =>
K (.tup []) s) fun K2 =>
cnd x1 (c (.mk .d0 .d3 .d7 .d7) [x0, (ci 1)] s fun _ s =>
K2 [] s)
(c (.mk .d0 .d3 .d7 .d7) [x0, (ci 0)] s fun _ s =>
K2 [] s))
def F235 : F2 := .fn H235 true
theorem fe235 : feE Tryz.prog ann 235 2 [.j []] = some F235 := by kernel_rfl
/- daguerre/file.list[string] -/
def H236 : F2C := fun c k v s K =>
pop v fun x0 v =>
pop v fun x1 v =>
pop v fun _ v =>
endE v (
vLenS x1 fun x3 =>
c (.mk .d0 .d3 .d7 .d7) [x0, x3] s fun _ s =>
vLenS x1 fun x5 =>
jn (fun _ s =>
K (.tup []) s) fun K6 =>
loopE k (fun _ v s =>
pop v fun x8 _ =>
bLt x8 x5 fun x9 =>
cnd x9 (none)
(K6 [] s)) [(ci 0)] s)
def F236 : F2 := .fn H236 true
theorem fe236 : feE Tryz.prog ann 236 3 [.j [], .j [14], .cl, .j []] = some F236 := by kernel_rfl
/- (*daguerre/file.writer).field -/
def H238 : F2C := fun c _ v s K =>
pop v fun x0 v =>
pop v fun x1 v =>
endE v (
zTbox x1 s fun x2 s =>
fa1 x2 0 fun x3 =>
ldA x3 take1 s fun x4 s =>
c (.mk .d0 .d3 .d5 .d2) [x0, x4] s fun _ s =>
fa1 x2 1 fun x6 =>
ldA x6 take1 s fun x7 s =>
c (.mk .d0 .d3 .d5 .d2) [x0, x7] s fun _ s =>
fa1 x2 2 fun x9 =>
ldA x9 take1 s fun x10 s =>
c (.mk .d0 .d3 .d5 .d3) [x0, x10] s fun _ s =>
K (.tup []) s)
def F238 : F2 := .fn H238 true
theorem fe238 : feE Tryz.prog ann 238 2 [] = some F238 := by kernel_rfl
/- daguerre/file.list[daguerre/api.Field] -/
def H237 : F2C := fun c k v s K =>
pop v fun x0 v =>
pop v fun x1 v =>
pop v fun x2 v =>
endE v (
vLenS x1 fun x3 =>
c (.mk .d0 .d3 .d7 .d7) [x0, x3] s fun _ s =>
vLenS x1 fun x5 =>
jn (fun _ s =>
K (.tup []) s) fun K6 =>
loopE k (fun K7 v s =>
pop v fun x8 _ =>
bLt x8 x5 fun x9 =>
cnd x9 (jn (fun _ s =>
bAdd x8 (ci 1) fun x11 =>
K7 [x11] s) fun K10 =>
vIaS x1 x8 3 fun x12 =>
ldA x12 (takeN 3) s fun x13 s =>
boxD false [.str [], .str [], .bool false] s fun x14 s =>
zSt x14 x13 3 s fun _ s =>
ldA x14 (takeN 3) s fun x16 s =>
zCallV c x2 [x16] s fun _ s =>
K10 [] s)
(K6 [] s)) [(ci 0)] s)
def F237 : F2 := .fn H237 true
theorem fe237 : feE Tryz.prog ann 237 3 [.j [], .j [14], .j [], .j []] = some F237 := by kernel_rfl
/- (*daguerre/file.writer).method -/
def H240 : F2C := fun c _ v s K =>
pop v fun x0 v =>
pop v fun x1 v =>
endE v (
zTbox x1 s fun x2 s =>
fa1 x2 0 fun x3 =>
ldA x3 take1 s fun x4 s =>
c (.mk .d0 .d3 .d5 .d2) [x0, x4] s fun _ s =>
fa1 x2 1 fun x6 =>
ldA x6 take1 s fun x7 s =>
vGen (.mkf 234 [(.c x0)] []) fun x8 =>
c (.mk .d0 .d3 .d5 .d4) [x0, x7, x8] s fun _ s =>
fa1 x2 2 fun x10 =>
ldA x10 take1 s fun x11 s =>
c (.mk .d0 .d3 .d5 .d2) [x0, x11] s fun _ s =>
fa1 x2 3 fun x13 =>
ldA x13 take1 s fun x14 s =>
c (.mk .d0 .d3 .d5 .d3) [x0, x14] s fun _ s =>
fa1 x2 4 fun x16 =>
ldA x16 take1 s fun x17 s =>
c (.mk .d0 .d3 .d5 .d3) [x0, x17] s fun _ s =>
fa1 x2 5 fun x19 =>
ldA x19 take1 s fun x20 s =>
c (.mk .d0 .d3 .d7 .d7) [x0, x20] s fun _ s =>
fa1 x2 6 fun x22 =>
ldA x22 take1 s fun x23 s =>
c (.mk .d0 .d3 .d7 .d7) [x0, x23] s fun _ s =>
fa1 x2 7 fun x25 =>
ldA x25 take1 s fun x26 s =>
vGen (.mkf 257 [(.c x0)] []) fun x27 =>
c (.mk .d0 .d4 .d0 .d0) [x0, x26, x27] s fun _ s =>
fa1 x2 8 fun x29 =>
ldA x29 take1 s fun x30 s =>
vGen (.mkf 259 [(.c x0)] []) fun x31 =>
c (.mk .d0 .d4 .d0 .d2) [x0, x30, x31] s fun _ s =>
fa1 x2 9 fun x33 =>
ldA x33 take1 s fun x34 s =>
vGen (.mkf 261 [(.c x0)] []) fun x35 =>
c (.mk .d0 .d4 .d0 .d4) [x0, x34, x35] s fun _ s =>
K (.tup []) s)
def F240 : F2 := .fn H240 true
theorem fe240 : feE Tryz.prog ann 240 2 [] = some F240 := by kernel_rfl
/- daguerre/file.list[daguerre/api.Method] -/
def H239 : F2C := fun c k v s K =>
pop v fun x0 v =>
pop v fun x1 v =>
pop v fun x2 v =>
endE v (
vLenS x1 fun x3 =>
c (.mk .d0 .d3 .d7 .d7) [x0, x3] s fun _ s =>
vLenS x1 fun x5 =>
jn (fun _ s =>
K (.tup []) s) fun K6 =>
loopE k (fun K7 v s =>
pop v fun x8 _ =>
bLt x8 x5 fun x9 =>
cnd x9 (jn (fun _ s =>
bAdd x8 (ci 1) fun x11 =>
K7 [x11] s) fun K10 =>
vIaS x1 x8 10 fun x12 =>
ldA x12 (takeN 10) s fun x13 s =>
boxD false [.str [], .nil .sl, .str [], .bool false, .bool false, .int .i64 0, .int .i64 0, .nil .sl, .nil .sl, .nil .sl] s fun x14 s =>
zSt x14 x13 10 s fun _ s =>
ldA x14 (takeN 10) s fun x16 s =>
zCallV c x2 [x16] s fun _ s =>
K10 [] s)
(K6 [] s)) [(ci 0)] s)
def F239 : F2 := .fn H239 true
theorem fe239 : feE Tryz.prog ann 239 3 [.j [], .j [14], .j [], .j []] = some F239 := by kernel_rfl
/- daguerre/num.Put -/
def H241 : F2C := fun _ k v s K =>
pop v fun x0 v =>
pop v fun x1 v =>
endE v (
vCv .u64 x1 fun x2 =>
bShl x2 (.int .u64 1) fun x3 =>
bLt x1 (ci 0) fun x4 =>
cnd x4 (none)
(jn (fun v s =>
pop v fun x6 v =>
pop v fun x7 _ =>
vCv .u8 x6 fun x8 =>
zBsl [.int .u8 0] 1 1 (eCons 0 1 x8 eNil) s fun x9 s =>
appB 1 1 x7 x9 s fun x10 s =>
K x10 s) fun K5 =>
loopE k (fun _ v s =>
pop v fun x12 v =>
pop v fun x13 _ =>
bGt x12 (.int .u64 127) fun x14 =>
cnd x14 (none)
(K5 [x12, x13] s)) [x3, x0] s))
def F241 : F2 := .fn H241 true
theorem fe241 : feE Tryz.prog ann 241 2 [.cl, .j [5, 0], .j [5, 0], .cl, .j [5, 0]] = some F241 := by kernel_rfl
/- daguerre/num.PutText -/
def H242 : F2C := fun c _ v s K =>
pop v fun x0 v =>
pop v fun x1 v =>
endE v (
vLens x1 fun x2 =>
c (.mk .d0 .d3 .d6 .d1) [x0, x2] s fun x3 s =>
zAps 1 1 x3 x1 s fun x4 s =>
K x4 s)
def F242 : F2 := .fn H242 true
theorem fe242 : feE Tryz.prog ann 242 2 [] = some F242 := by kernel_rfl
/- strings.HasPrefix -/
def H243 : F2C := fun c _ v s K =>
pop v fun x0 v =>
pop v fun x1 v =>
endE v (
c (.mk .d0 .d3 .d0 .d4) [x0, x1] s fun x2 s =>
K x2 s)
def F243 : F2 := .fn H243 true
theorem fe243 : feE Tryz.prog ann 243 2 [] = some F243 := by kernel_rfl
/- (*daguerre/file.reader).own -/
def H245 : F2C := fun c _ v s K =>
pop v fun x0 v =>
endE v (
vChk x0 fun x1 =>
fa1 x1 1 fun x2 =>
ldA x2 take1 s fun x3 s =>
c (.mk .d0 .d4 .d0 .d7) [x3] s fun x4 s =>
vExt x4 0 fun x5 =>
vExt x4 1 fun x6 =>
vExt x4 2 fun x7 =>
c (.mk .d0 .d4 .d1 .d0) [x0, x6, x7] s fun _ s =>
K x5 s)
def F245 : F2 := .fn H245 true
theorem fe245 : feE Tryz.prog ann 245 1 [] = some F245 := by kernel_rfl
/- daguerre/file.read[string] -/
def H244 : F2C := fun c k v s K =>
pop v fun x0 v =>
pop v fun x1 v =>
endE v (
c (.mk .d0 .d4 .d0 .d6) [x0] s fun x2 s =>
jn (fun v s =>
pop v fun x4 _ =>
K x4 s) fun K3 =>
loopE k (fun K5 v s =>
pop v fun x6 v =>
pop v fun x7 _ =>
bGt x6 (ci 0) fun x8 =>
gK x8 true x0 fun x9 =>
gV x8 true (vChk x9) fun x10 =>
gV x8 true (fa1 x10 2) fun x11 =>
gH x8 true (ldA x11 take1) s fun x12 s =>
gV x8 true (vGen (.un .not (.c x12))) fun x13 =>
vPick x8 x13 cf fun x14 =>
cnd x14 (jn (fun v s =>
pop v fun x16 _ =>
bSub x6 (ci 1) fun x17 =>
K5 [x17, x16] s) fun K15 =>
zCallV c x1 [] s fun x18 s =>
zBsl [.str []] 1 1 (eCons 0 1 x18 eNil) s fun x19 s =>
appB 1 16 x7 x19 s fun x20 s =>
K15 [x20] s)
(K3 [x7] s)) [x2, (.nil .sl)] s)
def F244 : F2 := .fn H244 true
theorem fe244 : feE Tryz.prog ann 244 2 [.j [5], .j [6, 5], .j [], .j [5]] = some F244 := by kernel_rfl
/- (*daguerre/file.reader).text -/
def H246 : F2C := fun c _ v s K =>
pop v fun x0 v =>
endE v (
c (.mk .d0 .d4 .d0 .d6) [x0] s fun x1 s =>
vChk x0 fun x2 =>
fa1 x2 2 fun x3 =>
ldA x3 take1 s fun x4 s =>
gK x4 false x1 fun x5 =>
gV x4 false (bLt x5 (ci 0)) fun x6 =>
vPick x4 ct x6 fun x7 =>
gK x7 false x1 fun x8 =>
gK x7 false x0 fun x9 =>
gV x7 false (vChk x9) fun x10 =>
gV x7 false (fa1 x10 0) fun x11 =>
gH x7 false (ldA x11 take1) s fun x12 s =>
gV x7 false (vLenS x12) fun x13 =>
gV x7 false (bGe x8 x13) fun x14 =>
vPick x7 ct x14 fun x15 =>
cnd x15 (none)
(vChk x0 fun x16 =>
fa1 x16 0 fun x17 =>
ldA x17 take1 s fun x18 s =>
vIaS x18 x1 1 fun x19 =>
ldA x19 take1 s fun x20 s =>
K x20 s))
def F246 : F2 := .fn H246 true
theorem fe246 : feE Tryz.prog ann 246 1 [.cl] = some F246 := by kernel_rfl
/- (*daguerre/file.reader).truth -/
def H247 : F2C := fun c _ v s K =>
pop v fun x0 v =>
endE v (
c (.mk .d0 .d4 .d0 .d6) [x0] s fun x1 s =>
bEqT x1 (ci 0) fun x2 =>
K x2 s)
def F247 : F2 := .fn H247 true
theorem fe247 : feE Tryz.prog ann 247 1 [] = some F247 := by kernel_rfl
/- (*daguerre/file.reader).field -/
def H249 : F2C := fun c _ v s K =>
pop v fun x0 v =>
endE v (
boxD false [.str [], .str [], .bool false] s fun x1 s =>
c (.mk .d0 .d3 .d6 .d6) [x0] s fun x2 s =>
c (.mk .d0 .d3 .d6 .d6) [x0] s fun x3 s =>
c (.mk .d0 .d3 .d6 .d7) [x0] s fun x4 s =>
vBld [.str [], .str [], .bool false] (eCons 0 1 x2 (eCons 1 1 x3 (eCons 2 1 x4 eNil))) fun x5 =>
zSt x1 x5 3 s fun _ s =>
ldA x1 (takeN 3) s K)
def F249 : F2 := .fn H249 true
theorem fe249 : feE Tryz.prog ann 249 1 [] = some F249 := by kernel_rfl
/- daguerre/file.read[daguerre/api.Field] -/
def H248 : F2C := fun c k v s K =>
pop v fun x0 v =>
pop v fun x1 v =>
endE v (
c (.mk .d0 .d4 .d0 .d6) [x0] s fun x2 s =>
jn (fun v s =>
pop v fun x4 _ =>
K x4 s) fun K3 =>
loopE k (fun K5 v s =>
pop v fun x6 v =>
pop v fun x7 _ =>
bGt x6 (ci 0) fun x8 =>
gK x8 true x0 fun x9 =>
gV x8 true (vChk x9) fun x10 =>
gV x8 true (fa1 x10 2) fun x11 =>
gH x8 true (ldA x11 take1) s fun x12 s =>
gV x8 true (vGen (.un .not (.c x12))) fun x13 =>
vPick x8 x13 cf fun x14 =>
cnd x14 (jn (fun v s =>
pop v fun x16 _ =>
bSub x6 (ci 1) fun x17 =>
K5 [x17, x16] s) fun K15 =>
zCallV c x1 [] s fun x18 s =>
zBsl [.str [], .str [], .bool false] 3 1 (eCons 0 3 x18 eNil) s fun x19 s =>
appB 3 40 x7 x19 s fun x20 s =>
K15 [x20] s)
(K3 [x7] s)) [x2, (.nil .sl)] s)
def F248 : F2 := .fn H248 true
theorem fe248 : feE Tryz.prog ann 248 2 [.j [5], .j [6, 5], .j [], .j [5]] = some F248 := by kernel_rfl
/- (*daguerre/file.reader).method -/
def H251 : F2C := fun c _ v s K =>
pop v fun x0 v =>
endE v (
boxD false [.str [], .nil .sl, .str [], .bool false, .bool false, .int .i64 0, .int .i64 0, .nil .sl, .nil .sl, .nil .sl] s fun x1 s =>
c (.mk .d0 .d3 .d6 .d6) [x0] s fun x2 s =>
vGen (.mkf 246 [(.c x0)] []) fun x3 =>
c (.mk .d0 .d3 .d6 .d4) [x0, x3] s fun x4 s =>
c (.mk .d0 .d3 .d6 .d6) [x0] s fun x5 s =>
c (.mk .d0 .d3 .d6 .d7) [x0] s fun x6 s =>
c (.mk .d0 .d3 .d6 .d7) [x0] s fun x7 s =>
vBld [.str [], .nil .sl, .str [], .bool false, .bool false, .int .i64 0, .int .i64 0, .nil .sl, .nil .sl, .nil .sl] (eCons 0 1 x2 (eCons 1 1 x4 (eCons 2 1 x5 (eCons 3 1 x6 (eCons 4 1 x7 eNil))))) fun x8 =>
boxD false [.str [], .nil .sl, .str [], .bool false, .bool false, .int .i64 0, .int .i64 0, .nil .sl, .nil .sl, .nil .sl] s fun x9 s =>
zSt x9 x8 10 s fun _ s =>
c (.mk .d0 .d4 .d0 .d6) [x0] s fun x11 s =>
c (.mk .d0 .d4 .d0 .d6) [x0] s fun x12 s =>
fa1 x9 5 fun x13 =>
zSt x13 x11 1 s fun _ s =>
fa1 x9 6 fun x15 =>
zSt x15 x12 1 s fun _ s =>
vGen (.mkf 266 [(.c x0)] []) fun x17 =>
c (.mk .d0 .d4 .d1 .d1) [x0, x17] s fun x18 s =>
vGen (.mkf 268 [(.c x0)] []) fun x19 =>
c (.mk .d0 .d4 .d1 .d3) [x0, x19] s fun x20 s =>
vGen (.mkf 270 [(.c x0)] []) fun x21 =>
c (.mk .d0 .d4 .d1 .d5) [x0, x21] s fun x22 s =>
fa1 x9 7 fun x23 =>
zSt x23 x18 1 s fun _ s =>
fa1 x9 8 fun x25 =>
zSt x25 x20 1 s fun _ s =>
fa1 x9 9 fun x27 =>
zSt x27 x22 1 s fun _ s =>
ldA x9 (takeN 10) s fun x29 s =>
zSt x1 x29 10 s fun _ s =>
ldA x1 (takeN 10) s K)
def F251 : F2 := .fn H251 true
theorem fe251 : feE Tryz.prog ann 251 1 [] = some F251 := by kernel_rfl
/- daguerre/file.read[daguerre/api.Method] -/
def H250 : F2C := fun c k v s K =>
pop v fun x0 v =>
pop v fun x1 v =>
endE v (
c (.mk .d0 .d4 .d0 .d6) [x0] s fun x2 s =>
jn (fun v s =>
pop v fun x4 _ =>
K x4 s) fun K3 =>
loopE k (fun K5 v s =>
pop v fun x6 v =>
pop v fun x7 _ =>
bGt x6 (ci 0) fun x8 =>
gK x8 true x0 fun x9 =>
gV x8 true (vChk x9) fun x10 =>
gV x8 true (fa1 x10 2) fun x11 =>
gH x8 true (ldA x11 take1) s fun x12 s =>
gV x8 true (vGen (.un .not (.c x12))) fun x13 =>
vPick x8 x13 cf fun x14 =>
cnd x14 (jn (fun v s =>
pop v fun x16 _ =>
bSub x6 (ci 1) fun x17 =>
K5 [x17, x16] s) fun K15 =>
zCallV c x1 [] s fun x18 s =>
zBsl [.str [], .nil .sl, .str [], .bool false, .bool false, .int .i64 0, .int .i64 0, .nil .sl, .nil .sl, .nil .sl] 10 1 (eCons 0 10 x18 eNil) s fun x19 s =>
appB 10 152 x7 x19 s fun x20 s =>
K15 [x20] s)
(K3 [x7] s)) [x2, (.nil .sl)] s)
def F250 : F2 := .fn H250 true
theorem fe250 : feE Tryz.prog ann 250 2 [.j [5], .j [6, 5], .j [], .j [5]] = some F250 := by kernel_rfl
/- bytes.Equal -/
def H252 : F2C := fun _ _ v s K =>
pop v fun x0 v =>
pop v fun x1 v =>
endE v (
b2sA x0 s fun x2 s =>
b2sA x1 s fun x3 s =>
bEqF x2 x3 fun x4 =>
K x4 s)
def F252 : F2 := .fn H252 true
theorem fe252 : feE Tryz.prog ann 252 2 [] = some F252 := by kernel_rfl
/- daguerre/daguerrelaw5.begun -/
def H253 : F2C := fun c _ v s K =>
endE v (
c (.mk .d0 .d0 .d5 .d0) [(.str [65, 98])] s fun x0 s =>
boxD false [.str [], .str [], .bool false, .nil .sl, .nil .sl, .nil .sl] s fun x1 s =>
zSt x1 x0 6 s fun _ s =>
c (.mk .d0 .d0 .d5 .d0) [(.str [65, 98])] s fun x3 s =>
boxD false [.str [], .str [], .bool false, .nil .sl, .nil .sl, .nil .sl] s fun x4 s =>
zSt x4 x3 6 s fun _ s =>
fa1 x4 5 fun x6 =>
ldA x6 take1 s fun x7 s =>
vIaS x7 (ci 0) 10 fun x8 =>
fa1 x8 5 fun x9 =>
zSt x9 (ci 1) 1 s fun _ s =>
c (.mk .d0 .d4 .d1 .d7) [] s fun x11 s =>
gH x11 true (ldA x1 (takeN 6)) s fun x12 s =>
gH x11 true (c (.mk .d0 .d0 .d6 .d1) [x12]) s fun x13 s =>
vPick x11 x13 cf fun x14 =>
gV x14 true (vBld [.str [], .str [], .bool false, .nil .sl, .nil .sl, .nil .sl] (eCons 0 1 (.str [65, 98]) eNil)) fun x15 =>
gH x14 true (c (.mk .d0 .d0 .d6 .d1) [x15]) s fun x16 s =>
gV x14 true (vGen (.un .not (.c x16))) fun x17 =>
vPick x14 x17 cf fun x18 =>
gH x18 true (ldA x1 (takeN 6)) s fun x19 s =>
gH x18 true (ldA x1 (takeN 6)) s fun x20 s =>
gH x18 true (c (.mk .d0 .d4 .d2 .d0) [x19, x20]) s fun x21 s =>
vPick x18 x21 cf fun x22 =>
gH x22 true (ldA x1 (takeN 6)) s fun x23 s =>
gH x22 true (ldA x4 (takeN 6)) s fun x24 s =>
gH x22 true (c (.mk .d0 .d4 .d2 .d0) [x23, x24]) s fun x25 s =>
gV x22 true (vGen (.un .not (.c x25))) fun x26 =>
vPick x22 x26 cf fun x27 =>
gH x27 true (ldA x1 (takeN 6)) s fun x28 s =>
gH x27 true (c (.mk .d0 .d0 .d4 .d4) [x28, (.str [109, 97, 105, 110])]) s fun x29 s =>
gV x27 true (bEqF x29 (ci 0)) fun x30 =>
vPick x27 x30 cf fun x31 =>
gH x31 true (ldA x1 (takeN 6)) s fun x32 s =>
gH x31 true (c (.mk .d0 .d0 .d4 .d4) [x32, (.str [120])]) s fun x33 s =>
gV x31 true (bEqF x33 (.int .i64 (-1))) fun x34 =>
vPick x31 x34 cf fun x35 =>
gH x35 true (ldA x1 (takeN 6)) s fun x36 s =>
gH x35 true (c (.mk .d0 .d1 .d2 .d1) [x36, (.str [120])]) s fun x37 s =>
gV x35 true (bEqF x37 (ci 0)) fun x38 =>
vPick x35 x38 cf fun x39 =>
gH x39 true (ldA x1 (takeN 6)) s fun x40 s =>
gH x39 true (c (.mk .d0 .d1 .d2 .d1) [x40, (.str [109, 97, 105, 110])]) s fun x41 s =>
gV x39 true (bEqF x41 (.int .i64 (-1))) fun x42 =>
vPick x39 x42 cf fun x43 =>
K x43 s)
def F253 : F2 := .pur H253 true mNo
theorem fe253 : feE Tryz.prog ann 253 0 [] = some F253 := by kernel_rfl
end
end Go.Proofs.SlimCode
