/- EffectWorld: the two remainders are asked from outside. -/
import Derived.Test.YtinkmbejinemaaaGreatEwRunB
import Derived.Test.YtinkmbejinemaaaGreatAbsXd
open Go Go.Abs
namespace Go.Proofs.SlimCode
set_option maxRecDepth 100000
noncomputable section
def H5o (o0 o1 : OA) : F2C := fun c k v s K =>
pop v fun x0 v =>
pop v fun x1 v =>
pop v fun x2 v =>
endE v (
c (.mk .d0 .d0 .d1 .d3) [] s fun x3 s =>
vGen (.un .not (.c x3)) fun x4 =>
cnd x4 (none)
(vBld [.int .i64 0, .int .i64 0, .str [], .str []] (eCons 0 1 (ci 59) eNil) fun x5 =>
vBld [.int .i64 0, .int .i64 0, .str [], .str []] (eCons 0 1 (ci 1) (eCons 1 1 (ci 1) eNil)) fun x6 =>
vBld [.int .i64 0, .int .i64 0, .str [], .str []] (eCons 0 1 (ci 1) (eCons 1 1 (ci 2) eNil)) fun x7 =>
zBsl [.int .i64 0, .int .i64 0, .str [], .str [], .int .i64 0, .int .i64 0, .str [], .str [], .int .i64 0, .int .i64 0, .str [], .str []] 4 3 (eCons 0 4 x5 (eCons 4 4 x6 (eCons 8 4 x7 eNil))) s fun x8 s =>
zBsl [.int .i64 0, .int .i64 0, .int .i64 0] 1 3 (eCons 0 1 (ci 5) (eCons 1 1 (ci 60) (eCons 2 1 (ci 61) eNil))) s fun x9 s =>
o0 [x1, (ci 3), (ci 29)] s fun x10 s =>
bAdd x10 (ci 3) fun x11 =>
c .rem [x11, (ci 3), (ci 31)] s fun x12 s =>
o1 [x0, (ci 6), (ci 33)] s fun x13 s =>
bAdd x13 (ci 6) fun x14 =>
c .rem [x14, (ci 6), (ci 35)] s fun x15 s =>
bAdd (ci 1) x15 fun x16 =>
vBld [.str [], .str [], .bool false, .nil .sl, .nil .sl, .nil .sl] (eCons 0 1 (.str [65, 97]) (eCons 1 1 (.str [79, 98, 106, 101, 99, 116]) eNil)) fun x17 =>
boxD false [.str [], .str [], .bool false, .nil .sl, .nil .sl, .nil .sl] s fun x18 s =>
zSt x18 x17 6 s fun _ s =>
jn (fun _ s =>
vBld [.int .i64 0, .int .i64 0, .str [], .str []] (eCons 0 1 (ci 46) eNil) fun x21 =>
zHbs [.int .i64 0, .int .i64 0, .str [], .str []] 4 1 (eCons 0 4 x21 eNil) s fun x22 s =>
vBld [.str [], .nil .sl, .str [], .bool false, .bool false, .int .i64 0, .int .i64 0, .nil .sl, .nil .sl, .nil .sl] (eCons 0 1 (.str [36, 105, 110, 105, 116]) (eCons 2 1 (.str [86]) (eCons 3 1 ct (eCons 7 1 x22 eNil)))) fun x23 =>
boxD false [.str [], .nil .sl, .str [], .bool false, .bool false, .int .i64 0, .int .i64 0, .nil .sl, .nil .sl, .nil .sl] s fun x24 s =>
zSt x24 x23 10 s fun _ s =>
jn (fun _ s =>
fa1 x18 5 fun x27 =>
ldA x27 take1 s fun x28 s =>
ldA x24 (takeN 10) s fun x29 s =>
zBsl [.str [], .nil .sl, .str [], .bool false, .bool false, .int .i64 0, .int .i64 0, .nil .sl, .nil .sl, .nil .sl] 10 1 (eCons 0 10 x29 eNil) s fun x30 s =>
appB 10 152 x28 x30 s fun x31 s =>
fa1 x18 5 fun x32 =>
zSt x32 x31 1 s fun _ s =>
ldA x18 (takeN 6) s fun x34 s =>
zBsl [.str [], .str [], .bool false, .nil .sl, .nil .sl, .nil .sl] 6 1 (eCons 0 6 x34 eNil) s fun x35 s =>
vBld [.str [], .str []] (eCons 0 1 (.str [65, 97]) (eCons 1 1 (.str [109, 48]) eNil)) fun x36 =>
c (.mk .d0 .d0 .d1 .d4) [x35, x36] s fun x37 s =>
vExt x37 0 fun x38 =>
vExt x37 1 fun x39 =>
bEqT x39 (ci 0) fun x40 =>
cnd x40 (none)
(c (.mk .d0 .d0 .d1 .d6) [x38, (.str [65, 97])] s fun x41 s =>
vExt x41 0 fun x42 =>
vExt x41 1 fun _ =>
vExt x41 2 fun _ =>
vBeq false x42 x2 fun x45 =>
gK x45 true x38 fun x46 =>
gH x45 true (c (.mk .d0 .d0 .d1 .d5) [x46]) s fun x47 s =>
gV x45 true (vLenS x47) fun x48 =>
gV x45 true (bEqF x48 (ci 11)) fun x49 =>
gK x45 true x2 fun x50 =>
gV x45 true (vGen (.un .not (.c x50))) fun x51 =>
gV x45 true (vBeq false x49 x51) fun x52 =>
vPick x45 x52 cf fun x53 =>
K x53 s)) fun K26 =>
cnd x2 (vBld [.int .i64 0, .int .i64 0, .str [], .str []] (eCons 0 1 (ci 42) (eCons 2 1 (.str [65, 97]) (eCons 3 1 (.str [109, 48]) eNil))) fun x54 =>
vBld [.int .i64 0, .int .i64 0, .str [], .str []] (eCons 0 1 (ci 46) eNil) fun x55 =>
zHbs [.int .i64 0, .int .i64 0, .str [], .str [], .int .i64 0, .int .i64 0, .str [], .str []] 4 2 (eCons 0 4 x54 (eCons 4 4 x55 eNil)) s fun x56 s =>
fa1 x24 7 fun x57 =>
zSt x57 x56 1 s fun _ s =>
K26 [] s)
(K26 [] s)) fun K20 =>
loopE k (fun K59 v s =>
pop v fun x60 _ =>
bLt x60 x16 fun x61 =>
cnd x61 (jn (fun _ s =>
bAdd x60 (ci 1) fun x63 =>
K59 [x63] s) fun K62 =>
bAdd (ci 48) x60 fun x64 =>
vCv .u8 x64 fun x65 =>
zHbs [.int .u8 0, .int .u8 0] 1 2 (eCons 0 1 (cu 109) (eCons 1 1 x65 eNil)) s fun x66 s =>
b2sA x66 s fun x67 s =>
vBld [.int .i64 0, .int .i64 0, .str [], .str []] (eCons 0 1 (ci 46) eNil) fun x68 =>
zHbs [.int .i64 0, .int .i64 0, .str [], .str []] 4 1 (eCons 0 4 x68 eNil) s fun x69 s =>
vBld [.str [], .nil .sl, .str [], .bool false, .bool false, .int .i64 0, .int .i64 0, .nil .sl, .nil .sl, .nil .sl] (eCons 0 1 x67 (eCons 2 1 (.str [86]) (eCons 3 1 ct (eCons 6 1 (ci 1) (eCons 7 1 x69 eNil))))) fun x70 =>
boxD false [.str [], .nil .sl, .str [], .bool false, .bool false, .int .i64 0, .int .i64 0, .nil .sl, .nil .sl, .nil .sl] s fun x71 s =>
zSt x71 x70 10 s fun _ s =>
bAdd x60 (ci 1) fun x73 =>
bLt x73 x16 fun x74 =>
jn (fun _ s =>
fa1 x18 5 fun x76 =>
ldA x76 take1 s fun x77 s =>
ldA x71 (takeN 10) s fun x78 s =>
zBsl [.str [], .nil .sl, .str [], .bool false, .bool false, .int .i64 0, .int .i64 0, .nil .sl, .nil .sl, .nil .sl] 10 1 (eCons 0 10 x78 eNil) s fun x79 s =>
appB 10 152 x77 x79 s fun x80 s =>
fa1 x18 5 fun x81 =>
zSt x81 x80 1 s fun _ s =>
K62 [] s) fun K75 =>
cnd x74 (bAdd (ci 48) x60 fun x83 =>
bAdd x83 (ci 1) fun x84 =>
vCv .u8 x84 fun x85 =>
zHbs [.int .u8 0, .int .u8 0] 1 2 (eCons 0 1 (cu 109) (eCons 1 1 x85 eNil)) s fun x86 s =>
b2sA x86 s fun x87 s =>
vBld [.int .i64 0, .int .i64 0, .str [], .str []] (eCons 0 1 (ci 42) (eCons 2 1 (.str [65, 97]) (eCons 3 1 x87 eNil))) fun x88 =>
vBld [.int .i64 0, .int .i64 0, .str [], .str []] (eCons 0 1 (ci 46) eNil) fun x89 =>
zHbs [.int .i64 0, .int .i64 0, .str [], .str [], .int .i64 0, .int .i64 0, .str [], .str []] 4 2 (eCons 0 4 x88 (eCons 4 4 x89 eNil)) s fun x90 s =>
fa1 x71 7 fun x91 =>
zSt x91 x90 1 s fun _ s =>
K75 [] s)
(lgE qNoE (zK x8) s fun x93 e94 s =>
lgE qNoE (zK x12) s fun x95 e96 s =>
lgE qNoE (zV (vIaS x93 x95 4)) s fun x97 e98 s =>
lgE (qLdE x97 4) (ldA x97 (takeN 4)) s fun x99 e100 s =>
lgE qNoE (zK x9) s fun x101 e102 s =>
lgE qNoE (zK x12) s fun x103 e104 s =>
lgE qNoE (zV (vIaS x101 x103 1)) s fun x105 e106 s =>
lgE (qLdE x105 1) (ldA x105 take1) s fun x107 e108 s =>
lgE qNoE (zV (vBld [.int .i64 0, .int .i64 0, .str [], .str []] (eCons 0 1 x107 eNil))) s fun x109 e110 s =>
lgE qNoE (zHbs [.int .i64 0, .int .i64 0, .str [], .str [], .int .i64 0, .int .i64 0, .str [], .str []] 4 2 (eCons 0 4 x99 (eCons 4 4 x109 eNil))) s fun x111 e112 s =>
lgE qNoE (zV (fa1 x71 7)) s fun x113 e114 s =>
lgE qNoE (zSt x113 x111 1) s fun _ e116 s =>
calmE [(3, 7), (3, 8)] [e94, e96, e98, e100, e102, e104, e106, e108, e110, e112, e114, e116] (fun s =>
vIaS x9 x12 1 fun x117 =>
ldA x117 take1 s fun x118 s =>
bEqT x118 (ci 61) fun x119 =>
jn (fun _ s =>
K75 [] s) fun K120 =>
cnd x119 (fa1 x71 7 fun x121 =>
ldA x121 take1 s fun x122 s =>
vBld [.int .i64 0, .int .i64 0, .str [], .str []] (eCons 0 1 (ci 46) eNil) fun x123 =>
zBsl [.int .i64 0, .int .i64 0, .str [], .str []] 4 1 (eCons 0 4 x123 eNil) s fun x124 s =>
appB 4 48 x122 x124 s fun x125 s =>
fa1 x71 7 fun x126 =>
zSt x126 x125 1 s fun _ s =>
K120 [] s)
(K120 [] s)) s))
(K20 [] s)) [(ci 0)] s))
theorem h5o (T0 T1 : List AV → Bool) (v0 v1 : AV) (c : CL) (k : Nat) (vs : List AV) (s : HS) (K : AV → HS → RT) : H5 (orR 29 (orP T0 v0) (orR 33 (orP T1 v1) c)) k vs s K = H5o (orP T0 v0) (orP T1 v1) c k vs s K := by kernel_rfl
def W (T0 T1 : List AV → Bool) (v0 v1 : AV) (vs : List AV) : RT := withE (H5o (orP T0 v0) (orP T1 v1)) true (callE (tb 12) 5000) 5000 vs hs0 fun v _ => some v
def q2 (a b : Bool) : RT := Bool.rec (motive := fun _ => RT) none (Bool.rec (motive := fun _ => RT) none (some (.bool true)) b) a
end
end Go.Proofs.SlimCode
