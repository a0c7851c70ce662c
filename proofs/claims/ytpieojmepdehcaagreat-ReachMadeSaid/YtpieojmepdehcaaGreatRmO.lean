/- ReachMade: the remainder is asked from outside. -/
import Derived.Test.YtpieojmepdehcaaGreatErRunC
import Derived.Test.YtpieojmepdehcaaGreatAbsXd
open Go Go.Abs
namespace Go.Proofs.SlimCode
set_option maxRecDepth 100000
noncomputable section
def H3o (o0 : OA) : F2C := fun c k v s K =>
pop v fun x0 v =>
pop v fun x1 v =>
endE v (
c (.mk .d0 .d0 .d0 .d7) [] s fun x2 s =>
vGen (.un .not (.c x2)) fun x3 =>
cnd x3 (none)
(zHbs [] 6 0 eNil s fun x4 s =>
zBsl [.str [], .str [], .str []] 1 3 (eCons 0 1 (.str [65, 97]) (eCons 1 1 (.str [66, 98]) (eCons 2 1 (.str [67, 99]) eNil))) s fun x5 s =>
o0 [x1, (ci 3), (ci 21)] s fun x6 s =>
bAdd x6 (ci 3) fun x7 =>
c .rem [x7, (ci 3), (ci 23)] s fun x8 s =>
jn (fun v s =>
pop v fun x10 v =>
pop v fun x11 v =>
pop v fun x12 _ =>
vBld [.int .i64 0, .int .i64 0, .str [], .str []] (eCons 0 1 (ci 2) eNil) fun x13 =>
vIaS x5 x8 1 fun x14 =>
ldA x14 take1 s fun x15 s =>
vBld [.int .i64 0, .int .i64 0, .str [], .str []] (eCons 0 1 (ci 43) (eCons 2 1 x15 (eCons 3 1 (.str [102]) eNil))) fun x16 =>
vBld [.int .i64 0, .int .i64 0, .str [], .str []] (eCons 0 1 (ci 46) eNil) fun x17 =>
zBsl [.int .i64 0, .int .i64 0, .str [], .str [], .int .i64 0, .int .i64 0, .str [], .str [], .int .i64 0, .int .i64 0, .str [], .str []] 4 3 (eCons 0 4 x13 (eCons 4 4 x16 (eCons 8 4 x17 eNil))) s fun x18 s =>
appB 4 48 x11 x18 s fun x19 s =>
vBld [.str [], .nil .sl, .str [], .bool false, .bool false, .int .i64 0, .int .i64 0, .nil .sl, .nil .sl, .nil .sl] (eCons 0 1 (.str [109, 97, 105, 110]) (eCons 2 1 (.str [86]) (eCons 3 1 ct (eCons 6 1 (ci 1) (eCons 7 1 x19 eNil))))) fun x20 =>
zHbs [.str [], .nil .sl, .str [], .bool false, .bool false, .int .i64 0, .int .i64 0, .nil .sl, .nil .sl, .nil .sl] 10 1 (eCons 0 10 x20 eNil) s fun x21 s =>
vBld [.str [], .str [], .bool false, .nil .sl, .nil .sl, .nil .sl] (eCons 0 1 (.str [77, 97, 105, 110]) (eCons 1 1 (.str [79, 98, 106, 101, 99, 116]) (eCons 5 1 x21 eNil))) fun x22 =>
zBsl [.str [], .str [], .bool false, .nil .sl, .nil .sl, .nil .sl] 6 1 (eCons 0 6 x22 eNil) s fun x23 s =>
appB 6 112 x12 x23 s fun x24 s =>
vBld [.str [], .str []] (eCons 0 1 (.str [77, 97, 105, 110]) (eCons 1 1 (.str [109, 97, 105, 110]) eNil)) fun x25 =>
boxD false [.str [], .str []] s fun x26 s =>
zSt x26 x25 2 s fun _ s =>
ldA x26 (takeN 2) s fun x28 s =>
c (.mk .d0 .d0 .d1 .d0) [x24, x28] s fun x29 s =>
vExt x29 0 fun x30 =>
vExt x29 1 fun x31 =>
bEqT x31 (ci 0) fun x32 =>
cnd x32 (none)
(ldA x26 (takeN 2) s fun x33 s =>
c (.mk .d0 .d0 .d1 .d2) [x30, x33] s fun x34 s =>
c (.mk .d0 .d0 .d1 .d3) [x34] s fun x35 s =>
zBsl [.str []] 1 1 (eCons 0 1 (.str [77, 97, 105, 110, 46, 109, 97, 105, 110]) eNil) s fun x36 s =>
appB 1 16 x10 x36 s fun x37 s =>
c (.mk .d0 .d0 .d1 .d1) [x35, x37] s fun x38 s =>
K x38 s)) fun K9 =>
loopE k (fun K39 v s =>
pop v fun x40 v =>
pop v fun x41 v =>
pop v fun x42 v =>
pop v fun x43 _ =>
bLt x40 (ci 3) fun x44 =>
cnd x44 (jn (fun v s =>
pop v fun x46 v =>
pop v fun x47 v =>
pop v fun x48 _ =>
bAdd x40 (ci 1) fun x49 =>
K39 [x49, x46, x47, x48] s) fun K45 =>
vIaS x5 x40 1 fun x50 =>
ldA x50 take1 s fun x51 s =>
vBld [.int .i64 0, .int .i64 0, .str [], .str []] (eCons 0 1 (ci 46) eNil) fun x52 =>
zHbs [.int .i64 0, .int .i64 0, .str [], .str []] 4 1 (eCons 0 4 x52 eNil) s fun x53 s =>
vBld [.str [], .nil .sl, .str [], .bool false, .bool false, .int .i64 0, .int .i64 0, .nil .sl, .nil .sl, .nil .sl] (eCons 0 1 (.str [102]) (eCons 2 1 (.str [86]) (eCons 5 1 (ci 1) (eCons 7 1 x53 eNil)))) fun x54 =>
zHbs [.str [], .nil .sl, .str [], .bool false, .bool false, .int .i64 0, .int .i64 0, .nil .sl, .nil .sl, .nil .sl] 10 1 (eCons 0 10 x54 eNil) s fun x55 s =>
vBld [.str [], .str [], .bool false, .nil .sl, .nil .sl, .nil .sl] (eCons 0 1 x51 (eCons 1 1 (.str [79, 98, 106, 101, 99, 116]) (eCons 5 1 x55 eNil))) fun x56 =>
boxD false [.str [], .str [], .bool false, .nil .sl, .nil .sl, .nil .sl] s fun x57 s =>
zSt x57 x56 6 s fun _ s =>
bGt x40 (ci 0) fun x59 =>
jn (fun _ s =>
ldA x57 (takeN 6) s fun x61 s =>
zBsl [.str [], .str [], .bool false, .nil .sl, .nil .sl, .nil .sl] 6 1 (eCons 0 6 x61 eNil) s fun x62 s =>
appB 6 112 x43 x62 s fun x63 s =>
vLenS x0 fun x64 =>
bLt x40 x64 fun x65 =>
gK x65 true x0 fun x66 =>
gK x65 true x40 fun x67 =>
gV x65 true (vIaS x66 x67 1) fun x68 =>
gH x65 true (ldA x68 take1) s fun x69 s =>
vPick x65 x69 cf fun x70 =>
jn (fun v s =>
pop v fun x72 v =>
pop v fun x73 _ =>
K45 [x73, x72, x63] s) fun K71 =>
cnd x70 (vIaS x5 x40 1 fun x74 =>
ldA x74 take1 s fun x75 s =>
vBld [.int .i64 0, .int .i64 0, .str [], .str []] (eCons 0 1 (ci 37) (eCons 2 1 x75 eNil)) fun x76 =>
vBld [.int .i64 0, .int .i64 0, .str [], .str []] (eCons 0 1 (ci 5) eNil) fun x77 =>
zBsl [.int .i64 0, .int .i64 0, .str [], .str [], .int .i64 0, .int .i64 0, .str [], .str []] 4 2 (eCons 0 4 x76 (eCons 4 4 x77 eNil)) s fun x78 s =>
appB 4 48 x42 x78 s fun x79 s =>
bGe x40 x8 fun x80 =>
jn (fun v s =>
pop v fun x82 _ =>
K71 [x79, x82] s) fun K81 =>
cnd x80 (vIaS x5 x40 1 fun x83 =>
ldA x83 take1 s fun x84 s =>
bAdd x84 (.str [46, 102]) fun x85 =>
zBsl [.str []] 1 1 (eCons 0 1 x85 eNil) s fun x86 s =>
appB 1 16 x41 x86 s fun x87 s =>
K81 [x87] s)
(K81 [x41] s))
(K71 [x42, x41] s)) fun K60 =>
cnd x59 (bSub x40 (ci 1) fun x88 =>
vIaS x5 x88 1 fun x89 =>
ldA x89 take1 s fun x90 s =>
fa1 x57 1 fun x91 =>
zSt x91 x90 1 s fun _ s =>
K60 [] s)
(K60 [] s))
(K9 [x41, x42, x43] s)) [(ci 0), (.nil .sl), (.nil .sl), x4] s))
theorem h3o (T : List AV → Bool) (v : AV) (c : CL) (k : Nat) (vs : List AV) (s : HS) (K : AV → HS → RT) : H3 (orR 21 (orP T v) c) k vs s K = H3o (orP T v) c k vs s K := by kernel_rfl
def W (T : List AV → Bool) (v : AV) (vs : List AV) : RT := withE (H3o (orP T v)) true (callE (tb 17) 5000) 5000 vs hs0 fun v _ => some v
def q1 (a : Bool) : RT := Bool.rec (motive := fun _ => RT) none (some (.bool true)) a
end
end Go.Proofs.SlimCode
