/- What is asked in VmReads. -/
import Derived.Test.YtpkplkccncfkgaaGreatVhRunB
import Derived.Test.YtpkplkccncfkgaaGreatAbsXe
open Go Go.Abs
namespace Go.Proofs.SlimCode
set_option maxRecDepth 100000
noncomputable section
abbrev e (x : Int) : List AV := [.int .i32 x, .int .i32 x, ci 45, ci 12]
abbrev qs (c : Int) (n : Nat) (l : List Int) : List (List AV) := [ci 1, ci 1, ci 7, ci 12] :: [.int .i32 c, .int .i32 c, ci 13, ci 12] :: [.str [], .str [], ci 20, ci 12] :: [ci n, ci n, ci 28, ci 12] :: l.map e
abbrev go (E : List AV → Bool) (v n : AV) : RT := runAsk (askN 12 (orP E (.bool false)) askD) 5000 (tb 17) 3 [v, n]
def H3m (h : AV → VK) : F2C := fun c k v s K =>
pop v fun x0 v =>
pop v fun x1 v =>
endE v (
c (.mk .d0 .d0 .d0 .d5) [] s fun x2 s =>
vGen (.un .not (.c x2)) fun x3 =>
cnd x3 (none)
(vLenS x0 fun x4 =>
h x4 fun x5 =>
vSlt x0 eN (eX x5) 1 fun x6 =>
bLt x1 (ci 0) fun x7 =>
gK x7 false x1 fun x8 =>
gV x7 false (bGt x8 (ci 10)) fun x9 =>
vPick x7 ct x9 fun x10 =>
cnd x10 (K ct s)
(jn (fun v s =>
pop v fun x12 v =>
pop v fun x13 _ =>
vBld [.int .i64 0, .int .i64 0, .int .i64 0, .int .i64 0] (eCons 0 1 (ci 59) eNil) fun x14 =>
vBld [.int .i64 0, .int .i64 0, .int .i64 0, .int .i64 0] (eCons 0 1 (ci 61) eNil) fun x15 =>
zBsl [.int .i64 0, .int .i64 0, .int .i64 0, .int .i64 0, .int .i64 0, .int .i64 0, .int .i64 0, .int .i64 0] 4 2 (eCons 0 4 x14 (eCons 4 4 x15 eNil)) s fun x16 s =>
appB 4 32 x13 x16 s fun x17 s =>
vLenS x6 fun x18 =>
bLt x1 x18 fun x19 =>
jn (fun v s =>
pop v fun x21 _ =>
c (.mk .d0 .d0 .d0 .d7) [x17] s fun x22 s =>
c (.mk .d0 .d0 .d0 .d6) [x22, (ci 3), x6, (ci 50), (ci 1000)] s fun x23 s =>
vExt x23 0 fun x24 =>
vExt x23 1 fun x25 =>
vExt x23 2 fun x26 =>
boxD false [.nil .sl, .int .i64 0, .int .i32 0, .str []] s fun x27 s =>
zSt x27 x24 4 s fun _ s =>
gH x26 true (ldA x27 (takeN 4)) s fun x29 s =>
gK x26 true x12 fun x30 =>
gK x26 true x21 fun x31 =>
gV x26 true (vBld [.nil .sl, .int .i64 0, .int .i32 0, .str []] (eCons 0 1 x30 (eCons 1 1 (ci 1) (eCons 2 1 x31 eNil)))) fun x32 =>
gH x26 true (c (.mk .d0 .d0 .d1 .d0) [x29, x32]) s fun x33 s =>
vPick x26 x33 cf fun x34 =>
gK x34 true x25 fun x35 =>
gH x34 true (c (.mk .d0 .d0 .d1 .d1) [x35]) s fun x36 s =>
gK x34 true x1 fun x37 =>
gV x34 true (bMul (ci 2) x37) fun x38 =>
gV x34 true (bAdd x38 (ci 2)) fun x39 =>
gV x34 true (bEqF x36 x39) fun x40 =>
vPick x34 x40 cf fun x41 =>
K x41 s) fun K20 =>
cnd x19 (vIaS x6 x1 1 fun x42 =>
ldA x42 take1 s fun x43 s =>
K20 [x43] s)
(K20 [(.int .i32 (-1))] s)) fun K11 =>
loopE k (fun K44 v s =>
pop v fun x45 v =>
pop v fun x46 v =>
pop v fun x47 _ =>
bLt x45 x1 fun x48 =>
cnd x48 (jn (fun v s =>
pop v fun x50 v =>
pop v fun x51 _ =>
bAdd x45 (ci 1) fun x52 =>
K44 [x52, x50, x51] s) fun K49 =>
vBld [.int .i64 0, .int .i64 0, .int .i64 0, .int .i64 0] (eCons 0 1 (ci 59) eNil) fun x53 =>
vBld [.int .i64 0, .int .i64 0, .int .i64 0, .int .i64 0] (eCons 0 1 (ci 60) eNil) fun x54 =>
zBsl [.int .i64 0, .int .i64 0, .int .i64 0, .int .i64 0, .int .i64 0, .int .i64 0, .int .i64 0, .int .i64 0] 4 2 (eCons 0 4 x53 (eCons 4 4 x54 eNil)) s fun x55 s =>
appB 4 32 x47 x55 s fun x56 s =>
vLenS x6 fun x57 =>
bLt x45 x57 fun x58 =>
jn (fun v s =>
pop v fun x60 _ =>
K49 [x60, x56] s) fun K59 =>
cnd x58 (vIaS x6 x45 1 fun x61 =>
ldA x61 take1 s fun x62 s =>
zBsl [.int .i32 0] 1 1 (eCons 0 1 x62 eNil) s fun x63 s =>
appB 1 4 x46 x63 s fun x64 s =>
K59 [x64] s)
(zBsl [.int .i32 0] 1 1 (eCons 0 1 (.int .i32 (-1)) eNil) s fun x65 s =>
appB 1 4 x46 x65 s fun x66 s =>
K59 [x66] s))
(K11 [x46, x47] s)) [(ci 0), (.nil .sl), (.nil .sl)] s)))

def W21 (E : List AV → Bool) (h : AV → VK) (vs : List AV) : RT := withE (H3m h) true (callAsk (askN 12 (orP E (.bool false)) askD) (tb 17) 4999) 4999 vs hs0 fun v _ => some v
def hmin : AV → VK := fun a => vGen (.mnx false [(.c a), (.c (ci 20))])
def h20 : AV → VK := fun _ K => K (ci 20)
end
end Go.Proofs.SlimCode
