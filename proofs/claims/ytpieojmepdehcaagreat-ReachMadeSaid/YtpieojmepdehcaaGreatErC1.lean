/- Code for the evaluator, part 1. -/
import Derived.Test.YtpieojmepdehcaaGreatChecked
import Derived.Test.YtpieojmepdehcaaGreatAbsXc
import Derived.KernelRfl
open Go Go.Abs
namespace Go.Proofs.SlimCode
set_option maxRecDepth 100000
noncomputable section
def roL : List (List Nat) := [[], [], [], [20, 48, 67, 78, 88, 95, 111], [47, 52], [], [53], [25, 37, 43], [3], [], [3], [26], [], [], [], [], [], [], [], [2, 3], [], [], [], [], [], [74], [], [3], [], [], [], [], [], [], [], [], [79], [], [], [119, 152], [52, 62], [], [], [], [], [2], [], [], [], [73], [], [], [], [], [], [], [], [], [], [], [], [], [], [], [], [], [], [], [], [13, 27], [], [], [32], [], [], [], [], [], [], [], [16, 23], [], [], [1], [], [], [3, 57], [20], [3], [3], [39], [], [11], [1], [], [], [], [], [], [], [], [43], [3, 20, 28, 39, 45], [], [], [], [], [], [], [3], [], [], [2], [3], [], [32, 90], [], [], [5, 32], [5], [5, 18, 24, 40, 78], [5, 16], [5, 29], [5, 39], [5], [5, 44], [5], [5], [5], [5], [5], [5, 41], [5, 29], [5, 39], [5], [5, 46, 54], [5], [5, 30], [5, 17], [5], [], [], [], [], [7, 35], [], [], [], [35], [], [], [54], [23], [20], [], [], [], [], [65, 70], [], [], [], [], [], [], [], [], [], [], [1], [1], [], [], [], [1], [2], [1], [], [], [], [], [], [], [], [2], [], [3], [], [2], [], [3], [3], [2], [2, 3], [35, 50], [2], [3], [], [], [], [], [], [3], [], [10], [], [3, 75, 88, 68], [3, 66], [43, 18], [3, 20, 42, 68, 75, 80, 13], [3, 35, 7], [], [5], [5], [], [], [], [2], [], [3, 18], [], [], [], [], [46, 57], [], [], [], [], [], [7], [], [], [], [], [], [], [5], [], [], [1], [5], [7], [5], [], [], [], [4, 5], [], [45], [59], [], [26], [35], [], [], [], [], [], [], [], [], [3], [], [], [], [3], [], [], [1], [], [1], [1], [1], [], [], [], [], [], [], [], [], [], [2], [], [2], [], [], [], [], [], [], [2], [3], [1], [], [], [], [], [13, 25, 29, 37], [], [], [25], [4], [], [], [], [], [], [], [], [2], [1], [], [2], [], [], [1], [], [2], [], [], [], [], [57, 58, 64], [], [], [], [], [], [], [], [], [], [], [], [], [], [], [], [], [13, 49, 55], [], [], [], [], [], [], [], [], [], [], [], [], [], [], [], [], [], [], [1], [], [], [2, 3], [], [], [24], [], [], [], [3], [], [3], [19, 26], [], [], [23], [], [], [], [23], [], [23], [], [], [], [2, 3], [], [], [3], [], [3], [], [3], [], [], [], [23], [], [23], [], [23], [], [], [2, 3], [2, 3], [], [18, 19, 30], [], [], [2, 3], [3], [], [], [], [2, 3], [], [], [], [], [], [], [], [], [], [], [], [], [], [], [], [], [], [], [], [], [], [], [], [], [], [], [], [], [], [10], []]
def escL : List (List Nat) := [[], [], [], [], [], [], [], [], [], [], [], [], [], [], [16], [57], [], [32], [], [], [], [], [], [], [], [3, 6], [], [], [], [], [], [], [], [], [], [], [21], [], [], [3], [20], [], [], [], [], [], [], [], [], [14], [7], [], [], [], [35], [], [], [], [], [], [], [], [], [24], [], [], [], [], [3], [], [], [], [], [], [], [], [], [], [], [], [], [], [], [], [], [], [], [], [2], [], [], [], [], [], [], [], [], [], [], [], [], [], [], [], [], [], [3], [], [], [], [], [], [], [], [], [], [], [], [], [], [], [], [], [], [], [], [], [], [], [], [], [], [], [], [], [], [], [], [], [], [], [], [], [], [34], [], [], [], [], [], [], [], [], [], [], [], [], [], [], [], [], [], [], [], [], [], [], [], [], [], [], [], [], [], [], [], [], [], [], [], [], [], [], [], [], [], [], [], [], [], [], [], [], [], [], [], [], [], [], [], [], [], [], [], [], [], [], [], [], [], [], [], [], [], [], [], [], [], [], [], [], [], [], [], [], [], [], [], [], [], [], [], [], [], [], [], [], [], [], [], [], [], [], [], [], [], [], [], [], [], [], [], [], [], [], [], [], [], [], [], [], [], [], [], [], [], [], [], [], [], [], [], [], [], [], [], [], [], [], [], [], [], [], [], [], [], [], [], [], [], [], [], [], [], [], [], [], [], [], [], [], [], [], [], [], [], [], [], [], [], [], [], [], [], [], [], [], [], [], [], [], [], [], [], [], [], [], [], [], [], [], [], [], [], [], [], [], [], [], [], [], [], [], [], [], [], [], [], [], [], [], [], [], [], [], [], [], [], [], [], [], [], [], [], [], [], [], [], [], [], [], [], [], [], [], [], [], [], [], [], [], [], [], [], [], [], [], [], [], [], [], [], [], [], [], [], [], [], [], [], [], [], [], [], [], [], [], [], [], [], [], [], [], [], [], [], [], [], [], [], [], [], [], [], [], [], [], [], [], [], [], [], [], [], [], [], [], [], [], [], [], [], [], [], [], [], []]
def inL (l : List (List Nat)) (f d : Nat) : Bool := (l.getD f []).contains d
def purL : List Nat := [7, 12, 26, 32, 33, 46, 47, 48, 70, 71, 77, 78, 114, 115, 116, 158, 165, 227, 231, 232, 256, 261, 296, 298, 299, 307, 320, 324, 341, 352, 355, 362, 385, 403, 407, 413, 424]
def extL : List (Nat × EK) := [(254, .clone), (364, .idx)]
def gl (_ : Nat) : List AV := []
def ann : Ann := { esc := inL escL, fz := fun _ => false, ro := inL roL, still := fun _ => true, pure := fun f => purL.contains f, glob := fun _ => none, ext := extL }
/- daguerre/daguerrelaw19.ReachMade -/
def H3 : F2C := fun c k v s K =>
pop v fun x0 v =>
pop v fun x1 v =>
endE v (
c (.mk .d0 .d0 .d0 .d7) [] s fun x2 s =>
vGen (.un .not (.c x2)) fun x3 =>
cnd x3 (none)
(zHbs [] 6 0 eNil s fun x4 s =>
zBsl [.str [], .str [], .str []] 1 3 (eCons 0 1 (.str [65, 97]) (eCons 1 1 (.str [66, 98]) (eCons 2 1 (.str [67, 99]) eNil))) s fun x5 s =>
c .rem [x1, (ci 3), (ci 21)] s fun x6 s =>
bAdd x6 (ci 3) fun x7 =>
c .rem [x7, (ci 3), (ci 23)] s fun x8 s =>
jn (fun v s =>
pop v fun x10 v =>
pop v fun x11 v =>
pop v fun x12 _ =>
vBld [.int .i64 0, .int .i64 0, .str [], .str []] (eCons 0 1 (ci 2) eNil) fun x13 =>
vIaS x5 x8 1 fun x14 =>
ldA x14 take1 s fun x15 s =>
vBld [.int .i64 0, .int .i64 0, .str [], .str []] (eCons 0 1 (ci 43) (eCons 2 1 x15 (eCons 3 1 (.str [102]) eNil))) fun x16 =>
vBld [.int .i64 0, .int .i64 0, .str [], .str []] (eCons 0 1 (ci 46) eNil) fun x17 =>
zBsl [.int .i64 0, .int .i64 0, .str [], .str [], .int .i64 0, .int .i64 0, .str [], .str [], .int .i64 0, .int .i64 0, .str [], .str []] 4 3 (eCons 0 4 x13 (eCons 4 4 x16 (eCons 8 4 x17 eNil))) s fun x18 s =>
appB 4 48 x11 x18 s fun x19 s =>
vBld [.str [], .nil .sl, .str [], .bool false, .bool false, .int .i64 0, .int .i64 0, .nil .sl, .nil .sl, .nil .sl] (eCons 0 1 (.str [109, 97, 105, 110]) (eCons 2 1 (.str [86]) (eCons 3 1 ct (eCons 6 1 (ci 1) (eCons 7 1 x19 eNil))))) fun x20 =>
zHbs [.str [], .nil .sl, .str [], .bool false, .bool false, .int .i64 0, .int .i64 0, .nil .sl, .nil .sl, .nil .sl] 10 1 (eCons 0 10 x20 eNil) s fun x21 s =>
vBld [.str [], .str [], .bool false, .nil .sl, .nil .sl, .nil .sl] (eCons 0 1 (.str [77, 97, 105, 110]) (eCons 1 1 (.str [79, 98, 106, 101, 99, 116]) (eCons 5 1 x21 eNil))) fun x22 =>
zBsl [.str [], .str [], .bool false, .nil .sl, .nil .sl, .nil .sl] 6 1 (eCons 0 6 x22 eNil) s fun x23 s =>
appB 6 112 x12 x23 s fun x24 s =>
vBld [.str [], .str []] (eCons 0 1 (.str [77, 97, 105, 110]) (eCons 1 1 (.str [109, 97, 105, 110]) eNil)) fun x25 =>
boxD false [.str [], .str []] s fun x26 s =>
zSt x26 x25 2 s fun _ s =>
ldA x26 (takeN 2) s fun x28 s =>
c (.mk .d0 .d0 .d1 .d0) [x24, x28] s fun x29 s =>
vExt x29 0 fun x30 =>
vExt x29 1 fun x31 =>
bEqT x31 (ci 0) fun x32 =>
cnd x32 (none)
(ldA x26 (takeN 2) s fun x33 s =>
c (.mk .d0 .d0 .d1 .d2) [x30, x33] s fun x34 s =>
c (.mk .d0 .d0 .d1 .d3) [x34] s fun x35 s =>
zBsl [.str []] 1 1 (eCons 0 1 (.str [77, 97, 105, 110, 46, 109, 97, 105, 110]) eNil) s fun x36 s =>
appB 1 16 x10 x36 s fun x37 s =>
c (.mk .d0 .d0 .d1 .d1) [x35, x37] s fun x38 s =>
K x38 s)) fun K9 =>
loopE k (fun K39 v s =>
pop v fun x40 v =>
pop v fun x41 v =>
pop v fun x42 v =>
pop v fun x43 _ =>
bLt x40 (ci 3) fun x44 =>
cnd x44 (jn (fun v s =>
pop v fun x46 v =>
pop v fun x47 v =>
pop v fun x48 _ =>
bAdd x40 (ci 1) fun x49 =>
K39 [x49, x46, x47, x48] s) fun K45 =>
vIaS x5 x40 1 fun x50 =>
ldA x50 take1 s fun x51 s =>
vBld [.int .i64 0, .int .i64 0, .str [], .str []] (eCons 0 1 (ci 46) eNil) fun x52 =>
zHbs [.int .i64 0, .int .i64 0, .str [], .str []] 4 1 (eCons 0 4 x52 eNil) s fun x53 s =>
vBld [.str [], .nil .sl, .str [], .bool false, .bool false, .int .i64 0, .int .i64 0, .nil .sl, .nil .sl, .nil .sl] (eCons 0 1 (.str [102]) (eCons 2 1 (.str [86]) (eCons 5 1 (ci 1) (eCons 7 1 x53 eNil)))) fun x54 =>
zHbs [.str [], .nil .sl, .str [], .bool false, .bool false, .int .i64 0, .int .i64 0, .nil .sl, .nil .sl, .nil .sl] 10 1 (eCons 0 10 x54 eNil) s fun x55 s =>
vBld [.str [], .str [], .bool false, .nil .sl, .nil .sl, .nil .sl] (eCons 0 1 x51 (eCons 1 1 (.str [79, 98, 106, 101, 99, 116]) (eCons 5 1 x55 eNil))) fun x56 =>
boxD false [.str [], .str [], .bool false, .nil .sl, .nil .sl, .nil .sl] s fun x57 s =>
zSt x57 x56 6 s fun _ s =>
bGt x40 (ci 0) fun x59 =>
jn (fun _ s =>
ldA x57 (takeN 6) s fun x61 s =>
zBsl [.str [], .str [], .bool false, .nil .sl, .nil .sl, .nil .sl] 6 1 (eCons 0 6 x61 eNil) s fun x62 s =>
appB 6 112 x43 x62 s fun x63 s =>
vLenS x0 fun x64 =>
bLt x40 x64 fun x65 =>
gK x65 true x0 fun x66 =>
gK x65 true x40 fun x67 =>
gV x65 true (vIaS x66 x67 1) fun x68 =>
gH x65 true (ldA x68 take1) s fun x69 s =>
vPick x65 x69 cf fun x70 =>
jn (fun v s =>
pop v fun x72 v =>
pop v fun x73 _ =>
K45 [x73, x72, x63] s) fun K71 =>
cnd x70 (vIaS x5 x40 1 fun x74 =>
ldA x74 take1 s fun x75 s =>
vBld [.int .i64 0, .int .i64 0, .str [], .str []] (eCons 0 1 (ci 37) (eCons 2 1 x75 eNil)) fun x76 =>
vBld [.int .i64 0, .int .i64 0, .str [], .str []] (eCons 0 1 (ci 5) eNil) fun x77 =>
zBsl [.int .i64 0, .int .i64 0, .str [], .str [], .int .i64 0, .int .i64 0, .str [], .str []] 4 2 (eCons 0 4 x76 (eCons 4 4 x77 eNil)) s fun x78 s =>
appB 4 48 x42 x78 s fun x79 s =>
bGe x40 x8 fun x80 =>
jn (fun v s =>
pop v fun x82 _ =>
K71 [x79, x82] s) fun K81 =>
cnd x80 (vIaS x5 x40 1 fun x83 =>
ldA x83 take1 s fun x84 s =>
bAdd x84 (.str [46, 102]) fun x85 =>
zBsl [.str []] 1 1 (eCons 0 1 x85 eNil) s fun x86 s =>
appB 1 16 x41 x86 s fun x87 s =>
K81 [x87] s)
(K81 [x41] s))
(K71 [x42, x41] s)) fun K60 =>
cnd x59 (bSub x40 (ci 1) fun x88 =>
vIaS x5 x88 1 fun x89 =>
ldA x89 take1 s fun x90 s =>
fa1 x57 1 fun x91 =>
zSt x91 x90 1 s fun _ s =>
K60 [] s)
(K60 [] s))
(K9 [x41, x42, x43] s)) [(ci 0), (.nil .sl), (.nil .sl), x4] s))
def F3 : F2 := .fn H3 true
theorem fe3 : feE Tryz.prog ann 3 2 [.cl, .j [9, 8, 6], .j [11, 9, 8, 6], .j [], .j [9, 8, 6], .j [], .j [8, 9], .j [9], .cl] = some F3 := by kernel_rfl
/- daguerre/daguerrelaw17.LazyDeep -/
def H4 : F2C := fun c _ v s K =>
pop v fun x0 v =>
endE v (
c (.mk .d0 .d0 .d1 .d4) [] s fun x1 s =>
vGen (.un .not (.c x1)) fun x2 =>
cnd x2 (none)
(bLt x0 (ci 0) fun x3 =>
gK x3 false x0 fun x4 =>
gV x3 false (bGt x4 (ci 80)) fun x5 =>
vPick x3 ct x5 fun x6 =>
cnd x6 (K ct s)
(c (.mk .d0 .d0 .d1 .d5) [(.str [77, 97, 105, 110])] s fun x7 s =>
boxD false [.str [], .str [], .bool false, .nil .sl, .nil .sl, .nil .sl] s fun x8 s =>
zSt x8 x7 6 s fun _ s =>
fa1 x8 5 fun x10 =>
ldA x10 take1 s fun x11 s =>
vIaS x11 (ci 0) 10 fun x12 =>
fa1 x12 6 fun x13 =>
zSt x13 (ci 1) 1 s fun _ s =>
fa1 x8 5 fun x15 =>
ldA x15 take1 s fun x16 s =>
vBld [.int .i64 0, .int .i64 0, .str [], .str []] (eCons 0 1 (ci 1) (eCons 1 1 x0 eNil)) fun x17 =>
vBld [.int .i64 0, .int .i64 0, .str [], .str []] (eCons 0 1 (ci 42) (eCons 2 1 (.str [77, 97, 105, 110]) (eCons 3 1 (.str [102]) eNil))) fun x18 =>
vBld [.int .i64 0, .int .i64 0, .str [], .str []] (eCons 0 1 (ci 46) eNil) fun x19 =>
zHbs [.int .i64 0, .int .i64 0, .str [], .str [], .int .i64 0, .int .i64 0, .str [], .str [], .int .i64 0, .int .i64 0, .str [], .str []] 4 3 (eCons 0 4 x17 (eCons 4 4 x18 (eCons 8 4 x19 eNil))) s fun x20 s =>
vIaS x16 (ci 0) 10 fun x21 =>
fa1 x21 7 fun x22 =>
zSt x22 x20 1 s fun _ s =>
fa1 x8 5 fun x24 =>
ldA x24 take1 s fun x25 s =>
zHbs [.str []] 1 1 (eCons 0 1 (.str [73]) eNil) s fun x26 s =>
vBld [.int .i64 0, .int .i64 0, .str [], .str []] (eCons 0 1 (ci 3) eNil) fun x27 =>
vBld [.int .i64 0, .int .i64 0, .str [], .str []] (eCons 0 1 (ci 21) (eCons 1 1 (ci 6) eNil)) fun x28 =>
vBld [.int .i64 0, .int .i64 0, .str [], .str []] (eCons 0 1 (ci 3) eNil) fun x29 =>
vBld [.int .i64 0, .int .i64 0, .str [], .str []] (eCons 0 1 (ci 1) (eCons 1 1 (ci 1) eNil)) fun x30 =>
vBld [.int .i64 0, .int .i64 0, .str [], .str []] (eCons 0 1 (ci 9) eNil) fun x31 =>
vBld [.int .i64 0, .int .i64 0, .str [], .str []] (eCons 0 1 (ci 42) (eCons 2 1 (.str [77, 97, 105, 110]) (eCons 3 1 (.str [102]) eNil))) fun x32 =>
vBld [.int .i64 0, .int .i64 0, .str [], .str []] (eCons 0 1 (ci 46) eNil) fun x33 =>
zHbs [.int .i64 0, .int .i64 0, .str [], .str [], .int .i64 0, .int .i64 0, .str [], .str [], .int .i64 0, .int .i64 0, .str [], .str [], .int .i64 0, .int .i64 0, .str [], .str [], .int .i64 0, .int .i64 0, .str [], .str [], .int .i64 0, .int .i64 0, .str [], .str [], .int .i64 0, .int .i64 0, .str [], .str []] 4 7 (eCons 0 4 x27 (eCons 4 4 x28 (eCons 8 4 x29 (eCons 12 4 x30 (eCons 16 4 x31 (eCons 20 4 x32 (eCons 24 4 x33 eNil))))))) s fun x34 s =>
zHbs [.str []] 1 1 (eCons 0 1 (.str [73]) eNil) s fun x35 s =>
vBld [.int .i64 0, .nil .sl, .nil .sl] (eCons 0 1 (ci 6) (eCons 1 1 x35 eNil)) fun x36 =>
zHbs [.int .i64 0, .nil .sl, .nil .sl] 3 1 (eCons 0 3 x36 eNil) s fun x37 s =>
vBld [.str [], .nil .sl, .str [], .bool false, .bool false, .int .i64 0, .int .i64 0, .nil .sl, .nil .sl, .nil .sl] (eCons 0 1 (.str [102]) (eCons 1 1 x26 (eCons 2 1 (.str [86]) (eCons 3 1 ct (eCons 5 1 (ci 1) (eCons 6 1 (ci 2) (eCons 7 1 x34 (eCons 8 1 x37 eNil)))))))) fun x38 =>
zBsl [.str [], .nil .sl, .str [], .bool false, .bool false, .int .i64 0, .int .i64 0, .nil .sl, .nil .sl, .nil .sl] 10 1 (eCons 0 10 x38 eNil) s fun x39 s =>
appB 10 152 x25 x39 s fun x40 s =>
fa1 x8 5 fun x41 =>
zSt x41 x40 1 s fun _ s =>
ldA x8 (takeN 6) s fun x43 s =>
zBsl [.str [], .str [], .bool false, .nil .sl, .nil .sl, .nil .sl] 6 1 (eCons 0 6 x43 eNil) s fun x44 s =>
vBld [.str [], .str []] (eCons 0 1 (.str [77, 97, 105, 110]) (eCons 1 1 (.str [109, 97, 105, 110]) eNil)) fun x45 =>
c (.mk .d0 .d0 .d1 .d0) [x44, x45] s fun x46 s =>
vExt x46 0 fun x47 =>
vExt x46 1 fun x48 =>
bEqT x48 (ci 0) fun x49 =>
cnd x49 (none)
(c (.mk .d0 .d0 .d1 .d6) [x47, (.nil .sl), (ci 10)] s fun x50 s =>
c (.mk .d0 .d0 .d1 .d7) [x50, (.str [77, 97, 105, 110]), (.str [109, 97, 105, 110])] s fun x51 s =>
vGen (.un .not (.c x51)) fun x52 =>
cnd x52 (none)
(c (.mk .d0 .d0 .d2 .d0) [x50, (ci 5000)] s fun x53 s =>
boxD false [.nil .sl, .int .i64 0, .int .i32 0, .str []] s fun x54 s =>
zSt x54 x53 4 s fun _ s =>
fa1 x54 1 fun x56 =>
ldA x56 take1 s fun x57 s =>
bEqF x57 (ci 1) fun x58 =>
gK x58 true x0 fun x59 =>
gV x58 true (bLe x59 (ci 62)) fun x60 =>
vPick x58 x60 cf fun x61 =>
gV x61 false (fa1 x54 1) fun x62 =>
gH x61 false (ldA x62 take1) s fun x63 s =>
gV x61 false (bEqF x63 (ci 5)) fun x64 =>
gK x61 false x64 fun x65 =>
gK x65 true x0 fun x66 =>
gV x65 true (bGt x66 (ci 62)) fun x67 =>
gV x61 false (vPick x65 x67 cf) fun x68 =>
vPick x61 ct x68 fun x69 =>
K x69 s)))))
def F4 : F2 := .fn H4 true
theorem fe4 : feE Tryz.prog ann 4 1 [.cl, .j [], .cl, .cl] = some F4 := by kernel_rfl
/- daguerre/daguerrelaw17.LazyNone -/
def H5 : F2C := fun c _ v s K =>
endE v (
c (.mk .d0 .d0 .d2 .d0) [(.nil .ptr), (ci 5)] s fun x0 s =>
boxD false [.nil .sl, .int .i64 0, .int .i32 0, .str []] s fun x1 s =>
zSt x1 x0 4 s fun _ s =>
c (.mk .d0 .d0 .d1 .d4) [] s fun x3 s =>
gK x3 true (.nil .ptr) fun x4 =>
gH x3 true (c (.mk .d0 .d0 .d1 .d7) [x4, (.str [79, 98, 106, 101, 99, 116]), (.str [102])]) s fun x5 s =>
gV x3 true (vGen (.un .not (.c x5))) fun x6 =>
vPick x3 x6 cf fun x7 =>
gK x7 true (.nil .ptr) fun x8 =>
gH x7 true (c (.mk .d0 .d0 .d2 .d1) [x8, (.str [79, 98, 106, 101, 99, 116])]) s fun x9 s =>
gV x7 true (vGen (.un .not (.c x9))) fun x10 =>
vPick x7 x10 cf fun x11 =>
gK x11 true (.nil .ptr) fun x12 =>
gH x11 true (c (.mk .d0 .d0 .d2 .d2) [x12]) s fun x13 s =>
gV x11 true (bEqF x13 (ci 0)) fun x14 =>
vPick x11 x14 cf fun x15 =>
gH x15 true (ldA x1 (takeN 4)) s fun x16 s =>
gV x15 true (vBld [.nil .sl, .int .i64 0, .int .i32 0, .str []] eNil) fun x17 =>
gH x15 true (c (.mk .d0 .d0 .d2 .d3) [x16, x17]) s fun x18 s =>
vPick x15 x18 cf fun x19 =>
gK x19 true (.nil .ptr) fun x20 =>
gH x19 true (c (.mk .d0 .d0 .d2 .d4) [x20]) s fun x21 s =>
gV x19 true (bEqF x21 (ci 0)) fun x22 =>
vPick x19 x22 cf fun x23 =>
gK x23 true (.nil .ptr) fun x24 =>
gH x23 true (c (.mk .d0 .d0 .d2 .d5) [x24]) s fun x25 s =>
gV x23 true (vNil false .ptr x25) fun x26 =>
vPick x23 x26 cf fun x27 =>
gK x27 true (.nil .ptr) fun x28 =>
gH x27 true (c (.mk .d0 .d0 .d2 .d6) [x28]) s fun x29 s =>
gV x27 true (vNil false .ptr x29) fun x30 =>
vPick x27 x30 cf fun x31 =>
gK x31 true (.nil .ptr) fun x32 =>
gH x31 true (c (.mk .d0 .d0 .d2 .d7) [x32, (ci 0)]) s fun x33 s =>
gV x31 true (bEqF x33 (.str [])) fun x34 =>
vPick x31 x34 cf fun x35 =>
gK x35 true (.nil .ptr) fun x36 =>
gH x35 true (c (.mk .d0 .d0 .d3 .d0) [x36]) s fun x37 s =>
gV x35 true (bEqF x37 (ci 0)) fun x38 =>
vPick x35 x38 cf fun x39 =>
gK x39 true (.nil .ptr) fun x40 =>
gH x39 true (c (.mk .d0 .d0 .d3 .d1) [x40]) s fun x41 s =>
gV x39 true (vNil false .ptr x41) fun x42 =>
vPick x39 x42 cf fun x43 =>
K x43 s)
def F5 : F2 := .fn H5 true
theorem fe5 : feE Tryz.prog ann 5 0 [] = some F5 := by kernel_rfl
/- daguerre/daguerrelaw21.BootThrows -/
def H6 : F2C := fun c _ v s K =>
pop v fun x0 v =>
endE v (
c (.mk .d0 .d0 .d3 .d2) [] s fun x1 s =>
vGen (.un .not (.c x1)) fun x2 =>
cnd x2 (none)
(vBld [.int .i64 0, .int .i64 0, .str [], .str []] (eCons 0 1 (ci 1) eNil) fun x3 =>
vBld [.int .i64 0, .int .i64 0, .str [], .str []] (eCons 0 1 (ci 1) eNil) fun x4 =>
vBld [.int .i64 0, .int .i64 0, .str [], .str []] (eCons 0 1 (ci 11) eNil) fun x5 =>
vBld [.int .i64 0, .int .i64 0, .str [], .str []] (eCons 0 1 (ci 5) eNil) fun x6 =>
vBld [.int .i64 0, .int .i64 0, .str [], .str []] (eCons 0 1 (ci 46) eNil) fun x7 =>
zHbs [.int .i64 0, .int .i64 0, .str [], .str [], .int .i64 0, .int .i64 0, .str [], .str [], .int .i64 0, .int .i64 0, .str [], .str [], .int .i64 0, .int .i64 0, .str [], .str [], .int .i64 0, .int .i64 0, .str [], .str []] 4 5 (eCons 0 4 x3 (eCons 4 4 x4 (eCons 8 4 x5 (eCons 12 4 x6 (eCons 16 4 x7 eNil))))) s fun x8 s =>
vBld [.str [], .nil .sl, .str [], .bool false, .bool false, .int .i64 0, .int .i64 0, .nil .sl, .nil .sl, .nil .sl] (eCons 0 1 (.str [36, 105, 110, 105, 116]) (eCons 2 1 (.str [86]) (eCons 3 1 ct (eCons 6 1 (ci 2) (eCons 7 1 x8 eNil))))) fun x9 =>
zHbs [.str [], .nil .sl, .str [], .bool false, .bool false, .int .i64 0, .int .i64 0, .nil .sl, .nil .sl, .nil .sl] 10 1 (eCons 0 10 x9 eNil) s fun x10 s =>
vBld [.str [], .str [], .bool false, .nil .sl, .nil .sl, .nil .sl] (eCons 0 1 (.str [65, 97]) (eCons 1 1 (.str [79, 98, 106, 101, 99, 116]) (eCons 5 1 x10 eNil))) fun x11 =>
boxD false [.str [], .str [], .bool false, .nil .sl, .nil .sl, .nil .sl] s fun x12 s =>
zSt x12 x11 6 s fun _ s =>
vBld [.str [], .str [], .bool false] (eCons 0 1 (.str [115]) (eCons 1 1 (.str [73]) (eCons 2 1 ct eNil))) fun x14 =>
zHbs [.str [], .str [], .bool false] 3 1 (eCons 0 3 x14 eNil) s fun x15 s =>
vBld [.str [], .str [], .bool false, .nil .sl, .nil .sl, .nil .sl] (eCons 0 1 (.str [66, 98]) (eCons 1 1 (.str [79, 98, 106, 101, 99, 116]) (eCons 4 1 x15 eNil))) fun x16 =>
boxD false [.str [], .str [], .bool false, .nil .sl, .nil .sl, .nil .sl] s fun x17 s =>
zSt x17 x16 6 s fun _ s =>
vBld [.int .i64 0, .int .i64 0, .str [], .str []] (eCons 0 1 (ci 1) (eCons 1 1 (ci 9) eNil)) fun x19 =>
vBld [.int .i64 0, .int .i64 0, .str [], .str []] (eCons 0 1 (ci 41) (eCons 2 1 (.str [66, 98]) (eCons 3 1 (.str [115]) eNil))) fun x20 =>
vBld [.int .i64 0, .int .i64 0, .str [], .str []] (eCons 0 1 (ci 37) (eCons 2 1 (.str [65, 97]) eNil)) fun x21 =>
vBld [.int .i64 0, .int .i64 0, .str [], .str []] (eCons 0 1 (ci 5) eNil) fun x22 =>
vBld [.int .i64 0, .int .i64 0, .str [], .str []] (eCons 0 1 (ci 46) eNil) fun x23 =>
zHbs [.int .i64 0, .int .i64 0, .str [], .str [], .int .i64 0, .int .i64 0, .str [], .str [], .int .i64 0, .int .i64 0, .str [], .str [], .int .i64 0, .int .i64 0, .str [], .str [], .int .i64 0, .int .i64 0, .str [], .str []] 4 5 (eCons 0 4 x19 (eCons 4 4 x20 (eCons 8 4 x21 (eCons 12 4 x22 (eCons 16 4 x23 eNil))))) s fun x24 s =>
vBld [.str [], .nil .sl, .str [], .bool false, .bool false, .int .i64 0, .int .i64 0, .nil .sl, .nil .sl, .nil .sl] (eCons 0 1 (.str [36, 105, 110, 105, 116]) (eCons 2 1 (.str [86]) (eCons 3 1 ct (eCons 6 1 (ci 1) (eCons 7 1 x24 eNil))))) fun x25 =>
boxD false [.str [], .nil .sl, .str [], .bool false, .bool false, .int .i64 0, .int .i64 0, .nil .sl, .nil .sl, .nil .sl] s fun x26 s =>
zSt x26 x25 10 s fun _ s =>
jn (fun _ s =>
vBld [.int .i64 0, .int .i64 0, .str [], .str []] (eCons 0 1 (ci 46) eNil) fun x29 =>
zHbs [.int .i64 0, .int .i64 0, .str [], .str []] 4 1 (eCons 0 4 x29 eNil) s fun x30 s =>
vBld [.str [], .nil .sl, .str [], .bool false, .bool false, .int .i64 0, .int .i64 0, .nil .sl, .nil .sl, .nil .sl] (eCons 0 1 (.str [109, 97, 105, 110]) (eCons 2 1 (.str [86]) (eCons 3 1 ct (eCons 7 1 x30 eNil)))) fun x31 =>
ldA x26 (takeN 10) s fun x32 s =>
zHbs [.str [], .nil .sl, .str [], .bool false, .bool false, .int .i64 0, .int .i64 0, .nil .sl, .nil .sl, .nil .sl, .str [], .nil .sl, .str [], .bool false, .bool false, .int .i64 0, .int .i64 0, .nil .sl, .nil .sl, .nil .sl] 10 2 (eCons 0 10 x31 (eCons 10 10 x32 eNil)) s fun x33 s =>
fa1 x17 5 fun x34 =>
zSt x34 x33 1 s fun _ s =>
vBld [.str [], .str []] (eCons 0 1 (.str [66, 98]) (eCons 1 1 (.str [109, 97, 105, 110]) eNil)) fun x36 =>
boxD false [.str [], .str []] s fun x37 s =>
zSt x37 x36 2 s fun _ s =>
ldA x12 (takeN 6) s fun x39 s =>
ldA x17 (takeN 6) s fun x40 s =>
zBsl [.str [], .str [], .bool false, .nil .sl, .nil .sl, .nil .sl, .str [], .str [], .bool false, .nil .sl, .nil .sl, .nil .sl] 6 2 (eCons 0 6 x39 (eCons 6 6 x40 eNil)) s fun x41 s =>
ldA x37 (takeN 2) s fun x42 s =>
c (.mk .d0 .d0 .d1 .d0) [x41, x42] s fun x43 s =>
vExt x43 0 fun x44 =>
vExt x43 1 fun x45 =>
bEqT x45 (ci 0) fun x46 =>
cnd x46 (none)
(ldA x37 (takeN 2) s fun x47 s =>
c (.mk .d0 .d0 .d3 .d3) [x44, x47] s fun x48 s =>
c (.mk .d0 .d0 .d2 .d5) [x48] s fun x49 s =>
c (.mk .d0 .d0 .d3 .d4) [x49, (.str [66, 98]), (.str [115])] s fun x50 s =>
vExt x50 0 fun x51 =>
vExt x50 1 fun _ =>
boxD false [.bool false, .int .i32 0] s fun x53 s =>
zSt x53 x51 2 s fun _ s =>
c (.mk .d0 .d0 .d2 .d5) [x48] s fun x55 s =>
c (.mk .d0 .d0 .d3 .d5) [x55, (.str [65, 97])] s fun x56 s =>
bEqF x56 (ci 0) fun x57 =>
gK x57 true x48 fun x58 =>
gH x57 true (c (.mk .d0 .d0 .d2 .d5) [x58]) s fun x59 s =>
gH x57 true (c (.mk .d0 .d0 .d3 .d5) [x59, (.str [66, 98])]) s fun x60 s =>
gV x57 true (bEqF x60 (ci 0)) fun x61 =>
vPick x57 x61 cf fun x62 =>
gV x62 true (fa1 x53 1) fun x63 =>
gH x62 true (ldA x63 take1) s fun x64 s =>
gV x62 true (bEqF x64 (cj 0)) fun x65 =>
vPick x62 x65 cf fun x66 =>
gK x66 true x48 fun x67 =>
gH x66 true (c (.mk .d0 .d0 .d3 .d0) [x67]) s fun x68 s =>
gV x66 true (bEqF x68 (ci 0)) fun x69 =>
vPick x66 x69 cf fun x70 =>
K x70 s)) fun K28 =>
cnd x0 (zHbs [.str []] 1 1 (eCons 0 1 (.str [79, 98, 106, 101, 99, 116]) eNil) s fun x71 s =>
vBld [.int .i64 0, .nil .sl, .nil .sl] (eCons 0 1 (ci 3) (eCons 2 1 x71 eNil)) fun x72 =>
zHbs [.int .i64 0, .nil .sl, .nil .sl] 3 1 (eCons 0 3 x72 eNil) s fun x73 s =>
fa1 x26 8 fun x74 =>
zSt x74 x73 1 s fun _ s =>
vBld [.int .i64 0, .int .i64 0, .int .i64 0, .str []] (eCons 0 1 (ci 2) (eCons 1 1 (ci 3) (eCons 2 1 (ci 3) eNil))) fun x76 =>
zHbs [.int .i64 0, .int .i64 0, .int .i64 0, .str []] 4 1 (eCons 0 4 x76 eNil) s fun x77 s =>
fa1 x26 9 fun x78 =>
zSt x78 x77 1 s fun _ s =>
K28 [] s)
(K28 [] s)))
def F6 : F2 := .fn H6 true
theorem fe6 : feE Tryz.prog ann 6 1 [.cl, .j [], .cl] = some F6 := by kernel_rfl
/- daguerre/daguerrelaw19.begun -/
def H7 : F2C := fun c _ v s K =>
endE v (
c (.mk .d0 .d0 .d3 .d6) [] s fun x0 s =>
vBld [.str [], .str []] (eCons 0 1 (.str [66, 98]) (eCons 1 1 (.str [109, 97, 105, 110]) eNil)) fun x1 =>
c (.mk .d0 .d0 .d1 .d0) [x0, x1] s fun x2 s =>
vExt x2 0 fun x3 =>
vExt x2 1 fun x4 =>
bEqT x4 (ci 0) fun x5 =>
cnd x5 (none)
(vBld [.str [], .str []] (eCons 0 1 (.str [66, 98]) (eCons 1 1 (.str [109, 97, 105, 110]) eNil)) fun x6 =>
c (.mk .d0 .d0 .d1 .d2) [x3, x6] s fun x7 s =>
c (.mk .d0 .d0 .d3 .d7) [x3, (.str [65, 97]), (.str [102])] s fun x8 s =>
c (.mk .d0 .d0 .d4 .d0) [] s fun x9 s =>
gH x9 true (c (.mk .d0 .d0 .d4 .d1) []) s fun x10 s =>
vPick x9 x10 cf fun x11 =>
gK x11 true x7 fun x12 =>
gH x11 true (c (.mk .d0 .d0 .d1 .d3) [x12]) s fun x13 s =>
gH x11 true (zBsl [.str []] 1 1 (eCons 0 1 (.str [66, 98, 46, 109, 97, 105, 110]) eNil)) s fun x14 s =>
gH x11 true (c (.mk .d0 .d0 .d1 .d1) [x13, x14]) s fun x15 s =>
vPick x11 x15 cf fun x16 =>
gK x16 true x7 fun x17 =>
gH x16 true (c (.mk .d0 .d0 .d4 .d2) [x17]) s fun x18 s =>
gV x16 true (vLenS x18) fun x19 =>
gV x16 true (bEqF x19 (ci 9)) fun x20 =>
vPick x16 x20 cf fun x21 =>
gK x21 true x7 fun x22 =>
gH x21 true (c (.mk .d0 .d0 .d4 .d3) [x22]) s fun x23 s =>
gH x21 true (zBsl [.str [], .str [], .str []] 1 3 (eCons 0 1 (.str [79, 98, 106, 101, 99, 116]) (eCons 1 1 (.str [65, 97]) (eCons 2 1 (.str [66, 98]) eNil)))) s fun x24 s =>
gH x21 true (c (.mk .d0 .d0 .d1 .d1) [x23, x24]) s fun x25 s =>
vPick x21 x25 cf fun x26 =>
gK x26 true x8 fun x27 =>
gH x26 true (c (.mk .d0 .d0 .d1 .d3) [x27]) s fun x28 s =>
gH x26 true (zBsl [.str []] 1 1 (eCons 0 1 (.str [65, 97, 46, 102]) eNil)) s fun x29 s =>
gH x26 true (c (.mk .d0 .d0 .d1 .d1) [x28, x29]) s fun x30 s =>
vPick x26 x30 cf fun x31 =>
gK x31 true x8 fun x32 =>
gH x31 true (c (.mk .d0 .d0 .d4 .d3) [x32]) s fun x33 s =>
gV x31 true (vLenS x33) fun x34 =>
gV x31 true (bEqF x34 (ci 0)) fun x35 =>
vPick x31 x35 cf fun x36 =>
K x36 s))
def F7 : F2 := .pur H7 true mNo
theorem fe7 : feE Tryz.prog ann 7 0 [.cl] = some F7 := by kernel_rfl
def M7 (k : Nat) : F2 := .pur H7 true (Bool.rec mNo (mVal (.bool true)) (Nat.ble 17 k))
/- daguerre/closed.Check -/
def H8 : F2C := fun c k v s K =>
pop v fun x0 v =>
pop v fun x1 v =>
endE v (
zTbox x1 s fun x2 s =>
c (.mk .d0 .d0 .d4 .d4) [x0] s fun x3 s =>
vExt x3 0 fun x4 =>
vExt x3 1 fun x5 =>
bEqT x5 (ci 0) fun x6 =>
cnd x6 (none)
(c (.mk .d0 .d0 .d4 .d5) [x4] s fun x7 s =>
bEqT x7 (ci 0) fun x8 =>
cnd x8 (K (.tup [(.nil .ptr), x7]) s)
(fa1 x2 0 fun x9 =>
ldA x9 take1 s fun x10 s =>
fa1 x2 1 fun x11 =>
ldA x11 take1 s fun x12 s =>
c (.mk .d0 .d0 .d4 .d6) [x4, x10, x12] s fun x13 s =>
vExt x13 0 fun _ =>
vExt x13 1 fun x15 =>
vExt x13 2 fun x16 =>
boxD false [.str [], .nil .sl, .str [], .bool false, .bool false, .int .i64 0, .int .i64 0, .nil .sl, .nil .sl, .nil .sl] s fun x17 s =>
zSt x17 x15 10 s fun _ s =>
vGen (.un .not (.c x16)) fun x19 =>
gV x19 false (fa1 x17 3) fun x20 =>
gH x19 false (ldA x20 take1) s fun x21 s =>
gV x19 false (vGen (.un .not (.c x21))) fun x22 =>
vPick x19 ct x22 fun x23 =>
gV x23 false (fa1 x17 1) fun x24 =>
gH x23 false (ldA x24 take1) s fun x25 s =>
gV x23 false (vLenS x25) fun x26 =>
gV x23 false (bGt x26 (ci 0)) fun x27 =>
vPick x23 ct x27 fun x28 =>
gV x28 false (fa1 x17 2) fun x29 =>
gH x28 false (ldA x29 take1) s fun x30 s =>
gV x28 false (bEqT x30 (.str [86])) fun x31 =>
vPick x28 ct x31 fun x32 =>
cnd x32 (K (.tup [(.nil .ptr), (ci 4)]) s)
(vLenS x0 fun x33 =>
jn (fun _ s =>
K (.tup [x4, (ci 0)]) s) fun K34 =>
loopE k (fun K35 v s =>
pop v fun x36 _ =>
bLt x36 x33 fun x37 =>
cnd x37 (jn (fun _ s =>
bAdd x36 (ci 1) fun x39 =>
K35 [x39] s) fun K38 =>
vIaS x0 x36 6 fun x40 =>
ldA x40 (takeN 6) s fun x41 s =>
boxD false [.str [], .str [], .bool false, .nil .sl, .nil .sl, .nil .sl] s fun x42 s =>
zSt x42 x41 6 s fun _ s =>
fa1 x42 5 fun x44 =>
ldA x44 take1 s fun x45 s =>
vLenS x45 fun x46 =>
jn (fun _ s =>
K38 [] s) fun K47 =>
loopE k (fun K48 v s =>
pop v fun x49 _ =>
bLt x49 x46 fun x50 =>
cnd x50 (jn (fun _ s =>
bAdd x49 (ci 1) fun x52 =>
K48 [x52] s) fun K51 =>
vIaS x45 x49 10 fun x53 =>
ldA x53 (takeN 10) s fun x54 s =>
boxD false [.str [], .nil .sl, .str [], .bool false, .bool false, .int .i64 0, .int .i64 0, .nil .sl, .nil .sl, .nil .sl] s fun x55 s =>
zSt x55 x54 10 s fun _ s =>
fa1 x55 4 fun x57 =>
ldA x57 take1 s fun x58 s =>
vGen (.un .not (.c x58)) fun x59 =>
gK x59 true x4 fun x60 =>
gV x59 true (fa1 x42 0) fun x61 =>
gH x59 true (ldA x61 take1) s fun x62 s =>
gK x59 true x49 fun x63 =>
gH x59 true (c (.mk .d0 .d0 .d4 .d7) [x60, x62, x63]) s fun x64 s =>
gV x59 true (vGen (.un .not (.c x64))) fun x65 =>
vPick x59 x65 cf fun x66 =>
cnd x66 (none)
(K51 [] s))
(K47 [] s)) [(ci 0)] s)
(K34 [] s)) [(ci 0)] s))))
def F8 : F2 := .fn H8 true
theorem fe8 : feE Tryz.prog ann 8 2 [.cl, .j [], .j [], .j [], .j [59], .j [], .j [], .j [], .j [66], .j [], .j [], .cl] = some F8 := by kernel_rfl
/- daguerre/reach.All -/
def H10 : F2C := fun c _ v s K =>
pop v fun x0 v =>
pop v fun x1 v =>
endE v (
zTbox x1 s fun x2 s =>
c (.mk .d0 .d0 .d5 .d0) [x0, ct] s fun x3 s =>
fa1 x2 0 fun x4 =>
ldA x4 take1 s fun x5 s =>
fa1 x2 1 fun x6 =>
ldA x6 take1 s fun x7 s =>
c (.mk .d0 .d0 .d4 .d6) [x0, x5, x7] s fun x8 s =>
vExt x8 0 fun x9 =>
vExt x8 1 fun x10 =>
vExt x8 2 fun x11 =>
boxD false [.str [], .nil .sl, .str [], .bool false, .bool false, .int .i64 0, .int .i64 0, .nil .sl, .nil .sl, .nil .sl] s fun x12 s =>
zSt x12 x10 10 s fun _ s =>
cnd x11 (fa1 x2 1 fun x14 =>
ldA x14 take1 s fun x15 s =>
c (.mk .d0 .d0 .d5 .d1) [x3, x9, x15] s fun _ s =>
c (.mk .d0 .d0 .d5 .d2) [x3, x9] s fun _ s =>
c (.mk .d0 .d0 .d5 .d3) [x3] s fun x18 s =>
K x18 s)
(none))
def F10 : F2 := .fn H10 true
theorem fe10 : feE Tryz.prog ann 10 2 [.cr] = some F10 := by kernel_rfl
/- (*daguerre/reach.Reach).Methods -/
def H11 : F2C := fun c k v s K =>
pop v fun x0 v =>
endE v (
vNil false .ptr x0 fun x1 =>
cnd x1 (none)
(vChk x0 fun x2 =>
fa1 x2 3 fun x3 =>
ldA x3 take1 s fun x4 s =>
vLenS x4 fun x5 =>
jn (fun v s =>
pop v fun x7 _ =>
K x7 s) fun K6 =>
loopE k (fun K8 v s =>
pop v fun x9 v =>
pop v fun x10 _ =>
bLt x9 x5 fun x11 =>
cnd x11 (jn (fun v s =>
pop v fun x13 _ =>
bAdd x9 (ci 1) fun x14 =>
K8 [x14, x13] s) fun K12 =>
vIaS x4 x9 1 fun x15 =>
ldA x15 take1 s fun x16 s =>
vChk x0 fun x17 =>
fa1 x17 2 fun x18 =>
ldA x18 take1 s fun x19 s =>
c (.mk .d0 .d0 .d5 .d4) [x19, x9] s fun x20 s =>
jn (fun v s =>
pop v fun x22 _ =>
K12 [x22] s) fun K21 =>
cnd x20 (zBsl [.str []] 1 1 (eCons 0 1 x16 eNil) s fun x23 s =>
appB 1 16 x10 x23 s fun x24 s =>
K21 [x24] s)
(K21 [x10] s))
(K6 [x10] s)) [(ci 0), (.nil .sl)] s))
def F11 : F2 := .fn H11 true
theorem fe11 : feE Tryz.prog ann 11 1 [.cl, .j [3], .j [13, 3], .j [], .j [3], .j [3]] = some F11 := by kernel_rfl
/- daguerre/daguerreref3.EqTexts -/
def H9 : F2C := fun _ k v s K =>
pop v fun x0 v =>
pop v fun x1 v =>
endE v (
vLenS x0 fun x2 =>
vLenS x1 fun x3 =>
bEqT x2 x3 fun x4 =>
cnd x4 (none)
(jn (fun _ s =>
K ct s) fun K5 =>
loopE k (fun K6 v s =>
pop v fun x7 _ =>
vLenS x0 fun x8 =>
bLt x7 x8 fun x9 =>
cnd x9 (jn (fun _ s =>
bAdd x7 (ci 1) fun x11 =>
K6 [x11] s) fun K10 =>
lgE qNoE (zK x0) s fun x12 e13 s =>
lgE qNoE (zK x7) s fun x14 e15 s =>
lgE qNoE (zV (vIaS x12 x14 1)) s fun x16 e17 s =>
lgE (qLdE x16 1) (ldA x16 take1) s fun x18 e19 s =>
lgE qNoE (zK x1) s fun x20 e21 s =>
lgE qNoE (zK x7) s fun x22 e23 s =>
lgE qNoE (zV (vIaS x20 x22 1)) s fun x24 e25 s =>
lgE (qLdE x24 1) (ldA x24 take1) s fun x26 e27 s =>
lgE qNoE (zV (bEqT x18 x26)) s fun x28 e29 s =>
calmE [(3, 7)] [e13, e15, e17, e19, e21, e23, e25, e27, e29] (fun s =>
cnd x28 (none)
(K10 [] s)) s)
(K5 [] s)) [(ci 0)] s))
def F9 : F2 := .fn H9 true
theorem fe9 : feE Tryz.prog ann 9 2 [.cl, .j [], .j [5], .j [], .j [], .cl] = some F9 := by kernel_rfl
/- daguerre/daguerrelaw17.begun -/
def H12 : F2C := fun c _ v s K =>
endE v (
c (.mk .d0 .d0 .d3 .d6) [] s fun x0 s =>
vIaS x0 (ci 2) 6 fun x1 =>
fa1 x1 5 fun x2 =>
ldA x2 take1 s fun x3 s =>
vBld [.int .i64 0, .int .i64 0, .str [], .str []] (eCons 0 1 (ci 40) (eCons 2 1 (.str [65, 97]) (eCons 3 1 (.str [115]) eNil))) fun x4 =>
vBld [.int .i64 0, .int .i64 0, .str [], .str []] (eCons 0 1 (ci 60) eNil) fun x5 =>
vBld [.int .i64 0, .int .i64 0, .str [], .str []] (eCons 0 1 (ci 59) eNil) fun x6 =>
vBld [.int .i64 0, .int .i64 0, .str [], .str []] (eCons 0 1 (ci 61) eNil) fun x7 =>
zHbs [.int .i64 0, .int .i64 0, .str [], .str [], .int .i64 0, .int .i64 0, .str [], .str [], .int .i64 0, .int .i64 0, .str [], .str [], .int .i64 0, .int .i64 0, .str [], .str []] 4 4 (eCons 0 4 x4 (eCons 4 4 x5 (eCons 8 4 x6 (eCons 12 4 x7 eNil)))) s fun x8 s =>
vIaS x3 (ci 0) 10 fun x9 =>
fa1 x9 7 fun x10 =>
zSt x10 x8 1 s fun _ s =>
vIaS x0 (ci 2) 6 fun x12 =>
fa1 x12 5 fun x13 =>
ldA x13 take1 s fun x14 s =>
vIaS x14 (ci 0) 10 fun x15 =>
fa1 x15 6 fun x16 =>
zSt x16 (ci 1) 1 s fun _ s =>
vBld [.str [], .str []] (eCons 0 1 (.str [66, 98]) (eCons 1 1 (.str [109, 97, 105, 110]) eNil)) fun x18 =>
zHbs [.int .i32 0] 1 1 (eCons 0 1 (cj 7) eNil) s fun x19 s =>
vBld [.nil .sl, .str [], .str [], .nil .sl, .int .i64 0] (eCons 0 1 x0 (eCons 1 2 x18 (eCons 3 1 x19 eNil))) fun x20 =>
boxD false [.nil .sl, .str [], .str [], .nil .sl, .int .i64 0] s fun x21 s =>
zSt x21 x20 5 s fun _ s =>
lgE (qLdE x21 5) (ldA x21 (takeN 5)) s fun x23 e24 s =>
lgE qNoE (c (.mk .d0 .d0 .d5 .d5) [x23, (ci 1000)]) s fun x25 e26 s =>
lgE (qLdE x21 5) (ldA x21 (takeN 5)) s fun x27 e28 s =>
lgE qNoE (c (.mk .d0 .d0 .d5 .d5) [x27, (ci 1000)]) s fun x29 e30 s =>
lgE qNoE (zK x25) s fun x31 e32 s =>
lgE qNoE (zK x29) s fun x33 e34 s =>
calmE [(0, 2), (1, 2)] [e24, e26, e28, e30, e32, e34] (fun s =>
vNil false .ptr x31 fun x35 =>
gK x35 false x33 fun x36 =>
gV x35 false (vNil false .ptr x36) fun x37 =>
vPick x35 ct x37 fun x38 =>
cnd x38 (none)
(c (.mk .d0 .d0 .d2 .d0) [x31, (ci 100)] s fun x39 s =>
boxD false [.nil .sl, .int .i64 0, .int .i32 0, .str []] s fun x40 s =>
zSt x40 x39 4 s fun _ s =>
c (.mk .d0 .d0 .d2 .d0) [x33, (ci 2)] s fun x42 s =>
boxD false [.nil .sl, .int .i64 0, .int .i32 0, .str []] s fun x43 s =>
zSt x43 x42 4 s fun _ s =>
c (.mk .d0 .d0 .d4 .d0) [] s fun x45 s =>
gH x45 true (c (.mk .d0 .d0 .d5 .d6) []) s fun x46 s =>
vPick x45 x46 cf fun x47 =>
gH x47 true (c (.mk .d0 .d0 .d5 .d7) []) s fun x48 s =>
vPick x47 x48 cf fun x49 =>
gH x49 true (c (.mk .d0 .d0 .d6 .d0) []) s fun x50 s =>
vPick x49 x50 cf fun x51 =>
gH x51 true (ldA x40 (takeN 4)) s fun x52 s =>
gH x51 true (zHbs [.int .i32 0] 1 1 (eCons 0 1 (cj 0) eNil)) s fun x53 s =>
gV x51 true (vBld [.nil .sl, .int .i64 0, .int .i32 0, .str []] (eCons 0 1 x53 (eCons 1 1 (ci 1) (eCons 2 1 (cj 7) eNil)))) fun x54 =>
gH x51 true (c (.mk .d0 .d0 .d2 .d3) [x52, x54]) s fun x55 s =>
vPick x51 x55 cf fun x56 =>
gK x56 true x31 fun x57 =>
gH x56 true (c (.mk .d0 .d0 .d2 .d4) [x57]) s fun x58 s =>
gV x56 true (bEqF x58 (ci 4)) fun x59 =>
vPick x56 x59 cf fun x60 =>
gH x60 true (ldA x43 (takeN 4)) s fun x61 s =>
gH x60 true (zHbs [.int .i32 0] 1 1 (eCons 0 1 (cj 0) eNil)) s fun x62 s =>
gV x60 true (vBld [.nil .sl, .int .i64 0, .int .i32 0, .str []] (eCons 0 1 x62 (eCons 1 1 (ci 3) eNil))) fun x63 =>
gH x60 true (c (.mk .d0 .d0 .d2 .d3) [x61, x63]) s fun x64 s =>
vPick x60 x64 cf fun x65 =>
gK x65 true x31 fun x66 =>
gH x65 true (c (.mk .d0 .d0 .d2 .d5) [x66]) s fun x67 s =>
gH x65 true (c (.mk .d0 .d0 .d3 .d5) [x67, (.str [65, 97])]) s fun x68 s =>
gV x65 true (bEqF x68 (ci 2)) fun x69 =>
vPick x65 x69 cf fun x70 =>
gK x70 true x31 fun x71 =>
gH x70 true (c (.mk .d0 .d0 .d3 .d0) [x71]) s fun x72 s =>
gV x70 true (bEqF x72 (ci 0)) fun x73 =>
vPick x70 x73 cf fun x74 =>
K x74 s)) s)
def F12 : F2 := .pur H12 true mNo
theorem fe12 : feE Tryz.prog ann 12 0 [.cl] = some F12 := by kernel_rfl
def M12 (k : Nat) : F2 := .pur H12 true (Bool.rec mNo (mVal (.bool true)) (Nat.ble 15 k))
/- daguerre/daguerrelaw5.One -/
def H13 : F2C := fun _ _ v s K =>
pop v fun x0 v =>
endE v (
boxD false [.str [], .str [], .bool false, .nil .sl, .nil .sl, .nil .sl] s fun x1 s =>
vBld [.str [], .str [], .bool false] (eCons 0 1 (.str [120]) (eCons 1 1 (.str [73]) eNil)) fun x2 =>
zHbs [.str [], .str [], .bool false] 3 1 (eCons 0 3 x2 eNil) s fun x3 s =>
vBld [.int .i64 0, .int .i64 0, .str [], .str []] (eCons 0 1 (ci 46) eNil) fun x4 =>
zHbs [.int .i64 0, .int .i64 0, .str [], .str []] 4 1 (eCons 0 4 x4 eNil) s fun x5 s =>
vBld [.str [], .nil .sl, .str [], .bool false, .bool false, .int .i64 0, .int .i64 0, .nil .sl, .nil .sl, .nil .sl] (eCons 0 1 (.str [109, 97, 105, 110]) (eCons 2 1 (.str [86]) (eCons 3 1 ct (eCons 7 1 x5 eNil)))) fun x6 =>
zHbs [.str [], .nil .sl, .str [], .bool false, .bool false, .int .i64 0, .int .i64 0, .nil .sl, .nil .sl, .nil .sl] 10 1 (eCons 0 10 x6 eNil) s fun x7 s =>
vBld [.str [], .str [], .bool false, .nil .sl, .nil .sl, .nil .sl] (eCons 0 1 x0 (eCons 1 1 (.str [79, 98, 106, 101, 99, 116]) (eCons 4 1 x3 (eCons 5 1 x7 eNil)))) fun x8 =>
zSt x1 x8 6 s fun _ s =>
ldA x1 (takeN 6) s K)
def F13 : F2 := .fn H13 true
theorem fe13 : feE Tryz.prog ann 13 1 [] = some F13 := by kernel_rfl
/- daguerre/lazy.New -/
def H14 : F2C := fun c _ v s K =>
pop v fun x0 v =>
pop v fun x1 v =>
pop v fun x2 v =>
endE v (
c (.mk .d0 .d0 .d6 .d1) [x0] s fun x3 s =>
c (.mk .d0 .d0 .d6 .d2) [x2] s fun x4 s =>
c (.mk .d0 .d0 .d6 .d3) [x1] s fun x5 s =>
c (.mk .d0 .d0 .d6 .d4) [] s fun x6 s =>
vBld [.nil .ptr, .nil .ptr, .nil .ptr, .nil .sl, .nil .sl, .nil .sl, .nil .sl, .int .i64 0, .nil .sl, .int .i64 0, .int .i32 0, .str []] (eCons 0 1 x0 (eCons 1 1 x3 (eCons 2 1 x4 (eCons 3 1 x5 (eCons 6 1 x6 eNil))))) fun x7 =>
zBox true x7 s fun x8 s =>
K x8 s)
def F14 : F2 := .fn H14 true
theorem fe14 : feE Tryz.prog ann 14 3 [] = some F14 := by kernel_rfl
/- (*daguerre/lazy.Machine).Call -/
def H15 : F2C := fun c _ v s K =>
pop v fun x0 v =>
pop v fun x1 v =>
pop v fun x2 v =>
endE v (
vNil false .ptr x0 fun x3 =>
gK x3 false x0 fun x4 =>
gV x3 false (vChk x4) fun x5 =>
gV x3 false (fa1 x5 4) fun x6 =>
gH x3 false (ldA x6 take1) s fun x7 s =>
gV x3 false (vLenS x7) fun x8 =>
gV x3 false (bGt x8 (ci 0)) fun x9 =>
vPick x3 ct x9 fun x10 =>
cnd x10 (K cf s)
(vChk x0 fun x11 =>
fa1 x11 0 fun x12 =>
ldA x12 take1 s fun x13 s =>
c (.mk .d0 .d0 .d4 .d6) [x13, x1, x2] s fun x14 s =>
vExt x14 0 fun x15 =>
vExt x14 1 fun x16 =>
vExt x14 2 fun x17 =>
boxD false [.str [], .nil .sl, .str [], .bool false, .bool false, .int .i64 0, .int .i64 0, .nil .sl, .nil .sl, .nil .sl] s fun x18 s =>
zSt x18 x16 10 s fun _ s =>
vGen (.un .not (.c x17)) fun x20 =>
gV x20 false (fa1 x18 3) fun x21 =>
gH x20 false (ldA x21 take1) s fun x22 s =>
gV x20 false (vGen (.un .not (.c x22))) fun x23 =>
vPick x20 ct x23 fun x24 =>
gV x24 false (fa1 x18 1) fun x25 =>
gH x24 false (ldA x25 take1) s fun x26 s =>
gV x24 false (vLenS x26) fun x27 =>
gV x24 false (bGt x27 (ci 0)) fun x28 =>
vPick x24 ct x28 fun x29 =>
gV x29 false (fa1 x18 4) fun x30 =>
gH x29 false (ldA x30 take1) s fun x31 s =>
vPick x29 ct x31 fun x32 =>
cnd x32 (none)
(lgE qNoE (zK x0) s fun x33 e34 s =>
lgE qNoE (zV (fa1 x18 5)) s fun x35 e36 s =>
lgE (qLdE x35 1) (ldA x35 take1) s fun x37 e38 s =>
lgE qNoE (zV (fa1 x18 6)) s fun x39 e40 s =>
lgE (qLdE x39 1) (ldA x39 take1) s fun x41 e42 s =>
lgE qNoE (c (.mk .d0 .d0 .d6 .d6) [(ci 0), x37, x41, (.nil .sl)]) s fun x43 e44 s =>
lgE qNoE (zK x15) s fun x45 e46 s =>
lgE (qLdE x18 10) (ldA x18 (takeN 10)) s fun x47 e48 s =>
lgE qNoE (zV (vBld [.nil .ptr, .str [], .str [], .nil .sl, .str [], .bool false, .bool false, .int .i64 0, .int .i64 0, .nil .sl, .nil .sl, .nil .sl, .bool false, .bool false, .bool false] (eCons 0 1 x43 (eCons 1 1 x45 (eCons 2 10 x47 (eCons 13 1 ct eNil)))))) s fun x49 e50 s =>
lgE qNoE (zBox true x49) s fun x51 e52 s =>
lgE qNoE (c (.mk .d0 .d0 .d6 .d5) [x33, x51]) s fun x53 e54 s =>
lgE qNoE (zK x53) s fun x55 e56 s =>
calmE [(2, 4), (2, 7), (4, 7), (5, 7)] [e34, e36, e38, e40, e42, e44, e46, e48, e50, e52, e54, e56] (fun s =>
K x55 s) s)))
def F15 : F2 := .fn H15 true
theorem fe15 : feE Tryz.prog ann 15 3 [.j [], .cl] = some F15 := by kernel_rfl
/- (*daguerre/lazy.Machine).Run -/
def H16 : F2C := fun c k v s K =>
pop v fun x0 v =>
pop v fun x1 v =>
endE v (
boxD false [.nil .sl, .int .i64 0, .int .i32 0, .str []] s fun x2 s =>
vNil false .ptr x0 fun x3 =>
cnd x3 (vBld [.nil .sl, .int .i64 0, .int .i32 0, .str []] eNil fun x4 =>
zSt x2 x4 4 s fun _ s =>
ldA x2 (takeN 4) s K)
(jn (fun _ s =>
vChk x0 fun x7 =>
fa1 x7 8 fun x8 =>
fa1 x8 0 fun x9 =>
ldA x9 take1 s fun x10 s =>
c (.mk .d0 .d0 .d6 .d3) [x10] s fun x11 s =>
vBld [.nil .sl, .int .i64 0, .int .i32 0, .str []] (eCons 0 1 x11 (eCons 1 1 (ci 3) eNil)) fun x12 =>
zSt x2 x12 4 s fun _ s =>
ldA x2 (takeN 4) s K) fun K6 =>
loopE k (fun K14 v s =>
pop v fun x15 _ =>
bLt x15 x1 fun x16 =>
cnd x16 (jn (fun _ s =>
bAdd x15 (ci 1) fun x18 =>
K14 [x18] s) fun K17 =>
c (.mk .d0 .d0 .d2 .d2) [x0] s fun x19 s =>
bEqT x19 (ci 0) fun x20 =>
cnd x20 (vChk x0 fun x21 =>
fa1 x21 8 fun x22 =>
ldA x22 (takeN 4) s fun x23 s =>
boxD false [.nil .sl, .int .i64 0, .int .i32 0, .str []] s fun x24 s =>
zSt x24 x23 4 s fun _ s =>
fa1 x24 1 fun x26 =>
ldA x26 take1 s fun x27 s =>
vGen (.mnx true [(.c x27), (.c (ci 1))]) fun x28 =>
fa1 x24 1 fun x29 =>
zSt x29 x28 1 s fun _ s =>
fa1 x24 0 fun x31 =>
ldA x31 take1 s fun x32 s =>
c (.mk .d0 .d0 .d6 .d3) [x32] s fun x33 s =>
fa1 x24 0 fun x34 =>
zSt x34 x33 1 s fun _ s =>
ldA x24 (takeN 4) s fun x36 s =>
zSt x2 x36 4 s fun _ s =>
ldA x2 (takeN 4) s K)
(K17 [] s))
(K6 [] s)) [(ci 0)] s))
def F16 : F2 := .fn H16 true
theorem fe16 : feE Tryz.prog ann 16 2 [.j [], .j [], .j [10], .j [], .j [], .j []] = some F16 := by kernel_rfl
/- (*daguerre/lazy.Machine).Begin -/
def H17 : F2C := fun c _ v s K =>
pop v fun x0 v =>
pop v fun x1 v =>
endE v (
vNil false .ptr x0 fun x2 =>
gK x2 false x0 fun x3 =>
gV x2 false (vChk x3) fun x4 =>
gV x2 false (fa1 x4 4) fun x5 =>
gH x2 false (ldA x5 take1) s fun x6 s =>
gV x2 false (vLenS x6) fun x7 =>
gV x2 false (bGt x7 (ci 0)) fun x8 =>
vPick x2 ct x8 fun x9 =>
cnd x9 (K cf s)
(vChk x0 fun x10 =>
fa1 x10 0 fun x11 =>
ldA x11 take1 s fun x12 s =>
c (.mk .d0 .d0 .d6 .d7) [x12, x1] s fun x13 s =>
vExt x13 0 fun x14 =>
vExt x13 1 fun x15 =>
boxD false [.str [], .str [], .bool false, .nil .sl, .nil .sl, .nil .sl] s fun x16 s =>
zSt x16 x14 6 s fun _ s =>
vGen (.un .not (.c x15)) fun x18 =>
cnd x18 (none)
(c (.mk .d0 .d0 .d6 .d6) [(ci 0), (ci 0), (ci 0), (.nil .sl)] s fun x19 s =>
vBld [.nil .ptr, .str [], .str [], .nil .sl, .str [], .bool false, .bool false, .int .i64 0, .int .i64 0, .nil .sl, .nil .sl, .nil .sl, .bool false, .bool false, .bool false] (eCons 0 1 x19 (eCons 1 1 x1 (eCons 14 1 ct eNil))) fun x20 =>
zBox true x20 s fun x21 s =>
c (.mk .d0 .d0 .d6 .d5) [x0, x21] s fun x22 s =>
K x22 s)))
def F17 : F2 := .fn H17 true
theorem fe17 : feE Tryz.prog ann 17 2 [.j [], .cl] = some F17 := by kernel_rfl
/- (*daguerre/lazy.Machine).Step -/
def H18 : F2C := fun c _ v s K =>
pop v fun x0 v =>
endE v (
jn (fun _ s =>
vChk x0 fun x2 =>
fa1 x2 7 fun x3 =>
ldA x3 take1 s fun x4 s =>
bAdd x4 (ci 1) fun x5 =>
vChk x0 fun x6 =>
fa1 x6 7 fun x7 =>
zSt x7 x5 1 s fun _ s =>
c (.mk .d0 .d0 .d7 .d0) [x0] s fun x9 s =>
vChk x9 fun x10 =>
fa1 x10 13 fun x11 =>
ldA x11 take1 s fun x12 s =>
gK x12 false x9 fun x13 =>
gV x12 false (vChk x13) fun x14 =>
gV x12 false (fa1 x14 14) fun x15 =>
gH x12 false (ldA x15 take1) s fun x16 s =>
vPick x12 ct x16 fun x17 =>
gK x17 true x0 fun x18 =>
gK x17 true x9 fun x19 =>
gV x17 true (vChk x19) fun x20 =>
gV x17 true (fa1 x20 1) fun x21 =>
gH x17 true (ldA x21 take1) s fun x22 s =>
gH x17 true (c (.mk .d0 .d0 .d7 .d1) [x18, x22]) s fun x23 s =>
gV x17 true (vGen (.un .not (.c x23))) fun x24 =>
vPick x17 x24 cf fun x25 =>
cnd x25 (vChk x0 fun x26 =>
fa1 x26 8 fun x27 =>
fa1 x27 1 fun x28 =>
ldA x28 take1 s fun x29 s =>
K x29 s)
(vChk x9 fun x30 =>
fa1 x30 13 fun x31 =>
zSt x31 cf 1 s fun _ s =>
vChk x9 fun x33 =>
fa1 x33 14 fun x34 =>
ldA x34 take1 s fun x35 s =>
cnd x35 (c (.mk .d0 .d0 .d7 .d2) [x0, x9, (.nil .sl)] s fun _ s =>
vChk x0 fun x37 =>
fa1 x37 8 fun x38 =>
fa1 x38 1 fun x39 =>
ldA x39 take1 s fun x40 s =>
K x40 s)
(lgE qNoE (zK x9) s fun x41 e42 s =>
lgE qNoE (zV (vChk x41)) s fun x43 e44 s =>
lgE qNoE (zV (fa1 x43 2)) s fun x45 e46 s =>
lgE qNoE (zV (fa1 x45 7)) s fun x47 e48 s =>
lgE (qLdE x47 1) (ldA x47 take1) s fun x49 e50 s =>
lgE qNoE (zK x9) s fun x51 e52 s =>
lgE qNoE (zV (vChk x51)) s fun x53 e54 s =>
lgE qNoE (zV (fa1 x53 0)) s fun x55 e56 s =>
lgE (qLdE x55 1) (ldA x55 take1) s fun x57 e58 s =>
lgE qNoE (c (.mk .d0 .d0 .d7 .d3) [x57]) s fun x59 e60 s =>
lgE qNoE (zV (vIaS x49 x59 4)) s fun x61 e62 s =>
lgE (qLdE x61 4) (ldA x61 (takeN 4)) s fun x63 e64 s =>
lgE qNoE (boxD false [.int .i64 0, .int .i64 0, .str [], .str []]) s fun x65 e66 s =>
lgE qNoE (zSt x65 x63 4) s fun _ e68 s =>
calmE [(4, 8), (4, 9), (4, 12), (8, 12), (9, 12), (11, 12)] [e42, e44, e46, e48, e50, e52, e54, e56, e58, e60, e62, e64, e66, e68] (fun s =>
lgE qNoE (zK x0) s fun x69 e70 s =>
lgE qNoE (zV (vChk x69)) s fun x71 e72 s =>
lgE qNoE (zV (fa1 x71 6)) s fun x73 e74 s =>
lgE (qLdE x73 1) (ldA x73 take1) s fun x75 e76 s =>
lgE qNoE (zV (fa1 x65 0)) s fun x77 e78 s =>
lgE (qLdE x77 1) (ldA x77 take1) s fun x79 e80 s =>
lgE qNoE (zV (vIaS x75 x79 1)) s fun x81 e82 s =>
lgE (qLdE x81 1) (ldA x81 take1) s fun x83 e84 s =>
lgE qNoE (zK x0) s fun x85 e86 s =>
lgE qNoE (zK x9) s fun x87 e88 s =>
lgE (qLdE x65 4) (ldA x65 (takeN 4)) s fun x89 e90 s =>
lgE qNoE (zCallV c x83 [x85, x87, x89]) s fun _ e92 s =>
calmE [(3, 5), (3, 10), (5, 10), (7, 10)] [e70, e72, e74, e76, e78, e80, e82, e84, e86, e88, e90, e92] (fun s =>
vChk x0 fun x93 =>
fa1 x93 8 fun x94 =>
fa1 x94 1 fun x95 =>
ldA x95 take1 s fun x96 s =>
K x96 s) s) s))) fun K1 =>
vNil false .ptr x0 fun x97 =>
cnd x97 (K (ci 0) s)
(vChk x0 fun x98 =>
fa1 x98 8 fun x99 =>
fa1 x99 1 fun x100 =>
ldA x100 take1 s fun x101 s =>
bEqT x101 (ci 0) fun x102 =>
cnd x102 (none)
(vChk x0 fun x103 =>
fa1 x103 4 fun x104 =>
ldA x104 take1 s fun x105 s =>
vLenS x105 fun x106 =>
bEqF x106 (ci 0) fun x107 =>
cnd x107 (none)
(K1 [] s))))
def F18 : F2 := .fn H18 true
theorem fe18 : feE Tryz.prog ann 18 1 [.j [], .j [], .cl, .cl, .j [], .j []] = some F18 := by kernel_rfl
/- daguerre/daguerrelaw17.EqTrace -/
def H19 : F2C := fun _ k v s K =>
pop v fun x0 v =>
pop v fun x1 v =>
endE v (
zTbox x0 s fun x2 s =>
zTbox x1 s fun x3 s =>
fa1 x2 1 fun x4 =>
ldA x4 take1 s fun x5 s =>
fa1 x3 1 fun x6 =>
ldA x6 take1 s fun x7 s =>
bEqT x5 x7 fun x8 =>
gV x8 false (fa1 x2 2) fun x9 =>
gH x8 false (ldA x9 take1) s fun x10 s =>
gV x8 false (fa1 x3 2) fun x11 =>
gH x8 false (ldA x11 take1) s fun x12 s =>
gV x8 false (bEqT x10 x12) fun x13 =>
vPick x8 ct x13 fun x14 =>
gV x14 false (fa1 x2 3) fun x15 =>
gH x14 false (ldA x15 take1) s fun x16 s =>
gV x14 false (fa1 x3 3) fun x17 =>
gH x14 false (ldA x17 take1) s fun x18 s =>
gV x14 false (bEqT x16 x18) fun x19 =>
vPick x14 ct x19 fun x20 =>
gV x20 false (fa1 x2 0) fun x21 =>
gH x20 false (ldA x21 take1) s fun x22 s =>
gV x20 false (vLenS x22) fun x23 =>
gV x20 false (fa1 x3 0) fun x24 =>
gH x20 false (ldA x24 take1) s fun x25 s =>
gV x20 false (vLenS x25) fun x26 =>
gV x20 false (bEqT x23 x26) fun x27 =>
vPick x20 ct x27 fun x28 =>
cnd x28 (none)
(jn (fun _ s =>
K ct s) fun K29 =>
loopE k (fun K30 v s =>
pop v fun x31 _ =>
fa1 x2 0 fun x32 =>
ldA x32 take1 s fun x33 s =>
vLenS x33 fun x34 =>
bLt x31 x34 fun x35 =>
cnd x35 (jn (fun _ s =>
bAdd x31 (ci 1) fun x37 =>
K30 [x37] s) fun K36 =>
lgE qNoE (zV (fa1 x2 0)) s fun x38 e39 s =>
lgE (qLdE x38 1) (ldA x38 take1) s fun x40 e41 s =>
lgE qNoE (zK x31) s fun x42 e43 s =>
lgE qNoE (zV (vIaS x40 x42 1)) s fun x44 e45 s =>
lgE (qLdE x44 1) (ldA x44 take1) s fun x46 e47 s =>
lgE qNoE (zV (fa1 x3 0)) s fun x48 e49 s =>
lgE (qLdE x48 1) (ldA x48 take1) s fun x50 e51 s =>
lgE qNoE (zK x31) s fun x52 e53 s =>
lgE qNoE (zV (vIaS x50 x52 1)) s fun x54 e55 s =>
lgE (qLdE x54 1) (ldA x54 take1) s fun x56 e57 s =>
lgE qNoE (zV (bEqT x46 x56)) s fun x58 e59 s =>
calmE [(1, 6), (4, 6), (1, 9), (4, 9)] [e39, e41, e43, e45, e47, e49, e51, e53, e55, e57, e59] (fun s =>
cnd x58 (none)
(K36 [] s)) s)
(K29 [] s)) [(ci 0)] s))
def F19 : F2 := .fn H19 true
theorem fe19 : feE Tryz.prog ann 19 2 [.cl, .j [], .j [5], .j [], .j [], .cl] = some F19 := by kernel_rfl
/- (*daguerre/lazy.Machine).Steps -/
def H20 : F2C := fun _ _ v s K =>
pop v fun x0 v =>
endE v (
vNil false .ptr x0 fun x1 =>
cnd x1 (K (ci 0) s)
(vChk x0 fun x2 =>
fa1 x2 7 fun x3 =>
ldA x3 take1 s fun x4 s =>
K x4 s))
def F20 : F2 := .fn H20 true
theorem fe20 : feE Tryz.prog ann 20 1 [.j []] = some F20 := by kernel_rfl
/- (*daguerre/lazy.Machine).State -/
def H21 : F2C := fun _ _ v s K =>
pop v fun x0 v =>
endE v (
vNil false .ptr x0 fun x1 =>
cnd x1 (K (.nil .ptr) s)
(vChk x0 fun x2 =>
fa1 x2 1 fun x3 =>
ldA x3 take1 s fun x4 s =>
K x4 s))
def F21 : F2 := .fn H21 true
theorem fe21 : feE Tryz.prog ann 21 1 [.j []] = some F21 := by kernel_rfl
/- (*daguerre/lazy.Machine).Heap -/
def H22 : F2C := fun _ _ v s K =>
pop v fun x0 v =>
endE v (
vNil false .ptr x0 fun x1 =>
cnd x1 (K (.nil .ptr) s)
(none))
def F22 : F2 := .fn H22 true
theorem fe22 : feE Tryz.prog ann 22 1 [.cr] = some F22 := by kernel_rfl
/- (*daguerre/lazy.Machine).Type -/
def H23 : F2C := fun _ _ v s K =>
pop v fun x0 v =>
pop v fun x1 v =>
endE v (
vNil false .ptr x0 fun x2 =>
gK x2 false x1 fun x3 =>
gV x2 false (bLt x3 (ci 0)) fun x4 =>
vPick x2 ct x4 fun x5 =>
gK x5 false x1 fun x6 =>
gK x5 false x0 fun x7 =>
gV x5 false (vChk x7) fun x8 =>
gV x5 false (fa1 x8 5) fun x9 =>
gH x5 false (ldA x9 take1) s fun x10 s =>
gV x5 false (vLenS x10) fun x11 =>
gV x5 false (bGe x6 x11) fun x12 =>
vPick x5 ct x12 fun x13 =>
cnd x13 (K (.str []) s)
(vChk x0 fun x14 =>
fa1 x14 5 fun x15 =>
ldA x15 take1 s fun x16 s =>
vIaS x16 x1 1 fun x17 =>
ldA x17 take1 s fun x18 s =>
K x18 s))
def F23 : F2 := .fn H23 true
theorem fe23 : feE Tryz.prog ann 23 2 [.j []] = some F23 := by kernel_rfl
/- (*daguerre/lazy.Machine).Live -/
def H24 : F2C := fun c _ v s K =>
pop v fun x0 v =>
endE v (
vNil false .ptr x0 fun x1 =>
cnd x1 (K (ci 0) s)
(lgE qNoE (zK x0) s fun x2 e3 s =>
lgE qNoE (zV (vChk x2)) s fun x4 e5 s =>
lgE qNoE (zV (fa1 x4 2)) s fun x6 e7 s =>
lgE (qLdE x6 1) (ldA x6 take1) s fun x8 e9 s =>
lgE qNoE (zK x0) s fun x10 e11 s =>
lgE qNoE (zV (vGen (.mkf 61 [(.c x10)] []))) s fun x12 e13 s =>
lgE qNoE (zK x0) s fun x14 e15 s =>
lgE qNoE (c (.mk .d0 .d0 .d7 .d6) [x14]) s fun x16 e17 s =>
lgE qNoE (c (.mk .d0 .d0 .d7 .d4) [x8, x12, x16]) s fun x18 e19 s =>
lgE qNoE (zK x18) s fun x20 e21 s =>
calmE [(3, 5), (3, 7), (5, 7)] [e3, e5, e7, e9, e11, e13, e15, e17, e19, e21] (fun s =>
K x20 s) s))
def F24 : F2 := .fn H24 true
theorem fe24 : feE Tryz.prog ann 24 1 [.j []] = some F24 := by kernel_rfl
/- (*daguerre/lazy.Machine).Copy -/
def H25 : F2C := fun c k v s K =>
pop v fun x0 v =>
endE v (
vNil false .ptr x0 fun x1 =>
cnd x1 (K (.nil .ptr) s)
(vChk x0 fun x2 =>
ldA x2 (takeN 12) s fun x3 s =>
boxD true [.nil .ptr, .nil .ptr, .nil .ptr, .nil .sl, .nil .sl, .nil .sl, .nil .sl, .int .i64 0, .nil .sl, .int .i64 0, .int .i32 0, .str []] s fun x4 s =>
zSt x4 x3 12 s fun _ s =>
lgE qNoE (zK x0) s fun x6 e7 s =>
lgE qNoE (zV (vChk x6)) s fun x8 e9 s =>
lgE qNoE (zV (fa1 x8 1)) s fun x10 e11 s =>
lgE (qLdE x10 1) (ldA x10 take1) s fun x12 e13 s =>
lgE qNoE (c (.mk .d0 .d0 .d7 .d7) [x12]) s fun x14 e15 s =>
lgE qNoE (zK x0) s fun x16 e17 s =>
lgE qNoE (zV (vChk x16)) s fun x18 e19 s =>
lgE qNoE (zV (fa1 x18 3)) s fun x20 e21 s =>
lgE (qLdE x20 1) (ldA x20 take1) s fun x22 e23 s =>
lgE qNoE (c (.mk .d0 .d0 .d6 .d3) [x22]) s fun x24 e25 s =>
lgE qNoE (zK x0) s fun x26 e27 s =>
lgE qNoE (zV (vChk x26)) s fun x28 e29 s =>
lgE qNoE (zV (fa1 x28 5)) s fun x30 e31 s =>
lgE (qLdE x30 1) (ldA x30 take1) s fun x32 e33 s =>
lgE qNoE (c (.mk .d0 .d1 .d0 .d0) [x32]) s fun x34 e35 s =>
lgE qNoE (zV (fa1 x4 1)) s fun x36 e37 s =>
lgE qNoE (zSt x36 x14 1) s fun _ e39 s =>
lgE qNoE (zV (fa1 x4 3)) s fun x40 e41 s =>
lgE qNoE (zSt x40 x24 1) s fun _ e43 s =>
lgE qNoE (zV (fa1 x4 5)) s fun x44 e45 s =>
lgE qNoE (zSt x44 x34 1) s fun _ e47 s =>
calmE [(3, 8), (4, 8), (3, 13), (4, 13), (8, 13), (9, 13)] [e7, e9, e11, e13, e15, e17, e19, e21, e23, e25, e27, e29, e31, e33, e35, e37, e39, e41, e43, e45, e47] (fun s =>
lgE qNoE (zK x0) s fun x48 e49 s =>
lgE qNoE (zV (vChk x48)) s fun x50 e51 s =>
lgE qNoE (zV (fa1 x50 2)) s fun x52 e53 s =>
lgE (qLdE x52 1) (ldA x52 take1) s fun x54 e55 s =>
lgE qNoE (c (.mk .d0 .d1 .d0 .d2) [x54]) s fun x56 e57 s =>
lgE qNoE (zK x0) s fun x58 e59 s =>
lgE qNoE (zV (vChk x58)) s fun x60 e61 s =>
lgE qNoE (zV (fa1 x60 2)) s fun x62 e63 s =>
lgE (qLdE x62 1) (ldA x62 take1) s fun x64 e65 s =>
lgE qNoE (c (.mk .d0 .d1 .d0 .d3) [x64]) s fun x66 e67 s =>
lgE qNoE (c (.mk .d0 .d1 .d0 .d1) [x56, x66]) s fun x68 e69 s =>
lgE qNoE (zK x68) s fun x70 e71 s =>
lgE qNoE (zV (vExt x70 0)) s fun x72 e73 s =>
lgE qNoE (zV (vExt x70 1)) s fun _ e75 s =>
lgE qNoE (zV (fa1 x4 2)) s fun x76 e77 s =>
lgE qNoE (zSt x76 x72 1) s fun _ e79 s =>
calmE [(3, 8), (4, 8)] [e49, e51, e53, e55, e57, e59, e61, e63, e65, e67, e69, e71, e73, e75, e77, e79] (fun s =>
vChk x0 fun x80 =>
fa1 x80 8 fun x81 =>
fa1 x81 0 fun x82 =>
ldA x82 take1 s fun x83 s =>
c (.mk .d0 .d0 .d6 .d3) [x83] s fun x84 s =>
fa1 x4 8 fun x85 =>
fa1 x85 0 fun x86 =>
zSt x86 x84 1 s fun _ s =>
fa1 x4 4 fun x88 =>
zSt x88 (.nil .sl) 1 s fun _ s =>
vChk x0 fun x90 =>
fa1 x90 4 fun x91 =>
ldA x91 take1 s fun x92 s =>
vLenS x92 fun x93 =>
jn (fun _ s =>
K x4 s) fun K94 =>
loopE k (fun _ v s =>
pop v fun x96 _ =>
bLt x96 x93 fun x97 =>
cnd x97 (none)
(K94 [] s)) [(ci 0)] s) s) s))
def F25 : F2 := .fn H25 true
theorem fe25 : feE Tryz.prog ann 25 1 [.j [], .j [], .j [59], .cl, .j []] = some F25 := by kernel_rfl
/- daguerre/daguerrelaw21.begun -/
def H26 : F2C := fun c _ v s K =>
endE v (
vBld [.str [], .str []] (eCons 0 1 (.str [66, 98]) (eCons 1 1 (.str [109, 97, 105, 110]) eNil)) fun x0 =>
boxD false [.str [], .str []] s fun x1 s =>
zSt x1 x0 2 s fun _ s =>
lgE qNoE (c (.mk .d0 .d1 .d0 .d5) []) s fun x3 e4 s =>
lgE (qLdE x1 2) (ldA x1 (takeN 2)) s fun x5 e6 s =>
lgE qNoE (c (.mk .d0 .d0 .d1 .d0) [x3, x5]) s fun x7 e8 s =>
lgE qNoE (zK x7) s fun x9 e10 s =>
lgE qNoE (zV (vExt x9 0)) s fun x11 e12 s =>
lgE qNoE (zV (vExt x9 1)) s fun x13 e14 s =>
lgE qNoE (zK x11) s fun x15 e16 s =>
lgE qNoE (zK x13) s fun x17 e18 s =>
calmE [(0, 1)] [e4, e6, e8, e10, e12, e14, e16, e18] (fun s =>
bEqT x17 (ci 0) fun x19 =>
cnd x19 (none)
(ldA x1 (takeN 2) s fun x20 s =>
c (.mk .d0 .d0 .d3 .d3) [x15, x20] s fun x21 s =>
vNil false .ptr x21 fun x22 =>
gK x22 false x21 fun x23 =>
gH x22 false (c (.mk .d0 .d0 .d2 .d5) [x23]) s fun x24 s =>
gV x22 false (vNil false .ptr x24) fun x25 =>
vPick x22 ct x25 fun x26 =>
cnd x26 (none)
(c (.mk .d0 .d0 .d2 .d5) [x21] s fun x27 s =>
c (.mk .d0 .d0 .d3 .d4) [x27, (.str [65, 97]), (.str [115])] s fun x28 s =>
vExt x28 0 fun x29 =>
vExt x28 1 fun x30 =>
boxD false [.bool false, .int .i32 0] s fun x31 s =>
zSt x31 x29 2 s fun _ s =>
c (.mk .d0 .d1 .d0 .d6) [] s fun x33 s =>
gH x33 true (c (.mk .d0 .d1 .d0 .d7) []) s fun x34 s =>
vPick x33 x34 cf fun x35 =>
gK x35 true x30 fun x36 =>
vPick x35 x36 cf fun x37 =>
gV x37 true (fa1 x31 1) fun x38 =>
gH x37 true (ldA x38 take1) s fun x39 s =>
gV x37 true (bEqF x39 (cj 3)) fun x40 =>
vPick x37 x40 cf fun x41 =>
gK x41 true x21 fun x42 =>
gH x41 true (c (.mk .d0 .d0 .d2 .d5) [x42]) s fun x43 s =>
gH x41 true (c (.mk .d0 .d0 .d3 .d5) [x43, (.str [65, 97])]) s fun x44 s =>
gV x41 true (bEqF x44 (ci 2)) fun x45 =>
vPick x41 x45 cf fun x46 =>
gK x46 true x21 fun x47 =>
gH x46 true (c (.mk .d0 .d0 .d2 .d5) [x47]) s fun x48 s =>
gH x46 true (c (.mk .d0 .d0 .d3 .d5) [x48, (.str [66, 98])]) s fun x49 s =>
gV x46 true (bEqF x49 (ci 0)) fun x50 =>
vPick x46 x50 cf fun x51 =>
gK x51 true x21 fun x52 =>
gH x51 true (c (.mk .d0 .d0 .d3 .d0) [x52]) s fun x53 s =>
gV x51 true (bEqF x53 (ci 0)) fun x54 =>
vPick x51 x54 cf fun x55 =>
K x55 s))) s)
def F26 : F2 := .pur H26 true mNo
theorem fe26 : feE Tryz.prog ann 26 0 [.cl, .cl] = some F26 := by kernel_rfl
def M26 (k : Nat) : F2 := .pur H26 true (Bool.rec mNo (mVal (.bool true)) (Nat.ble 19 k))
/- daguerre/boot.Run -/
def H27 : F2C := fun c k v s K =>
pop v fun x0 v =>
pop v fun x1 v =>
endE v (
zTbox x1 s fun x2 s =>
c (.mk .d0 .d0 .d1 .d6) [x0, (.nil .sl), (ci 20000)] s fun x3 s =>
c (.mk .d0 .d1 .d1 .d0) [x0] s fun x4 s =>
ldA x2 (takeN 2) s fun x5 s =>
c (.mk .d0 .d0 .d1 .d2) [x0, x5] s fun x6 s =>
c (.mk .d0 .d0 .d4 .d3) [x6] s fun x7 s =>
vLenS x7 fun x8 =>
jn (fun v s =>
pop v fun x10 _ =>
c (.mk .d0 .d1 .d1 .d3) [x10] s fun _ s =>
K x10 s) fun K9 =>
loopE k (fun K12 v s =>
pop v fun x13 v =>
pop v fun x14 _ =>
bLt x13 x8 fun x15 =>
cnd x15 (jn (fun v s =>
pop v fun x17 _ =>
bAdd x13 (ci 1) fun x18 =>
K12 [x18, x17] s) fun K16 =>
vIaS x7 x13 1 fun x19 =>
ldA x19 take1 s fun x20 s =>
c (.mk .d0 .d0 .d2 .d5) [x14] s fun x21 s =>
c (.mk .d0 .d0 .d3 .d5) [x21, x20] s fun x22 s =>
bEqT x22 (ci 0) fun x23 =>
gK x23 false x4 fun x24 =>
gK x23 false x20 fun x25 =>
gH x23 false (c (.mk .d0 .d1 .d1 .d1) [x24, x25]) s fun x26 s =>
gV x23 false (vGen (.un .not (.c x26))) fun x27 =>
vPick x23 ct x27 fun x28 =>
cnd x28 (K16 [x14] s)
(c (.mk .d0 .d0 .d3 .d1) [x14] s fun x29 s =>
c (.mk .d0 .d1 .d1 .d2) [x0, x29, x20] s fun x30 s =>
jn (fun v s =>
pop v fun x32 _ =>
K16 [x32] s) fun K31 =>
cnd x30 (K31 [x29] s)
(K31 [x14] s)))
(K9 [x14] s)) [(ci 0), x3] s)
def F27 : F2 := .fn H27 true
theorem fe27 : feE Tryz.prog ann 27 2 [.j [5], .j [19, 5], .j [], .j [5], .j [], .j [5]] = some F27 := by kernel_rfl
/- (*daguerre/state.State).Get -/
def H28 : F2C := fun c _ v s K =>
pop v fun x0 v =>
pop v fun x1 v =>
pop v fun x2 v =>
endE v (
boxD false [.bool false, .int .i32 0] s fun x3 s =>
vNil false .ptr x0 fun x4 =>
cnd x4 (none)
(lgE qNoE (zK x0) s fun x5 e6 s =>
lgE qNoE (zV (vChk x5)) s fun x7 e8 s =>
lgE qNoE (zV (fa1 x7 2)) s fun x9 e10 s =>
lgE (qLdE x9 1) (ldA x9 take1) s fun x11 e12 s =>
lgE qNoE (zK x1) s fun x13 e14 s =>
lgE qNoE (zK x2) s fun x15 e16 s =>
lgE qNoE (c (.mk .d0 .d1 .d1 .d4) [x13, x15]) s fun x17 e18 s =>
lgE qNoE (zLku .str (.agg [.bool false, .int .i32 0]) x11 x17 true) s fun x19 e20 s =>
lgE qNoE (zK x19) s fun x21 e22 s =>
lgE qNoE (zV (vExt x21 0)) s fun x23 e24 s =>
lgE qNoE (zV (vExt x21 1)) s fun x25 e26 s =>
lgE qNoE (boxD false [.bool false, .int .i32 0]) s fun x27 e28 s =>
lgE qNoE (zSt x27 x23 2) s fun _ e30 s =>
lgE qNoE (zK x25) s fun x31 e32 s =>
calmE [(3, 6), (3, 11), (6, 11), (7, 11)] [e6, e8, e10, e12, e14, e16, e18, e20, e22, e24, e26, e28, e30, e32] (fun s =>
ldA x27 (takeN 2) s fun x33 s =>
zSt x3 x33 2 s fun _ s =>
ldA x3 (takeN 2) s fun x35 s => K (.tup [x35, x31]) s) s))
def F28 : F2 := .fn H28 true
theorem fe28 : feE Tryz.prog ann 28 3 [.cl] = some F28 := by kernel_rfl
/- (*daguerre/state.State).At -/
def H29 : F2C := fun _ _ v s K =>
pop v fun x0 v =>
pop v fun x1 v =>
endE v (
vNil false .ptr x0 fun x2 =>
cnd x2 (none)
(vChk x0 fun x3 =>
fa1 x3 1 fun x4 =>
ldA x4 take1 s fun x5 s =>
zLku .str (.int .i64 0) x5 x1 false s fun x6 s =>
K x6 s))
def F29 : F2 := .fn H29 true
theorem fe29 : feE Tryz.prog ann 29 2 [.cl] = some F29 := by kernel_rfl
/- daguerre/daguerrelaw7.Two -/
def H30 : F2C := fun c _ v s K =>
endE v (
vBld [.str [], .nil .sl, .str [], .bool false, .bool false, .int .i64 0, .int .i64 0, .nil .sl, .nil .sl, .nil .sl] (eCons 0 1 (.str [102]) (eCons 2 1 (.str [73]) (eCons 4 1 ct eNil))) fun x0 =>
zHbs [.str [], .nil .sl, .str [], .bool false, .bool false, .int .i64 0, .int .i64 0, .nil .sl, .nil .sl, .nil .sl] 10 1 (eCons 0 10 x0 eNil) s fun x1 s =>
vBld [.str [], .str [], .bool false, .nil .sl, .nil .sl, .nil .sl] (eCons 0 1 (.str [70, 97, 99, 101]) (eCons 1 1 (.str [79, 98, 106, 101, 99, 116]) (eCons 2 1 ct (eCons 5 1 x1 eNil)))) fun x2 =>
boxD false [.str [], .str [], .bool false, .nil .sl, .nil .sl, .nil .sl] s fun x3 s =>
zSt x3 x2 6 s fun _ s =>
zHbs [.str []] 1 1 (eCons 0 1 (.str [70, 97, 99, 101]) eNil) s fun x5 s =>
vBld [.str [], .str [], .bool false] (eCons 0 1 (.str [120]) (eCons 1 1 (.str [73]) eNil)) fun x6 =>
vBld [.str [], .str [], .bool false] (eCons 0 1 (.str [115]) (eCons 1 1 (.str [73]) (eCons 2 1 ct eNil))) fun x7 =>
zHbs [.str [], .str [], .bool false, .str [], .str [], .bool false] 3 2 (eCons 0 3 x6 (eCons 3 3 x7 eNil)) s fun x8 s =>
vBld [.int .i64 0, .int .i64 0, .str [], .str []] (eCons 0 1 (ci 1) (eCons 1 1 (ci 5) eNil)) fun x9 =>
vBld [.int .i64 0, .int .i64 0, .str [], .str []] (eCons 0 1 (ci 47) eNil) fun x10 =>
zHbs [.int .i64 0, .int .i64 0, .str [], .str [], .int .i64 0, .int .i64 0, .str [], .str []] 4 2 (eCons 0 4 x9 (eCons 4 4 x10 eNil)) s fun x11 s =>
vBld [.str [], .nil .sl, .str [], .bool false, .bool false, .int .i64 0, .int .i64 0, .nil .sl, .nil .sl, .nil .sl] (eCons 0 1 (.str [102]) (eCons 2 1 (.str [73]) (eCons 5 1 (ci 1) (eCons 6 1 (ci 1) (eCons 7 1 x11 eNil))))) fun x12 =>
zHbs [.str [], .nil .sl, .str [], .bool false, .bool false, .int .i64 0, .int .i64 0, .nil .sl, .nil .sl, .nil .sl] 10 1 (eCons 0 10 x12 eNil) s fun x13 s =>
vBld [.str [], .str [], .bool false, .nil .sl, .nil .sl, .nil .sl] (eCons 0 1 (.str [65, 97]) (eCons 1 1 (.str [79, 98, 106, 101, 99, 116]) (eCons 3 1 x5 (eCons 4 1 x8 (eCons 5 1 x13 eNil))))) fun x14 =>
boxD false [.str [], .str [], .bool false, .nil .sl, .nil .sl, .nil .sl] s fun x15 s =>
zSt x15 x14 6 s fun _ s =>
c (.mk .d0 .d0 .d1 .d5) [(.str [66, 98])] s fun x17 s =>
boxD false [.str [], .str [], .bool false, .nil .sl, .nil .sl, .nil .sl] s fun x18 s =>
zSt x18 x17 6 s fun _ s =>
fa1 x18 1 fun x20 =>
zSt x20 (.str [65, 97]) 1 s fun _ s =>
vBld [.str [], .str [], .bool false] (eCons 0 1 (.str [121]) (eCons 1 1 (.str [91, 65, 97]) eNil)) fun x22 =>
zHbs [.str [], .str [], .bool false] 3 1 (eCons 0 3 x22 eNil) s fun x23 s =>
fa1 x18 4 fun x24 =>
zSt x24 x23 1 s fun _ s =>
ldA x3 (takeN 6) s fun x26 s =>
ldA x15 (takeN 6) s fun x27 s =>
ldA x18 (takeN 6) s fun x28 s =>
zHbs [.str [], .str [], .bool false, .nil .sl, .nil .sl, .nil .sl, .str [], .str [], .bool false, .nil .sl, .nil .sl, .nil .sl, .str [], .str [], .bool false, .nil .sl, .nil .sl, .nil .sl] 6 3 (eCons 0 6 x26 (eCons 6 6 x27 (eCons 12 6 x28 eNil))) s fun x29 s =>
K x29 s)
def F30 : F2 := .fn H30 true
theorem fe30 : feE Tryz.prog ann 30 0 [] = some F30 := by kernel_rfl
/- daguerre/reach.From -/
def H31 : F2C := fun c _ v s K =>
pop v fun x0 v =>
pop v fun x1 v =>
pop v fun x2 v =>
endE v (
c (.mk .d0 .d0 .d5 .d0) [x0, cf] s fun x3 s =>
c (.mk .d0 .d0 .d5 .d1) [x3, x1, x2] s fun _ s =>
c (.mk .d0 .d0 .d5 .d3) [x3] s fun x5 s =>
K x5 s)
def F31 : F2 := .fn H31 true
theorem fe31 : feE Tryz.prog ann 31 3 [] = some F31 := by kernel_rfl
/- daguerre/daguerrelaw11.Begun -/
def H32 : F2C := fun c _ v s K =>
endE v (
c (.mk .d0 .d1 .d1 .d5) [] s fun x0 s =>
K x0 s)
def F32 : F2 := .pur H32 true mNo
theorem fe32 : feE Tryz.prog ann 32 0 [] = some F32 := by kernel_rfl
/- daguerre/daguerrelaw18.Begun -/
def H33 : F2C := fun c _ v s K =>
endE v (
c (.mk .d0 .d1 .d1 .d6) [] s fun x0 s =>
K x0 s)
def F33 : F2 := .pur H33 true mNo
theorem fe33 : feE Tryz.prog ann 33 0 [] = some F33 := by kernel_rfl
/- (*daguerre/reach.Reach).Made -/
def H34 : F2C := fun c _ v s K =>
pop v fun x0 v =>
endE v (
vNil false .ptr x0 fun x1 =>
cnd x1 (none)
(vChk x0 fun x2 =>
fa1 x2 5 fun x3 =>
ldA x3 take1 s fun x4 s =>
c (.mk .d0 .d1 .d1 .d7) [x0, x4] s fun x5 s =>
K x5 s))
def F34 : F2 := .fn H34 true
theorem fe34 : feE Tryz.prog ann 34 1 [.cl] = some F34 := by kernel_rfl
/- (*daguerre/reach.Reach).Touched -/
def H35 : F2C := fun c _ v s K =>
pop v fun x0 v =>
endE v (
vNil false .ptr x0 fun x1 =>
cnd x1 (none)
(vChk x0 fun x2 =>
fa1 x2 6 fun x3 =>
ldA x3 take1 s fun x4 s =>
c (.mk .d0 .d1 .d1 .d7) [x0, x4] s fun x5 s =>
K x5 s))
def F35 : F2 := .fn H35 true
theorem fe35 : feE Tryz.prog ann 35 1 [.cl] = some F35 := by kernel_rfl
/- daguerre/hier.New -/
def H36 : F2C := fun c k v s K =>
pop v fun x0 v =>
endE v (
vLenS x0 fun x1 =>
bGt x1 (ci 16) fun x2 =>
cnd x2 (none)
(c (.mk .d0 .d1 .d2 .d0) [] s fun x3 s =>
zMkm s fun x4 s =>
vBld [.nil .sl, .nil .map] (eCons 0 1 x3 (eCons 1 1 x4 eNil)) fun x5 =>
zBox true x5 s fun x6 s =>
boxD false [.nil .ptr] s fun x7 s =>
zSt x7 x6 1 s fun _ s =>
ldA x7 take1 s fun x9 s =>
vChk x9 fun x10 =>
fa1 x10 0 fun x11 =>
ldA x11 take1 s fun x12 s =>
vLenS x12 fun x13 =>
jn (fun _ s =>
vLenS x0 fun x15 =>
jn (fun _ s =>
vLenS x0 fun x17 =>
jn (fun _ s =>
vLenS x0 fun x19 =>
jn (fun _ s =>
ldA x7 take1 s fun x21 s =>
K (.tup [x21, (ci 0)]) s) fun K20 =>
loopE k (fun K22 v s =>
pop v fun x23 _ =>
bLt x23 x19 fun x24 =>
cnd x24 (jn (fun _ s =>
bAdd x23 (ci 1) fun x26 =>
K22 [x26] s) fun K25 =>
vIaS x0 x23 6 fun x27 =>
ldA x27 (takeN 6) s fun x28 s =>
boxD false [.str [], .str [], .bool false, .nil .sl, .nil .sl, .nil .sl] s fun x29 s =>
zSt x29 x28 6 s fun _ s =>
ldA x7 take1 s fun x31 s =>
ldA x29 (takeN 6) s fun x32 s =>
c (.mk .d0 .d1 .d2 .d6) [x31, x32] s fun x33 s =>
vGen (.un .not (.c x33)) fun x34 =>
cnd x34 (none)
(K25 [] s))
(K20 [] s)) [(ci 0)] s) fun K18 =>
loopE k (fun K35 v s =>
pop v fun x36 _ =>
bLt x36 x17 fun x37 =>
cnd x37 (jn (fun _ s =>
bAdd x36 (ci 1) fun x39 =>
K35 [x39] s) fun K38 =>
vIaS x0 x36 6 fun x40 =>
ldA x40 (takeN 6) s fun x41 s =>
boxD false [.str [], .str [], .bool false, .nil .sl, .nil .sl, .nil .sl] s fun x42 s =>
zSt x42 x41 6 s fun _ s =>
ldA x42 (takeN 6) s fun x44 s =>
c (.mk .d0 .d1 .d2 .d3) [x44] s fun x45 s =>
vGen (.mkf 84 [] [(.c x7)]) fun x46 =>
c (.mk .d0 .d1 .d2 .d2) [x45, x46] s fun x47 s =>
cnd x47 (none)
(K38 [] s))
(K18 [] s)) [(ci 0)] s) fun K16 =>
loopE k (fun K48 v s =>
pop v fun x49 _ =>
bLt x49 x15 fun x50 =>
cnd x50 (jn (fun _ s =>
bAdd x49 (ci 1) fun x52 =>
K48 [x52] s) fun K51 =>
vIaS x0 x49 6 fun x53 =>
ldA x53 (takeN 6) s fun x54 s =>
boxD false [.str [], .str [], .bool false, .nil .sl, .nil .sl, .nil .sl] s fun x55 s =>
zSt x55 x54 6 s fun _ s =>
lgE (qLdE x7 1) (ldA x7 take1) s fun x57 e58 s =>
lgE qNoE (zV (vChk x57)) s fun x59 e60 s =>
lgE qNoE (zV (fa1 x59 1)) s fun x61 e62 s =>
lgE (qLdE x61 1) (ldA x61 take1) s fun x63 e64 s =>
lgE qNoE (zV (fa1 x55 0)) s fun x65 e66 s =>
lgE (qLdE x65 1) (ldA x65 take1) s fun x67 e68 s =>
lgE qNoE (zLku .str (.int .i64 0) x63 x67 true) s fun x69 e70 s =>
lgE qNoE (zK x69) s fun x71 e72 s =>
lgE qNoE (zV (vExt x71 0)) s fun x73 e74 s =>
lgE qNoE (zV (vExt x71 1)) s fun x75 e76 s =>
lgE qNoE (zK x73) s fun _ e78 s =>
lgE qNoE (zK x75) s fun x79 e80 s =>
calmE [(0, 5), (3, 5)] [e58, e60, e62, e64, e66, e68, e70, e72, e74, e76, e78, e80] (fun s =>
gH x79 false (ldA x55 (takeN 6)) s fun x81 s =>
gH x79 false (c (.mk .d0 .d1 .d2 .d1) [x81]) s fun x82 s =>
gV x79 false (vGen (.un .not (.c x82))) fun x83 =>
vPick x79 ct x83 fun x84 =>
cnd x84 (K (.tup [(.nil .ptr), (ci 1)]) s)
(lgE (qLdE x7 1) (ldA x7 take1) s fun x85 e86 s =>
lgE qNoE (zV (vChk x85)) s fun x87 e88 s =>
lgE qNoE (zV (fa1 x87 1)) s fun x89 e90 s =>
lgE (qLdE x89 1) (ldA x89 take1) s fun x91 e92 s =>
lgE qNoE (zV (fa1 x55 0)) s fun x93 e94 s =>
lgE (qLdE x93 1) (ldA x93 take1) s fun x95 e96 s =>
lgE (qLdE x7 1) (ldA x7 take1) s fun x97 e98 s =>
lgE qNoE (zV (vChk x97)) s fun x99 e100 s =>
lgE qNoE (zV (fa1 x99 0)) s fun x101 e102 s =>
lgE (qLdE x101 1) (ldA x101 take1) s fun x103 e104 s =>
lgE qNoE (zV (vLenS x103)) s fun x105 e106 s =>
lgE qNoE (zMup .str x91 x95 x105) s fun _ e108 s =>
calmE [(0, 5), (3, 5), (0, 6), (3, 6), (5, 6), (0, 9), (3, 9), (5, 9), (0, 10), (3, 10), (5, 10)] [e86, e88, e90, e92, e94, e96, e98, e100, e102, e104, e106, e108] (fun s =>
lgE (qLdE x7 1) (ldA x7 take1) s fun x109 e110 s =>
lgE (qLdE x7 1) (ldA x7 take1) s fun x111 e112 s =>
lgE qNoE (zV (vChk x111)) s fun x113 e114 s =>
lgE qNoE (zV (fa1 x113 0)) s fun x115 e116 s =>
lgE (qLdE x115 1) (ldA x115 take1) s fun x117 e118 s =>
lgE (qLdE x55 6) (ldA x55 (takeN 6)) s fun x119 e120 s =>
lgE qNoE (zBsl [.str [], .str [], .bool false, .nil .sl, .nil .sl, .nil .sl] 6 1 (eCons 0 6 x119 eNil)) s fun x121 e122 s =>
lgE qNoE (appB 6 112 x117 x121) s fun x123 e124 s =>
lgE qNoE (zV (vChk x109)) s fun x125 e126 s =>
lgE qNoE (zV (fa1 x125 0)) s fun x127 e128 s =>
lgE qNoE (zSt x127 x123 1) s fun _ e130 s =>
calmE [(0, 1), (0, 4), (0, 5), (1, 5), (4, 5), (0, 6), (1, 6), (4, 6), (0, 7)] [e110, e112, e114, e116, e118, e120, e122, e124, e126, e128, e130] (fun s =>
K51 [] s) s) s)) s)
(K16 [] s)) [(ci 0)] s) fun K14 =>
loopE k (fun K131 v s =>
pop v fun x132 _ =>
bLt x132 x13 fun x133 =>
cnd x133 (jn (fun _ s =>
bAdd x132 (ci 1) fun x135 =>
K131 [x135] s) fun K134 =>
vIaS x12 x132 6 fun x136 =>
ldA x136 (takeN 6) s fun x137 s =>
boxD false [.str [], .str [], .bool false, .nil .sl, .nil .sl, .nil .sl] s fun x138 s =>
zSt x138 x137 6 s fun _ s =>
lgE (qLdE x7 1) (ldA x7 take1) s fun x140 e141 s =>
lgE qNoE (zV (vChk x140)) s fun x142 e143 s =>
lgE qNoE (zV (fa1 x142 1)) s fun x144 e145 s =>
lgE (qLdE x144 1) (ldA x144 take1) s fun x146 e147 s =>
lgE qNoE (zV (fa1 x138 0)) s fun x148 e149 s =>
lgE (qLdE x148 1) (ldA x148 take1) s fun x150 e151 s =>
lgE qNoE (zK x132) s fun x152 e153 s =>
lgE qNoE (zMup .str x146 x150 x152) s fun _ e155 s =>
calmE [(0, 5), (3, 5)] [e141, e143, e145, e147, e149, e151, e153, e155] (fun s =>
K134 [] s) s)
(K14 [] s)) [(ci 0)] s))
def F36 : F2 := .fn H36 true
theorem fe36 : feE Tryz.prog ann 36 1 [.cl, .j [], .j [27], .j [], .j [], .j [], .j [42], .j [], .j [], .j [], .j [], .j [86], .j [], .j [], .cl, .j [], .j [97], .j [], .j [], .cl] = some F36 := by kernel_rfl
/- daguerre/closed.Linked -/
def H37 : F2C := fun c k v s K =>
pop v fun x0 v =>
endE v (
c (.mk .d0 .d1 .d2 .d7) [x0] s fun x1 s =>
vLenS x1 fun x2 =>
jn (fun _ s =>
c (.mk .d0 .d1 .d2 .d7) [x0] s fun x4 s =>
vLenS x4 fun x5 =>
jn (fun _ s =>
K (ci 0) s) fun K6 =>
loopE k (fun K7 v s =>
pop v fun x8 _ =>
bLt x8 x5 fun x9 =>
cnd x9 (jn (fun _ s =>
bAdd x8 (ci 1) fun x11 =>
K7 [x11] s) fun K10 =>
vIaS x4 x8 1 fun x12 =>
ldA x12 take1 s fun x13 s =>
c (.mk .d0 .d0 .d6 .d7) [x0, x13] s fun x14 s =>
vExt x14 0 fun x15 =>
vExt x14 1 fun _ =>
boxD false [.str [], .str [], .bool false, .nil .sl, .nil .sl, .nil .sl] s fun x17 s =>
zSt x17 x15 6 s fun _ s =>
ldA x17 (takeN 6) s fun x19 s =>
c (.mk .d0 .d1 .d3 .d1) [x0, x19] s fun x20 s =>
vGen (.un .not (.c x20)) fun x21 =>
gK x21 false x0 fun x22 =>
gH x21 false (ldA x17 (takeN 6)) s fun x23 s =>
gH x21 false (c (.mk .d0 .d1 .d3 .d2) [x22, x23]) s fun x24 s =>
gV x21 false (vGen (.un .not (.c x24))) fun x25 =>
vPick x21 ct x25 fun x26 =>
cnd x26 (K (ci 1) s)
(K10 [] s))
(K6 [] s)) [(ci 0)] s) fun K3 =>
loopE k (fun K27 v s =>
pop v fun x28 _ =>
bLt x28 x2 fun x29 =>
cnd x29 (jn (fun _ s =>
bAdd x28 (ci 1) fun x31 =>
K27 [x31] s) fun K30 =>
vIaS x1 x28 1 fun x32 =>
ldA x32 take1 s fun x33 s =>
c (.mk .d0 .d0 .d6 .d7) [x0, x33] s fun x34 s =>
vExt x34 0 fun x35 =>
vExt x34 1 fun _ =>
boxD false [.str [], .str [], .bool false, .nil .sl, .nil .sl, .nil .sl] s fun x37 s =>
zSt x37 x35 6 s fun _ s =>
ldA x37 (takeN 6) s fun x39 s =>
c (.mk .d0 .d1 .d3 .d0) [x0, x39] s fun x40 s =>
vGen (.un .not (.c x40)) fun x41 =>
cnd x41 (none)
(K30 [] s))
(K3 [] s)) [(ci 0)] s)
def F37 : F2 := .fn H37 true
theorem fe37 : feE Tryz.prog ann 37 1 [.j [], .j [14], .j [], .j [], .cl, .j [], .j [32], .j [], .j [], .j []] = some F37 := by kernel_rfl
/- daguerre/link.Method -/
def H38 : F2C := fun c _ v s K =>
pop v fun x0 v =>
pop v fun x1 v =>
pop v fun x2 v =>
endE v (
boxD false [.str [], .nil .sl, .str [], .bool false, .bool false, .int .i64 0, .int .i64 0, .nil .sl, .nil .sl, .nil .sl] s fun x3 s =>
c (.mk .d0 .d1 .d3 .d4) [x0, x1] s fun x4 s =>
c (.mk .d0 .d1 .d3 .d3) [x0, x4, x2, (.fn 93 [] [])] s fun x5 s =>
vExt x5 0 fun x6 =>
vExt x5 1 fun x7 =>
vExt x5 2 fun x8 =>
zSt x3 x7 10 s fun _ s =>
ldA x3 (takeN 10) s fun x10 s => K (.tup [x6, x10, x8]) s)
def F38 : F2 := .fn H38 true
theorem fe38 : feE Tryz.prog ann 38 3 [] = some F38 := by kernel_rfl
/- daguerre/verify.Method -/
def H39 : F2C := fun c k v s K =>
pop v fun x0 v =>
pop v fun x1 v =>
pop v fun x2 v =>
endE v (
zBox true x0 s fun x3 s =>
ldA x3 take1 s fun x4 s =>
c (.mk .d0 .d0 .d6 .d7) [x4, x1] s fun x5 s =>
vExt x5 0 fun x6 =>
vExt x5 1 fun x7 =>
boxD false [.str [], .str [], .bool false, .nil .sl, .nil .sl, .nil .sl] s fun x8 s =>
zSt x8 x6 6 s fun _ s =>
vGen (.un .not (.c x7)) fun x10 =>
gK x10 false x2 fun x11 =>
gV x10 false (bLt x11 (ci 0)) fun x12 =>
vPick x10 ct x12 fun x13 =>
gK x13 false x2 fun x14 =>
gV x13 false (fa1 x8 5) fun x15 =>
gH x13 false (ldA x15 take1) s fun x16 s =>
gV x13 false (vLenS x16) fun x17 =>
gV x13 false (bGe x14 x17) fun x18 =>
vPick x13 ct x18 fun x19 =>
gV x19 false (fa1 x8 5) fun x20 =>
gH x19 false (ldA x20 take1) s fun x21 s =>
gK x19 false x2 fun x22 =>
gV x19 false (vIaS x21 x22 10) fun x23 =>
gV x19 false (fa1 x23 4) fun x24 =>
gH x19 false (ldA x24 take1) s fun x25 s =>
vPick x19 ct x25 fun x26 =>
cnd x26 (K cf s)
(lgE (qLdE x3 1) (ldA x3 take1) s fun x27 e28 s =>
lgE qNoE (zK x1) s fun x29 e30 s =>
lgE qNoE (zV (fa1 x8 5)) s fun x31 e32 s =>
lgE (qLdE x31 1) (ldA x31 take1) s fun x33 e34 s =>
lgE qNoE (zK x2) s fun x35 e36 s =>
lgE qNoE (zV (vIaS x33 x35 10)) s fun x37 e38 s =>
lgE (qLdE x37 10) (ldA x37 (takeN 10)) s fun x39 e40 s =>
lgE qNoE (zV (vBld [.nil .ptr, .str [], .str [], .nil .sl, .str [], .bool false, .bool false, .int .i64 0, .int .i64 0, .nil .sl, .nil .sl, .nil .sl, .nil .sl, .nil .sl, .bool false] (eCons 0 1 x27 (eCons 1 1 x29 (eCons 2 10 x39 eNil))))) s fun x41 e42 s =>
lgE qNoE (zBox false x41) s fun x43 e44 s =>
lgE qNoE (zK x43) s fun x45 e46 s =>
calmE [(0, 3), (0, 6)] [e28, e30, e32, e34, e36, e38, e40, e42, e44, e46] (fun s =>
vChk x45 fun x47 =>
fa1 x47 2 fun x48 =>
fa1 x48 8 fun x49 =>
ldA x49 take1 s fun x50 s =>
vLenS x50 fun x51 =>
jn (fun _ s =>
lgE qNoE (zK x45) s fun x53 e54 s =>
lgE qNoE (zK x45) s fun x55 e56 s =>
lgE qNoE (zV (vChk x55)) s fun x57 e58 s =>
lgE qNoE (zV (fa1 x57 2)) s fun x59 e60 s =>
lgE qNoE (zV (fa1 x59 2)) s fun x61 e62 s =>
lgE (qLdE x61 1) (ldA x61 take1) s fun x63 e64 s =>
lgE qNoE (zV (bEqF x63 (.str [86]))) s fun x65 e66 s =>
lgE qNoE (zK x65) s fun x67 e68 s =>
lgE (qGE x67 false (qLdE x3 1)) (zG x67 false (ldA x3 take1)) s fun x69 e70 s =>
lgE (qGE x67 false qNoE) (zG x67 false (zK x45)) s fun x71 e72 s =>
lgE (qGE x67 false qNoE) (zG x67 false (zV (vChk x71))) s fun x73 e74 s =>
lgE (qGE x67 false qNoE) (zG x67 false (zV (fa1 x73 2))) s fun x75 e76 s =>
lgE (qGE x67 false qNoE) (zG x67 false (zV (fa1 x75 2))) s fun x77 e78 s =>
lgE (qGE x67 false (qLdE x77 1)) (zG x67 false (ldA x77 take1)) s fun x79 e80 s =>
lgE (qGE x67 false qNoE) (zG x67 false (zK x45)) s fun x81 e82 s =>
lgE (qGE x67 false qNoE) (zG x67 false (zV (vChk x81))) s fun x83 e84 s =>
lgE (qGE x67 false qNoE) (zG x67 false (zV (fa1 x83 2))) s fun x85 e86 s =>
lgE (qGE x67 false qNoE) (zG x67 false (zV (fa1 x85 2))) s fun x87 e88 s =>
lgE (qGE x67 false (qLdE x87 1)) (zG x67 false (ldA x87 take1)) s fun x89 e90 s =>
lgE (qGE x67 false qNoE) (zG x67 false (c (.mk .d0 .d1 .d4 .d2) [x69, x79, x89])) s fun x91 e92 s =>
lgE qNoE (zV (vPick x67 ct x91)) s fun x93 e94 s =>
lgE qNoE (c (.mk .d0 .d1 .d4 .d0) [x53, x93]) s fun _ e96 s =>
calmE [(8, 13), (8, 18), (13, 18)] [e54, e56, e58, e60, e62, e64, e66, e68, e70, e72, e74, e76, e78, e80, e82, e84, e86, e88, e90, e92, e94, e96] (fun s =>
vChk x45 fun x97 =>
fa1 x97 2 fun x98 =>
fa1 x98 1 fun x99 =>
ldA x99 take1 s fun x100 s =>
vGen (.mkf 99 [] [(.c x3)]) fun x101 =>
c (.mk .d0 .d1 .d4 .d1) [x100, x101] s fun x102 s =>
c (.mk .d0 .d1 .d4 .d0) [x45, x102] s fun _ s =>
vChk x45 fun x104 =>
fa1 x104 2 fun x105 =>
fa1 x105 3 fun x106 =>
ldA x106 take1 s fun x107 s =>
vGen (.un .not (.c x107)) fun x108 =>
jn (fun _ s =>
lgE qNoE (zK x45) s fun x110 e111 s =>
lgE qNoE (zK x45) s fun x112 e113 s =>
lgE qNoE (zV (vChk x112)) s fun x114 e115 s =>
lgE qNoE (zV (fa1 x114 12)) s fun x116 e117 s =>
lgE (qLdE x116 1) (ldA x116 take1) s fun x118 e119 s =>
lgE qNoE (zK x45) s fun x120 e121 s =>
lgE qNoE (zV (vChk x120)) s fun x122 e123 s =>
lgE qNoE (zV (fa1 x122 2)) s fun x124 e125 s =>
lgE qNoE (zV (fa1 x124 1)) s fun x126 e127 s =>
lgE (qLdE x126 1) (ldA x126 take1) s fun x128 e129 s =>
lgE qNoE (appB 1 16 x118 x128) s fun x130 e131 s =>
lgE qNoE (zV (vChk x110)) s fun x132 e133 s =>
lgE qNoE (zV (fa1 x132 12)) s fun x134 e135 s =>
lgE qNoE (zSt x134 x130 1) s fun _ e137 s =>
calmE [(4, 9)] [e111, e113, e115, e117, e119, e121, e123, e125, e127, e129, e131, e133, e135, e137] (fun s =>
jn (fun _ s =>
vChk x45 fun x139 =>
fa1 x139 2 fun x140 =>
fa1 x140 7 fun x141 =>
ldA x141 take1 s fun x142 s =>
vLenS x142 fun x143 =>
jn (fun _ s =>
vChk x45 fun x145 =>
fa1 x145 14 fun x146 =>
ldA x146 take1 s fun x147 s =>
vGen (.un .not (.c x147)) fun x148 =>
K x148 s) fun K144 =>
loopE k (fun K149 v s =>
pop v fun x150 v =>
pop v fun x151 _ =>
bLt x150 x143 fun x152 =>
cnd x152 (jn (fun v s =>
pop v fun x154 _ =>
bAdd x150 (ci 1) fun x155 =>
K149 [x155, x154] s) fun K153 =>
vIaS x142 x150 4 fun x156 =>
ldA x156 (takeN 4) s fun x157 s =>
boxD false [.int .i64 0, .int .i64 0, .str [], .str []] s fun x158 s =>
zSt x158 x157 4 s fun _ s =>
c (.mk .d0 .d1 .d4 .d4) [x45, x150, x151] s fun _ s =>
vChk x45 fun x161 =>
fa1 x161 14 fun x162 =>
ldA x162 take1 s fun x163 s =>
cnd x163 (none)
(c (.mk .d0 .d1 .d4 .d5) [x45, x150] s fun _ s =>
ldA x158 (takeN 4) s fun x165 s =>
c (.mk .d0 .d1 .d4 .d6) [x45, x165] s fun _ s =>
fa1 x158 0 fun x167 =>
ldA x167 take1 s fun x168 s =>
c (.mk .d0 .d1 .d4 .d7) [x168] s fun x169 s =>
jn (fun _ s =>
lgE qNoE (zK x45) s fun x171 e172 s =>
lgE qNoE (zK x45) s fun x173 e174 s =>
lgE qNoE (zV (vChk x173)) s fun x175 e176 s =>
lgE qNoE (zV (fa1 x175 13)) s fun x177 e178 s =>
lgE (qLdE x177 1) (ldA x177 take1) s fun x179 e180 s =>
lgE qNoE (zV (vLenS x179)) s fun x181 e182 s =>
lgE qNoE (zK x45) s fun x183 e184 s =>
lgE qNoE (zV (vChk x183)) s fun x185 e186 s =>
lgE qNoE (zV (fa1 x185 2)) s fun x187 e188 s =>
lgE qNoE (zV (fa1 x187 6)) s fun x189 e190 s =>
lgE (qLdE x189 1) (ldA x189 take1) s fun x191 e192 s =>
lgE qNoE (zV (bLe x181 x191)) s fun x193 e194 s =>
lgE qNoE (c (.mk .d0 .d1 .d4 .d0) [x171, x193]) s fun _ e196 s =>
calmE [(4, 10), (5, 10)] [e172, e174, e176, e178, e180, e182, e184, e186, e188, e190, e192, e194, e196] (fun s =>
fa1 x158 0 fun x197 =>
ldA x197 take1 s fun x198 s =>
c (.mk .d0 .d1 .d5 .d1) [x198] s fun x199 s =>
vGen (.un .not (.c x199)) fun x200 =>
K153 [x200] s) s) fun K170 =>
cnd x169 (lgE qNoE (zK x45) s fun x201 e202 s =>
lgE qNoE (zV (fa1 x158 1)) s fun x203 e204 s =>
lgE (qLdE x203 1) (ldA x203 take1) s fun x205 e206 s =>
lgE qNoE (zK x45) s fun x207 e208 s =>
lgE qNoE (zV (vChk x207)) s fun x209 e210 s =>
lgE qNoE (zV (fa1 x209 13)) s fun x211 e212 s =>
lgE (qLdE x211 1) (ldA x211 take1) s fun x213 e214 s =>
lgE qNoE (c (.mk .d0 .d1 .d5 .d0) [x201, x205, x213]) s fun _ e216 s =>
calmE [(2, 6)] [e202, e204, e206, e208, e210, e212, e214, e216] (fun s =>
K170 [] s) s)
(K170 [] s)))
(K144 [] s)) [(ci 0), ct] s) fun K138 =>
loopE k (fun _ _ s =>
lgE qNoE (zK x45) s fun x218 e219 s =>
lgE qNoE (zV (vChk x218)) s fun x220 e221 s =>
lgE qNoE (zV (fa1 x220 12)) s fun x222 e223 s =>
lgE (qLdE x222 1) (ldA x222 take1) s fun x224 e225 s =>
lgE qNoE (zV (vLenS x224)) s fun x226 e227 s =>
lgE qNoE (zK x45) s fun x228 e229 s =>
lgE qNoE (zV (vChk x228)) s fun x230 e231 s =>
lgE qNoE (zV (fa1 x230 2)) s fun x232 e233 s =>
lgE qNoE (zV (fa1 x232 5)) s fun x234 e235 s =>
lgE (qLdE x234 1) (ldA x234 take1) s fun x236 e237 s =>
lgE qNoE (zV (bLt x226 x236)) s fun x238 e239 s =>
calmE [(3, 9), (4, 9)] [e219, e221, e223, e225, e227, e229, e231, e233, e235, e237, e239] (fun s =>
cnd x238 (none)
(K138 [] s)) s) [] s) s) fun K109 =>
cnd x108 (vChk x45 fun x240 =>
fa1 x240 12 fun x241 =>
ldA x241 take1 s fun x242 s =>
zBsl [.str []] 1 1 (eCons 0 1 x1 eNil) s fun x243 s =>
appB 1 16 x242 x243 s fun x244 s =>
vChk x45 fun x245 =>
fa1 x245 12 fun x246 =>
zSt x246 x244 1 s fun _ s =>
K109 [] s)
(K109 [] s)) s) fun K52 =>
loopE k (fun K248 v s =>
pop v fun x249 _ =>
bLt x249 x51 fun x250 =>
cnd x250 (jn (fun _ s =>
bAdd x249 (ci 1) fun x252 =>
K248 [x252] s) fun K251 =>
vIaS x50 x249 3 fun x253 =>
ldA x253 (takeN 3) s fun x254 s =>
boxD false [.int .i64 0, .nil .sl, .nil .sl] s fun x255 s =>
zSt x255 x254 3 s fun _ s =>
vGen (.mkf 94 [] [(.c x3)]) fun x257 =>
fa1 x255 1 fun x258 =>
ldA x258 take1 s fun x259 s =>
c (.mk .d0 .d1 .d4 .d1) [x259, x257] s fun x260 s =>
gV x260 true (fa1 x255 2) fun x261 =>
gH x260 true (ldA x261 take1) s fun x262 s =>
gK x260 true x257 fun x263 =>
gH x260 true (c (.mk .d0 .d1 .d4 .d1) [x262, x263]) s fun x264 s =>
vPick x260 x264 cf fun x265 =>
c (.mk .d0 .d1 .d4 .d0) [x45, x265] s fun _ s =>
K251 [] s)
(K52 [] s)) [(ci 0)] s) s))
def F39 : F2 := .fn H39 true
theorem fe39 : feE Tryz.prog ann 39 3 [.j [], .j [], .j [58], .j [], .j [], .j [], .j [], .j [], .cl, .j [], .j [], .j [162, 13], .j [], .j [13], .cl, .j []] = some F39 := by kernel_rfl
/- daguerre/reach.begin -/
def H40 : F2C := fun c k v s K =>
pop v fun x0 v =>
pop v fun x1 v =>
endE v (
c (.mk .d0 .d1 .d5 .d2) [] s fun x2 s =>
zMkm s fun x3 s =>
zMkm s fun x4 s =>
vBld [.nil .ptr, .bool false, .nil .ptr, .nil .sl, .nil .sl, .nil .map, .nil .map, .nil .sl] (eCons 0 1 x0 (eCons 1 1 x1 (eCons 2 1 x2 (eCons 5 1 x3 (eCons 6 1 x4 eNil))))) fun x5 =>
zBox true x5 s fun x6 s =>
c (.mk .d0 .d1 .d2 .d7) [x0] s fun x7 s =>
vLenS x7 fun x8 =>
jn (fun _ s =>
c (.mk .d0 .d1 .d5 .d3) [] s fun x10 s =>
vSlt x10 (eX (ci 1)) eN 1 fun x11 =>
vLenS x11 fun x12 =>
jn (fun _ s =>
K x6 s) fun K13 =>
loopE k (fun K14 v s =>
pop v fun x15 _ =>
bLt x15 x12 fun x16 =>
cnd x16 (jn (fun _ s =>
bAdd x15 (ci 1) fun x18 =>
K14 [x18] s) fun K17 =>
vIaS x11 x15 1 fun x19 =>
ldA x19 take1 s fun x20 s =>
c (.mk .d0 .d1 .d5 .d4) [x6, x20] s fun _ s =>
K17 [] s)
(K13 [] s)) [(ci 0)] s) fun K9 =>
loopE k (fun K22 v s =>
pop v fun x23 _ =>
bLt x23 x8 fun x24 =>
cnd x24 (jn (fun _ s =>
bAdd x23 (ci 1) fun x26 =>
K22 [x26] s) fun K25 =>
vIaS x7 x23 1 fun x27 =>
ldA x27 take1 s fun x28 s =>
c (.mk .d0 .d0 .d6 .d7) [x0, x28] s fun x29 s =>
vExt x29 0 fun x30 =>
vExt x29 1 fun _ =>
boxD false [.str [], .str [], .bool false, .nil .sl, .nil .sl, .nil .sl] s fun x32 s =>
zSt x32 x30 6 s fun _ s =>
fa1 x32 5 fun x34 =>
ldA x34 take1 s fun x35 s =>
vLenS x35 fun x36 =>
jn (fun _ s =>
K25 [] s) fun K37 =>
loopE k (fun K38 v s =>
pop v fun x39 _ =>
bLt x39 x36 fun x40 =>
cnd x40 (jn (fun _ s =>
bAdd x39 (ci 1) fun x42 =>
K38 [x42] s) fun K41 =>
vIaS x35 x39 10 fun x43 =>
ldA x43 (takeN 10) s fun x44 s =>
boxD false [.str [], .nil .sl, .str [], .bool false, .bool false, .int .i64 0, .int .i64 0, .nil .sl, .nil .sl, .nil .sl] s fun x45 s =>
zSt x45 x44 10 s fun _ s =>
lgE qNoE (zK x6) s fun x47 e48 s =>
lgE qNoE (zK x6) s fun x49 e50 s =>
lgE qNoE (zK x6) s fun x51 e52 s =>
lgE qNoE (zV (vChk x51)) s fun x53 e54 s =>
lgE qNoE (zV (fa1 x53 3)) s fun x55 e56 s =>
lgE (qLdE x55 1) (ldA x55 take1) s fun x57 e58 s =>
lgE qNoE (zK x28) s fun x59 e60 s =>
lgE qNoE (zV (bAdd x59 (.str [46]))) s fun x61 e62 s =>
lgE qNoE (zV (fa1 x45 0)) s fun x63 e64 s =>
lgE (qLdE x63 1) (ldA x63 take1) s fun x65 e66 s =>
lgE qNoE (zV (bAdd x61 x65)) s fun x67 e68 s =>
lgE qNoE (zBsl [.str []] 1 1 (eCons 0 1 x67 eNil)) s fun x69 e70 s =>
lgE qNoE (appB 1 16 x57 x69) s fun x71 e72 s =>
lgE qNoE (zK x6) s fun x73 e74 s =>
lgE qNoE (zV (vChk x73)) s fun x75 e76 s =>
lgE qNoE (zV (fa1 x75 4)) s fun x77 e78 s =>
lgE (qLdE x77 1) (ldA x77 take1) s fun x79 e80 s =>
lgE qNoE (zK x28) s fun x81 e82 s =>
lgE qNoE (zV (fa1 x45 0)) s fun x83 e84 s =>
lgE (qLdE x83 1) (ldA x83 take1) s fun x85 e86 s =>
lgE qNoE (zV (vBld [.str [], .str []] (eCons 0 1 x81 (eCons 1 1 x85 eNil)))) s fun x87 e88 s =>
lgE qNoE (zBsl [.str [], .str []] 2 1 (eCons 0 2 x87 eNil)) s fun x89 e90 s =>
lgE qNoE (appB 2 32 x79 x89) s fun x91 e92 s =>
lgE qNoE (zV (vChk x47)) s fun x93 e94 s =>
lgE qNoE (zV (fa1 x93 3)) s fun x95 e96 s =>
lgE qNoE (zSt x95 x71 1) s fun _ e98 s =>
lgE qNoE (zV (vChk x49)) s fun x99 e100 s =>
lgE qNoE (zV (fa1 x99 4)) s fun x101 e102 s =>
lgE qNoE (zSt x101 x91 1) s fun _ e104 s =>
calmE [(5, 9), (5, 11), (5, 16), (9, 16), (11, 16), (12, 16), (5, 19), (9, 19), (11, 19), (12, 19), (16, 19), (5, 20), (9, 20), (11, 20), (12, 20), (16, 20), (5, 21), (9, 21), (11, 21), (12, 21), (16, 21)] [e48, e50, e52, e54, e56, e58, e60, e62, e64, e66, e68, e70, e72, e74, e76, e78, e80, e82, e84, e86, e88, e90, e92, e94, e96, e98, e100, e102, e104] (fun s =>
K41 [] s) s)
(K37 [] s)) [(ci 0)] s)
(K9 [] s)) [(ci 0)] s)
def F40 : F2 := .fn H40 true
theorem fe40 : feE Tryz.prog ann 40 2 [.j [], .j [24], .j [], .j [], .j [], .j [37], .j [], .j [], .j [], .j [73], .j [], .j []] = some F40 := by kernel_rfl
/- (*daguerre/reach.Reach).reach -/
def H41 : F2C := fun c _ v s K =>
pop v fun x0 v =>
pop v fun x1 v =>
pop v fun x2 v =>
endE v (
vChk x0 fun x3 =>
fa1 x3 4 fun x4 =>
ldA x4 take1 s fun x5 s =>
vBld [.str [], .str []] (eCons 0 1 x1 (eCons 1 1 x2 eNil)) fun x6 =>
c (.mk .d0 .d1 .d5 .d5) [x5, x6] s fun x7 s =>
bGe x7 (ci 0) fun x8 =>
jn (fun _ s =>
K (.tup []) s) fun K9 =>
cnd x8 (vChk x0 fun x10 =>
fa1 x10 2 fun x11 =>
ldA x11 take1 s fun x12 s =>
c (.mk .d0 .d1 .d5 .d6) [x12, x7, x7] s fun _ s =>
K9 [] s)
(K9 [] s))
def F41 : F2 := .fn H41 true
theorem fe41 : feE Tryz.prog ann 41 3 [.j []] = some F41 := by kernel_rfl
/- (*daguerre/reach.Reach).touch -/
def H42 : F2C := fun c k v s K =>
pop v fun x0 v =>
pop v fun x1 v =>
endE v (
vChk x0 fun x2 =>
fa1 x2 0 fun x3 =>
ldA x3 take1 s fun x4 s =>
c (.mk .d0 .d1 .d3 .d4) [x4, x1] s fun x5 s =>
vLenS x5 fun x6 =>
jn (fun _ s =>
K (.tup []) s) fun K7 =>
loopE k (fun K8 v s =>
pop v fun x9 _ =>
bLt x9 x6 fun x10 =>
cnd x10 (jn (fun _ s =>
bAdd x9 (ci 1) fun x12 =>
K8 [x12] s) fun K11 =>
vIaS x5 x9 1 fun x13 =>
ldA x13 take1 s fun x14 s =>
vChk x0 fun x15 =>
fa1 x15 6 fun x16 =>
ldA x16 take1 s fun x17 s =>
zLku .str (.bool false) x17 x14 false s fun x18 s =>
cnd x18 (K11 [] s)
(vChk x0 fun x19 =>
fa1 x19 6 fun x20 =>
ldA x20 take1 s fun x21 s =>
zMup .str x21 x14 ct s fun _ s =>
vChk x0 fun x23 =>
fa1 x23 1 fun x24 =>
ldA x24 take1 s fun x25 s =>
jn (fun _ s =>
K11 [] s) fun K26 =>
cnd x25 (c (.mk .d0 .d0 .d5 .d1) [x0, x14, (.str [36, 105, 110, 105, 116])] s fun _ s =>
K26 [] s)
(K26 [] s)))
(K7 [] s)) [(ci 0)] s)
def F42 : F2 := .fn H42 true
theorem fe42 : feE Tryz.prog ann 42 2 [.j [], .j [13], .j [], .j [], .j [], .j []] = some F42 := by kernel_rfl
/- (*daguerre/reach.Reach).walk -/
def H43 : F2C := fun c k v s K =>
pop v fun x0 v =>
endE v (
vChk x0 fun x1 =>
fa1 x1 2 fun x2 =>
ldA x2 take1 s fun x3 s =>
c (.mk .d0 .d1 .d5 .d7) [x3] s fun x4 s =>
vExt x4 0 fun x5 =>
vExt x4 1 fun x6 =>
jn (fun _ s =>
K x0 s) fun K7 =>
loopE k (fun K8 v s =>
pop v fun x9 v =>
pop v fun x10 _ =>
cnd x9 (jn (fun _ s =>
vChk x0 fun x12 =>
fa1 x12 2 fun x13 =>
ldA x13 take1 s fun x14 s =>
c (.mk .d0 .d1 .d5 .d7) [x14] s fun x15 s =>
vExt x15 0 fun x16 =>
vExt x15 1 fun x17 =>
K8 [x17, x16] s) fun K11 =>
lgE qNoE (zK x0) s fun x18 e19 s =>
lgE qNoE (zV (vChk x18)) s fun x20 e21 s =>
lgE qNoE (zV (fa1 x20 0)) s fun x22 e23 s =>
lgE (qLdE x22 1) (ldA x22 take1) s fun x24 e25 s =>
lgE qNoE (zK x0) s fun x26 e27 s =>
lgE qNoE (zV (vChk x26)) s fun x28 e29 s =>
lgE qNoE (zV (fa1 x28 4)) s fun x30 e31 s =>
lgE (qLdE x30 1) (ldA x30 take1) s fun x32 e33 s =>
lgE qNoE (zK x10) s fun x34 e35 s =>
lgE qNoE (zV (vIaS x32 x34 2)) s fun x36 e37 s =>
lgE qNoE (zV (fa1 x36 0)) s fun x38 e39 s =>
lgE (qLdE x38 1) (ldA x38 take1) s fun x40 e41 s =>
lgE qNoE (c (.mk .d0 .d0 .d6 .d7) [x24, x40]) s fun x42 e43 s =>
lgE qNoE (zK x42) s fun x44 e45 s =>
lgE qNoE (zV (vExt x44 0)) s fun x46 e47 s =>
lgE qNoE (zV (vExt x44 1)) s fun x48 e49 s =>
lgE qNoE (boxD false [.str [], .str [], .bool false, .nil .sl, .nil .sl, .nil .sl]) s fun x50 e51 s =>
lgE qNoE (zSt x50 x46 6) s fun _ e53 s =>
lgE qNoE (zK x48) s fun _ e55 s =>
calmE [(3, 7), (3, 11), (3, 16), (7, 16), (11, 16), (12, 16)] [e19, e21, e23, e25, e27, e29, e31, e33, e35, e37, e39, e41, e43, e45, e47, e49, e51, e53, e55] (fun s =>
lgE qNoE (zV (fa1 x50 5)) s fun x56 e57 s =>
lgE (qLdE x56 1) (ldA x56 take1) s fun x58 e59 s =>
lgE (qLdE x50 6) (ldA x50 (takeN 6)) s fun x60 e61 s =>
lgE qNoE (zK x0) s fun x62 e63 s =>
lgE qNoE (zV (vChk x62)) s fun x64 e65 s =>
lgE qNoE (zV (fa1 x64 4)) s fun x66 e67 s =>
lgE (qLdE x66 1) (ldA x66 take1) s fun x68 e69 s =>
lgE qNoE (zK x10) s fun x70 e71 s =>
lgE qNoE (zV (vIaS x68 x70 2)) s fun x72 e73 s =>
lgE qNoE (zV (fa1 x72 1)) s fun x74 e75 s =>
lgE (qLdE x74 1) (ldA x74 take1) s fun x76 e77 s =>
lgE qNoE (c (.mk .d0 .d1 .d6 .d0) [x60, x76]) s fun x78 e79 s =>
lgE qNoE (zV (vIaS x58 x78 10)) s fun x80 e81 s =>
lgE (qLdE x80 10) (ldA x80 (takeN 10)) s fun x82 e83 s =>
lgE qNoE (boxD false [.str [], .nil .sl, .str [], .bool false, .bool false, .int .i64 0, .int .i64 0, .nil .sl, .nil .sl, .nil .sl]) s fun x84 e85 s =>
lgE qNoE (zSt x84 x82 10) s fun _ e87 s =>
calmE [(1, 2), (1, 6), (2, 6), (1, 10), (2, 10), (1, 11), (1, 14), (2, 14), (6, 14), (10, 14), (11, 14), (13, 14)] [e57, e59, e61, e63, e65, e67, e69, e71, e73, e75, e77, e79, e81, e83, e85, e87] (fun s =>
fa1 x84 7 fun x88 =>
ldA x88 take1 s fun x89 s =>
vLenS x89 fun x90 =>
jn (fun _ s =>
K11 [] s) fun K91 =>
loopE k (fun K92 v s =>
pop v fun x93 _ =>
bLt x93 x90 fun x94 =>
cnd x94 (jn (fun _ s =>
bAdd x93 (ci 1) fun x96 =>
K92 [x96] s) fun K95 =>
vIaS x89 x93 4 fun x97 =>
ldA x97 (takeN 4) s fun x98 s =>
boxD false [.int .i64 0, .int .i64 0, .str [], .str []] s fun x99 s =>
zSt x99 x98 4 s fun _ s =>
ldA x99 (takeN 4) s fun x101 s =>
c (.mk .d0 .d1 .d6 .d1) [x0, x101] s fun _ s =>
K95 [] s)
(K91 [] s)) [(ci 0)] s) s) s)
(K7 [] s)) [x6, x5] s)
def F43 : F2 := .fn H43 true
theorem fe43 : feE Tryz.prog ann 43 1 [.j [], .j [4, 3], .j [], .j [], .j [], .j [60], .j [], .j []] = some F43 := by kernel_rfl
/- (*daguerre/pile.Pile).Had -/
def H44 : F2C := fun _ _ v s K =>
pop v fun x0 v =>
pop v fun x1 v =>
endE v (
vNil true .ptr x0 fun x2 =>
gK x2 true x0 fun x3 =>
gV x2 true (vChk x3) fun x4 =>
gV x2 true (fa1 x4 1) fun x5 =>
gH x2 true (ldA x5 take1) s fun x6 s =>
gK x2 true x1 fun x7 =>
gH x2 true (zLku (.int .i64) (.bool false) x6 x7 false) s fun x8 s =>
vPick x2 x8 cf fun x9 =>
K x9 s)
def F44 : F2 := .fn H44 true
theorem fe44 : feE Tryz.prog ann 44 2 [] = some F44 := by kernel_rfl
/- (daguerre/daguerrelaw17.Case).Begin -/
def H45 : F2C := fun c _ v s K =>
pop v fun x0 v =>
pop v fun x1 v =>
endE v (
zTbox x0 s fun x2 s =>
fa1 x2 0 fun x3 =>
ldA x3 take1 s fun x4 s =>
fa1 x2 1 fun x5 =>
ldA x5 (takeN 2) s fun x6 s =>
c (.mk .d0 .d0 .d1 .d0) [x4, x6] s fun x7 s =>
vExt x7 0 fun x8 =>
vExt x7 1 fun x9 =>
bEqT x9 (ci 0) fun x10 =>
cnd x10 (none)
(fa1 x2 3 fun x11 =>
ldA x11 take1 s fun x12 s =>
c (.mk .d0 .d0 .d1 .d6) [x8, x12, x1] s fun x13 s =>
vNil false .ptr x13 fun x14 =>
gK x14 false x13 fun x15 =>
gV x14 false (fa1 x2 1) fun x16 =>
gV x14 false (fa1 x16 0) fun x17 =>
gH x14 false (ldA x17 take1) s fun x18 s =>
gV x14 false (fa1 x2 1) fun x19 =>
gV x14 false (fa1 x19 1) fun x20 =>
gH x14 false (ldA x20 take1) s fun x21 s =>
gH x14 false (c (.mk .d0 .d0 .d1 .d7) [x15, x18, x21]) s fun x22 s =>
gV x14 false (vGen (.un .not (.c x22))) fun x23 =>
vPick x14 ct x23 fun x24 =>
cnd x24 (none)
(K x13 s)))
def F45 : F2 := .fn H45 true
theorem fe45 : feE Tryz.prog ann 45 2 [.cl, .cl] = some F45 := by kernel_rfl
/- daguerre/daguerrelaw12.Begun -/
def H46 : F2C := fun c _ v s K =>
endE v (
c (.mk .d0 .d1 .d6 .d2) [] s fun x0 s =>
K x0 s)
def F46 : F2 := .pur H46 true mNo
theorem fe46 : feE Tryz.prog ann 46 0 [] = some F46 := by kernel_rfl
/- daguerre/daguerrelaw14.Begun -/
def H47 : F2C := fun c _ v s K =>
endE v (
c (.mk .d0 .d1 .d6 .d3) [] s fun x0 s =>
K x0 s)
def F47 : F2 := .pur H47 true mNo
theorem fe47 : feE Tryz.prog ann 47 0 [] = some F47 := by kernel_rfl
/- daguerre/daguerrelaw16.Begun -/
def H48 : F2C := fun c _ v s K =>
endE v (
c (.mk .d0 .d1 .d6 .d4) [] s fun x0 s =>
K x0 s)
def F48 : F2 := .pur H48 true mNo
theorem fe48 : feE Tryz.prog ann 48 0 [] = some F48 := by kernel_rfl
/- daguerre/state.New -/
def H49 : F2C := fun c k v s K =>
pop v fun x0 v =>
endE v (
zMkm s fun x1 s =>
zMkm s fun x2 s =>
vBld [.nil .ptr, .nil .map, .nil .map, .nil .sl] (eCons 0 1 x0 (eCons 1 1 x1 (eCons 2 1 x2 eNil))) fun x3 =>
zBox true x3 s fun x4 s =>
c (.mk .d0 .d1 .d2 .d7) [x0] s fun x5 s =>
vLenS x5 fun x6 =>
jn (fun _ s =>
K x4 s) fun K7 =>
loopE k (fun K8 v s =>
pop v fun x9 _ =>
bLt x9 x6 fun x10 =>
cnd x10 (jn (fun _ s =>
bAdd x9 (ci 1) fun x12 =>
K8 [x12] s) fun K11 =>
vIaS x5 x9 1 fun x13 =>
ldA x13 take1 s fun x14 s =>
vChk x4 fun x15 =>
fa1 x15 1 fun x16 =>
ldA x16 take1 s fun x17 s =>
zMup .str x17 x14 (ci 0) s fun _ s =>
c (.mk .d0 .d1 .d5 .d3) [] s fun x19 s =>
vLenS x19 fun x20 =>
bLt x9 x20 fun x21 =>
jn (fun _ s =>
c (.mk .d0 .d0 .d6 .d7) [x0, x14] s fun x23 s =>
vExt x23 0 fun x24 =>
vExt x23 1 fun _ =>
boxD false [.str [], .str [], .bool false, .nil .sl, .nil .sl, .nil .sl] s fun x26 s =>
zSt x26 x24 6 s fun _ s =>
fa1 x26 4 fun x28 =>
ldA x28 take1 s fun x29 s =>
vLenS x29 fun x30 =>
jn (fun _ s =>
K11 [] s) fun K31 =>
loopE k (fun K32 v s =>
pop v fun x33 _ =>
bLt x33 x30 fun x34 =>
cnd x34 (jn (fun _ s =>
bAdd x33 (ci 1) fun x36 =>
K32 [x36] s) fun K35 =>
vIaS x29 x33 3 fun x37 =>
ldA x37 (takeN 3) s fun x38 s =>
boxD false [.str [], .str [], .bool false] s fun x39 s =>
zSt x39 x38 3 s fun _ s =>
fa1 x39 2 fun x41 =>
ldA x41 take1 s fun x42 s =>
jn (fun _ s =>
K35 [] s) fun K43 =>
cnd x42 (lgE qNoE (zK x4) s fun x44 e45 s =>
lgE qNoE (zV (vChk x44)) s fun x46 e47 s =>
lgE qNoE (zV (fa1 x46 2)) s fun x48 e49 s =>
lgE (qLdE x48 1) (ldA x48 take1) s fun x50 e51 s =>
lgE qNoE (zK x14) s fun x52 e53 s =>
lgE qNoE (zV (fa1 x39 0)) s fun x54 e55 s =>
lgE (qLdE x54 1) (ldA x54 take1) s fun x56 e57 s =>
lgE qNoE (c (.mk .d0 .d1 .d1 .d4) [x52, x56]) s fun x58 e59 s =>
lgE qNoE (zV (fa1 x39 1)) s fun x60 e61 s =>
lgE (qLdE x60 1) (ldA x60 take1) s fun x62 e63 s =>
lgE qNoE (c (.mk .d0 .d1 .d6 .d5) [x62]) s fun x64 e65 s =>
lgE qNoE (zV (vBld [.bool false, .int .i32 0] (eCons 0 1 x64 eNil))) s fun x66 e67 s =>
lgE qNoE (zMup .str x50 x58 x66) s fun _ e69 s =>
calmE [(3, 6), (3, 7), (3, 9), (6, 9), (7, 9), (3, 10), (3, 11)] [e45, e47, e49, e51, e53, e55, e57, e59, e61, e63, e65, e67, e69] (fun s =>
lgE qNoE (zK x4) s fun x70 e71 s =>
lgE qNoE (zK x4) s fun x72 e73 s =>
lgE qNoE (zV (vChk x72)) s fun x74 e75 s =>
lgE qNoE (zV (fa1 x74 3)) s fun x76 e77 s =>
lgE (qLdE x76 1) (ldA x76 take1) s fun x78 e79 s =>
lgE qNoE (zK x14) s fun x80 e81 s =>
lgE qNoE (zV (fa1 x39 0)) s fun x82 e83 s =>
lgE (qLdE x82 1) (ldA x82 take1) s fun x84 e85 s =>
lgE qNoE (c (.mk .d0 .d1 .d1 .d4) [x80, x84]) s fun x86 e87 s =>
lgE qNoE (zBsl [.str []] 1 1 (eCons 0 1 x86 eNil)) s fun x88 e89 s =>
lgE qNoE (appB 1 16 x78 x88) s fun x90 e91 s =>
lgE qNoE (zV (vChk x70)) s fun x92 e93 s =>
lgE qNoE (zV (fa1 x92 3)) s fun x94 e95 s =>
lgE qNoE (zSt x94 x90 1) s fun _ e97 s =>
calmE [(4, 7), (4, 8), (4, 9)] [e71, e73, e75, e77, e79, e81, e83, e85, e87, e89, e91, e93, e95, e97] (fun s =>
K43 [] s) s) s)
(K43 [] s))
(K31 [] s)) [(ci 0)] s) fun K22 =>
cnd x21 (vChk x4 fun x98 =>
fa1 x98 1 fun x99 =>
ldA x99 take1 s fun x100 s =>
zMup .str x100 x14 (ci 2) s fun _ s =>
K22 [] s)
(K22 [] s))
(K7 [] s)) [(ci 0)] s)
def F49 : F2 := .fn H49 true
theorem fe49 : feE Tryz.prog ann 49 1 [.j [], .j [18], .j [], .j [], .j [], .j [], .j [46], .j [], .j [], .j []] = some F49 := by kernel_rfl
/- daguerre/heap.New -/
def H50 : F2C := fun _ _ v s K =>
pop v fun x0 v =>
endE v (
vGen (.mnx true [(.c x0), (.c (ci 0))]) fun x1 =>
vGen (.mnx false [(.c x1), (.c (ci 1048576))]) fun x2 =>
vBld [.int .i64 0, .nil .sl, .nil .sl] (eCons 0 1 x2 eNil) fun x3 =>
zBox true x3 s fun x4 s =>
K x4 s)
def F50 : F2 := .fn H50 true
theorem fe50 : feE Tryz.prog ann 50 1 [] = some F50 := by kernel_rfl
/- slices.Clone[[]int32,int32] -/
def H51 : F2C := fun _ _ v s K =>
pop v fun x0 v =>
endE v (
vNil false .sl x0 fun x1 =>
cnd x1 (K (.nil .sl) s)
(zHbs [] 1 0 eNil s fun x2 s =>
appB 1 4 x2 x0 s fun x3 s =>
K x3 s))
def F51 : F2 := .fn H51 true
theorem fe51 : feE Tryz.prog ann 51 1 [.j []] = some F51 := by kernel_rfl
/- daguerre/lazy.table -/
def H52 : F2C := fun _ k v s K =>
endE v (
zMks false [.nil .fn] 1 8 (ci 62) (ci 62) s fun x0 s =>
jn (fun _ s =>
jn (fun _ s =>
jn (fun _ s =>
vIaS x0 (ci 13) 1 fun x4 =>
zSt x4 (.fn 121 [] []) 1 s fun _ s =>
vIaS x0 (ci 37) 1 fun x6 =>
zSt x6 (.fn 122 [] []) 1 s fun _ s =>
vIaS x0 (ci 38) 1 fun x8 =>
zSt x8 (.fn 123 [] []) 1 s fun _ s =>
vIaS x0 (ci 39) 1 fun x10 =>
zSt x10 (.fn 124 [] []) 1 s fun _ s =>
vIaS x0 (ci 40) 1 fun x12 =>
zSt x12 (.fn 125 [] []) 1 s fun _ s =>
vIaS x0 (ci 41) 1 fun x14 =>
zSt x14 (.fn 125 [] []) 1 s fun _ s =>
vIaS x0 (ci 42) 1 fun x16 =>
zSt x16 (.fn 126 [] []) 1 s fun _ s =>
vIaS x0 (ci 44) 1 fun x18 =>
zSt x18 (.fn 127 [] []) 1 s fun _ s =>
vIaS x0 (ci 43) 1 fun x20 =>
zSt x20 (.fn 128 [] []) 1 s fun _ s =>
vIaS x0 (ci 45) 1 fun x22 =>
zSt x22 (.fn 129 [] []) 1 s fun _ s =>
vIaS x0 (ci 46) 1 fun x24 =>
zSt x24 (.fn 130 [] []) 1 s fun _ s =>
vIaS x0 (ci 47) 1 fun x26 =>
zSt x26 (.fn 130 [] []) 1 s fun _ s =>
vIaS x0 (ci 48) 1 fun x28 =>
zSt x28 (.fn 130 [] []) 1 s fun _ s =>
vIaS x0 (ci 49) 1 fun x30 =>
zSt x30 (.fn 131 [] []) 1 s fun _ s =>
vIaS x0 (ci 50) 1 fun x32 =>
zSt x32 (.fn 131 [] []) 1 s fun _ s =>
vIaS x0 (ci 51) 1 fun x34 =>
zSt x34 (.fn 132 [] []) 1 s fun _ s =>
vIaS x0 (ci 52) 1 fun x36 =>
zSt x36 (.fn 133 [] []) 1 s fun _ s =>
vIaS x0 (ci 54) 1 fun x38 =>
zSt x38 (.fn 133 [] []) 1 s fun _ s =>
vIaS x0 (ci 53) 1 fun x40 =>
zSt x40 (.fn 134 [] []) 1 s fun _ s =>
vIaS x0 (ci 55) 1 fun x42 =>
zSt x42 (.fn 134 [] []) 1 s fun _ s =>
vIaS x0 (ci 56) 1 fun x44 =>
zSt x44 (.fn 135 [] []) 1 s fun _ s =>
vIaS x0 (ci 57) 1 fun x46 =>
zSt x46 (.fn 135 [] []) 1 s fun _ s =>
vIaS x0 (ci 58) 1 fun x48 =>
zSt x48 (.fn 136 [] []) 1 s fun _ s =>
vIaS x0 (ci 59) 1 fun x50 =>
zSt x50 (.fn 137 [] []) 1 s fun _ s =>
vIaS x0 (ci 60) 1 fun x52 =>
zSt x52 (.fn 138 [] []) 1 s fun _ s =>
vIaS x0 (ci 61) 1 fun x54 =>
zSt x54 (.fn 139 [] []) 1 s fun _ s =>
K x0 s) fun K3 =>
loopE k (fun K56 v s =>
pop v fun x57 _ =>
bLe x57 (ci 7) fun x58 =>
cnd x58 (jn (fun _ s =>
bAdd x57 (ci 1) fun x60 =>
K56 [x60] s) fun K59 =>
vIaS x0 x57 1 fun x61 =>
zSt x61 (.fn 120 [] []) 1 s fun _ s =>
K59 [] s)
(K3 [] s)) [(ci 1)] s) fun K2 =>
loopE k (fun K63 v s =>
pop v fun x64 _ =>
bLe x64 (ci 36) fun x65 =>
cnd x65 (jn (fun _ s =>
bAdd x64 (ci 1) fun x67 =>
K63 [x67] s) fun K66 =>
vIaS x0 x64 1 fun x68 =>
zSt x68 (.fn 119 [] []) 1 s fun _ s =>
K66 [] s)
(K2 [] s)) [(ci 20)] s) fun K1 =>
loopE k (fun K70 v s =>
pop v fun x71 _ =>
bLe x71 (ci 19) fun x72 =>
cnd x72 (jn (fun _ s =>
bAdd x71 (ci 1) fun x74 =>
K70 [x74] s) fun K73 =>
vIaS x0 x71 1 fun x75 =>
zSt x75 (.fn 118 [] []) 1 s fun _ s =>
K73 [] s)
(K1 [] s)) [(ci 8)] s)
def F52 : F2 := .fn H52 true
theorem fe52 : feE Tryz.prog ann 52 0 [.j [], .j [2], .j [], .j [], .j [], .j [3], .j [], .j [], .j [], .j [4], .j [], .j []] = some F52 := by kernel_rfl
/- daguerre/frame.New -/
def H54 : F2C := fun _ _ v s K =>
pop v fun x0 v =>
pop v fun x1 v =>
pop v fun x2 v =>
pop v fun x3 v =>
endE v (
bLt x1 (ci 0) fun x4 =>
gK x4 false x1 fun x5 =>
gV x4 false (bGt x5 (ci 16)) fun x6 =>
vPick x4 ct x6 fun x7 =>
gK x7 false x2 fun x8 =>
gV x7 false (bLt x8 (ci 0)) fun x9 =>
vPick x7 ct x9 fun x10 =>
gK x10 false x2 fun x11 =>
gV x10 false (bGt x11 (ci 16)) fun x12 =>
vPick x10 ct x12 fun x13 =>
gK x13 false x3 fun x14 =>
gV x13 false (vLenS x14) fun x15 =>
gK x13 false x1 fun x16 =>
gV x13 false (bGt x15 x16) fun x17 =>
vPick x13 ct x17 fun x18 =>
cnd x18 (none)
(zMks false [.bool false, .int .i32 0] 2 8 x1 x1 s fun x19 s =>
vBld [.int .i64 0, .int .i64 0, .int .i64 0, .nil .sl, .nil .sl] (eCons 0 1 x0 (eCons 2 1 x2 (eCons 3 1 x19 eNil))) fun x20 =>
zBox true x20 s fun x21 s =>
vChk x21 fun x22 =>
fa1 x22 3 fun x23 =>
ldA x23 take1 s fun x24 s =>
zCpy 2 x24 x3 s fun _ s =>
K x21 s))
def F54 : F2 := .fn H54 true
theorem fe54 : feE Tryz.prog ann 54 4 [.cl] = some F54 := by kernel_rfl
/- (*daguerre/lazy.Machine).begins -/
def H53 : F2C := fun _ _ v s K =>
pop v fun x0 v =>
pop v fun x1 v =>
endE v (
zHbs [.nil .ptr] 1 1 (eCons 0 1 x1 eNil) s fun x2 s =>
vChk x0 fun x3 =>
fa1 x3 4 fun x4 =>
zSt x4 x2 1 s fun _ s =>
vChk x0 fun x6 =>
fa1 x6 8 fun x7 =>
fa1 x7 1 fun x8 =>
zSt x8 (ci 0) 1 s fun _ s =>
vChk x0 fun x10 =>
fa1 x10 8 fun x11 =>
fa1 x11 2 fun x12 =>
zSt x12 (cj 0) 1 s fun _ s =>
vChk x0 fun x14 =>
fa1 x14 8 fun x15 =>
fa1 x15 3 fun x16 =>
zSt x16 (.str []) 1 s fun _ s =>
K ct s)
def F53 : F2 := .fn H53 true
theorem fe53 : feE Tryz.prog ann 53 2 [] = some F53 := by kernel_rfl
/- (*daguerre/hier.Hier).Class -/
def H55 : F2C := fun c _ v s K =>
pop v fun x0 v =>
pop v fun x1 v =>
endE v (
boxD false [.str [], .str [], .bool false, .nil .sl, .nil .sl, .nil .sl] s fun x2 s =>
c (.mk .d0 .d1 .d2 .d5) [x0, x1] s fun x3 s =>
vGen (.un .not (.c x3)) fun x4 =>
cnd x4 (vBld [.str [], .str [], .bool false, .nil .sl, .nil .sl, .nil .sl] eNil fun x5 =>
zSt x2 x5 6 s fun _ s =>
ldA x2 (takeN 6) s fun x7 s => K (.tup [x7, cf]) s)
(c (.mk .d0 .d2 .d1 .d4) [x0, x1] s fun x8 s =>
zSt x2 x8 6 s fun _ s =>
ldA x2 (takeN 6) s fun x10 s => K (.tup [x10, ct]) s))
def F55 : F2 := .fn H55 true
theorem fe55 : feE Tryz.prog ann 55 2 [.j []] = some F55 := by kernel_rfl
/- (*daguerre/lazy.Machine).last -/
def H56 : F2C := fun _ _ v s K =>
pop v fun x0 v =>
endE v (
lgE qNoE (zK x0) s fun x1 e2 s =>
lgE qNoE (zV (vChk x1)) s fun x3 e4 s =>
lgE qNoE (zV (fa1 x3 4)) s fun x5 e6 s =>
lgE (qLdE x5 1) (ldA x5 take1) s fun x7 e8 s =>
lgE qNoE (zK x0) s fun x9 e10 s =>
lgE qNoE (zV (vChk x9)) s fun x11 e12 s =>
lgE qNoE (zV (fa1 x11 4)) s fun x13 e14 s =>
lgE (qLdE x13 1) (ldA x13 take1) s fun x15 e16 s =>
lgE qNoE (zV (vLenS x15)) s fun x17 e18 s =>
lgE qNoE (zV (bSub x17 (ci 1))) s fun x19 e20 s =>
lgE qNoE (zV (vIaS x7 x19 1)) s fun x21 e22 s =>
lgE (qLdE x21 1) (ldA x21 take1) s fun x23 e24 s =>
lgE qNoE (zK x23) s fun x25 e26 s =>
calmE [(3, 7), (3, 8)] [e2, e4, e6, e8, e10, e12, e14, e16, e18, e20, e22, e24, e26] (fun s =>
K x25 s) s)
def F56 : F2 := .fn H56 true
theorem fe56 : feE Tryz.prog ann 56 1 [] = some F56 := by kernel_rfl
/- (*daguerre/lazy.Machine).needs -/
def H57 : F2C := fun c k v s K =>
pop v fun x0 v =>
pop v fun x1 v =>
endE v (
jn (fun v s =>
pop v fun x3 _ =>
K x3 s) fun _ =>
loopE k (fun K4 _ s =>
jn (fun _ s =>
K4 [] s) fun K5 =>
vChk x0 fun x6 =>
fa1 x6 1 fun x7 =>
ldA x7 take1 s fun x8 s =>
c (.mk .d0 .d2 .d1 .d5) [x8, x1] s fun x9 s =>
vExt x9 0 fun x10 =>
vExt x9 1 fun x11 =>
jn (fun _ s =>
vChk x0 fun x13 =>
fa1 x13 1 fun x14 =>
ldA x14 take1 s fun x15 s =>
c (.mk .d0 .d2 .d1 .d6) [x15, x10, (ci 1)] s fun _ s =>
vChk x0 fun x17 =>
fa1 x17 0 fun x18 =>
ldA x18 take1 s fun x19 s =>
c (.mk .d0 .d0 .d6 .d7) [x19, x10] s fun x20 s =>
vExt x20 0 fun x21 =>
vExt x20 1 fun _ =>
boxD false [.str [], .str [], .bool false, .nil .sl, .nil .sl, .nil .sl] s fun x23 s =>
zSt x23 x21 6 s fun _ s =>
ldA x23 (takeN 6) s fun x25 s =>
c (.mk .d0 .d1 .d6 .d0) [x25, (.str [36, 105, 110, 105, 116])] s fun x26 s =>
bGe x26 (ci 0) fun x27 =>
cnd x27 (fa1 x23 5 fun x28 =>
ldA x28 take1 s fun x29 s =>
vIaS x29 x26 10 fun x30 =>
ldA x30 (takeN 10) s fun x31 s =>
c (.mk .d0 .d2 .d2 .d0) [x0, x10, x31, ct, (.nil .sl)] s fun _ s =>
K cf s)
(vChk x0 fun x33 =>
fa1 x33 1 fun x34 =>
ldA x34 take1 s fun x35 s =>
c (.mk .d0 .d2 .d1 .d6) [x35, x10, (ci 2)] s fun _ s =>
K5 [] s)) fun K12 =>
bEqF x10 (.str []) fun x37 =>
cnd x37 (K ct s)
(bEqF x11 (ci 3) fun x38 =>
cnd x38 (none)
(K12 [] s))) [] s)
def F57 : F2 := .fn H57 true
theorem fe57 : feE Tryz.prog ann 57 2 [.j [4], .j [], .j [], .j [], .j [], .cl, .j []] = some F57 := by kernel_rfl
/- (*daguerre/lazy.Machine).back -/
def H58 : F2C := fun c _ v s K =>
pop v fun x0 v =>
pop v fun x1 v =>
pop v fun x2 v =>
endE v (
lgE qNoE (zK x0) s fun x3 e4 s =>
lgE qNoE (zK x0) s fun x5 e6 s =>
lgE qNoE (zV (vChk x5)) s fun x7 e8 s =>
lgE qNoE (zV (fa1 x7 4)) s fun x9 e10 s =>
lgE (qLdE x9 1) (ldA x9 take1) s fun x11 e12 s =>
lgE qNoE (zK x0) s fun x13 e14 s =>
lgE qNoE (zV (vChk x13)) s fun x15 e16 s =>
lgE qNoE (zV (fa1 x15 4)) s fun x17 e18 s =>
lgE (qLdE x17 1) (ldA x17 take1) s fun x19 e20 s =>
lgE qNoE (zV (vLenS x19)) s fun x21 e22 s =>
lgE qNoE (zV (bSub x21 (ci 1))) s fun x23 e24 s =>
lgE qNoE (zV (vSlt x11 eN (eX x23) 1)) s fun x25 e26 s =>
lgE qNoE (zV (vChk x3)) s fun x27 e28 s =>
lgE qNoE (zV (fa1 x27 4)) s fun x29 e30 s =>
lgE qNoE (zSt x29 x25 1) s fun _ e32 s =>
calmE [(4, 8), (4, 9)] [e4, e6, e8, e10, e12, e14, e16, e18, e20, e22, e24, e26, e28, e30, e32] (fun s =>
vChk x1 fun x33 =>
fa1 x33 12 fun x34 =>
ldA x34 take1 s fun x35 s =>
jn (fun _ s =>
jn (fun _ s =>
K (.tup []) s) fun K37 =>
vChk x0 fun x38 =>
fa1 x38 4 fun x39 =>
ldA x39 take1 s fun x40 s =>
vLenS x40 fun x41 =>
bEqF x41 (ci 0) fun x42 =>
jn (fun _ s =>
K37 [] s) fun K43 =>
cnd x42 (c (.mk .d0 .d2 .d2 .d1) [x0, (ci 1)] s fun _ s =>
K43 [] s)
(vChk x1 fun x45 =>
fa1 x45 12 fun x46 =>
ldA x46 take1 s fun x47 s =>
vGen (.un .not (.c x47)) fun x48 =>
jn (fun _ s =>
K43 [] s) fun K49 =>
cnd x48 (c (.mk .d0 .d0 .d7 .d0) [x0] s fun x50 s =>
vChk x50 fun x51 =>
fa1 x51 0 fun x52 =>
ldA x52 take1 s fun x53 s =>
c (.mk .d0 .d2 .d2 .d2) [x53, x2] s fun _ s =>
lgE qNoE (zK x50) s fun x55 e56 s =>
lgE qNoE (zV (vChk x55)) s fun x57 e58 s =>
lgE qNoE (zV (fa1 x57 0)) s fun x59 e60 s =>
lgE (qLdE x59 1) (ldA x59 take1) s fun x61 e62 s =>
lgE qNoE (zK x50) s fun x63 e64 s =>
lgE qNoE (zV (vChk x63)) s fun x65 e66 s =>
lgE qNoE (zV (fa1 x65 0)) s fun x67 e68 s =>
lgE (qLdE x67 1) (ldA x67 take1) s fun x69 e70 s =>
lgE qNoE (c (.mk .d0 .d0 .d7 .d3) [x69]) s fun x71 e72 s =>
lgE qNoE (zV (bAdd x71 (ci 1))) s fun x73 e74 s =>
lgE qNoE (c (.mk .d0 .d2 .d2 .d3) [x61, x73]) s fun _ e76 s =>
calmE [(3, 7), (3, 8)] [e56, e58, e60, e62, e64, e66, e68, e70, e72, e74, e76] (fun s =>
K49 [] s) s)
(K49 [] s))) fun K36 =>
cnd x35 (lgE qNoE (zK x0) s fun x77 e78 s =>
lgE qNoE (zV (vChk x77)) s fun x79 e80 s =>
lgE qNoE (zV (fa1 x79 1)) s fun x81 e82 s =>
lgE (qLdE x81 1) (ldA x81 take1) s fun x83 e84 s =>
lgE qNoE (zK x1) s fun x85 e86 s =>
lgE qNoE (zV (vChk x85)) s fun x87 e88 s =>
lgE qNoE (zV (fa1 x87 1)) s fun x89 e90 s =>
lgE (qLdE x89 1) (ldA x89 take1) s fun x91 e92 s =>
lgE qNoE (c (.mk .d0 .d2 .d1 .d6) [x83, x91, (ci 2)]) s fun _ e94 s =>
calmE [(3, 7)] [e78, e80, e82, e84, e86, e88, e90, e92, e94] (fun s =>
K36 [] s) s)
(K36 [] s)) s)
def F58 : F2 := .fn H58 true
theorem fe58 : feE Tryz.prog ann 58 3 [.j [], .j [], .j [], .j []] = some F58 := by kernel_rfl
/- (*daguerre/frame.Frame).Pc -/
def H59 : F2C := fun _ _ v s K =>
pop v fun x0 v =>
endE v (
vNil false .ptr x0 fun x1 =>
cnd x1 (none)
(vChk x0 fun x2 =>
fa1 x2 1 fun x3 =>
ldA x3 take1 s fun x4 s =>
K x4 s))
def F59 : F2 := .fn H59 true
theorem fe59 : feE Tryz.prog ann 59 1 [.cl] = some F59 := by kernel_rfl
/- (*daguerre/lazy.Machine).roots -/
def H62 : F2C := fun c k v s K =>
pop v fun x0 v =>
endE v (
vChk x0 fun x1 =>
fa1 x1 1 fun x2 =>
ldA x2 take1 s fun x3 s =>
c (.mk .d0 .d2 .d3 .d0) [x3] s fun x4 s =>
vChk x0 fun x5 =>
fa1 x5 4 fun x6 =>
ldA x6 take1 s fun x7 s =>
vLenS x7 fun x8 =>
jn (fun v s =>
pop v fun x10 _ =>
K x10 s) fun K9 =>
loopE k (fun K11 v s =>
pop v fun x12 v =>
pop v fun x13 _ =>
bLt x12 x8 fun x14 =>
cnd x14 (jn (fun v s =>
pop v fun x16 _ =>
bAdd x12 (ci 1) fun x17 =>
K11 [x17, x16] s) fun K15 =>
vIaS x7 x12 1 fun x18 =>
ldA x18 take1 s fun x19 s =>
vChk x19 fun x20 =>
fa1 x20 0 fun x21 =>
ldA x21 take1 s fun x22 s =>
c (.mk .d0 .d2 .d3 .d1) [x22] s fun x23 s =>
appB 1 8 x13 x23 s fun x24 s =>
K15 [x24] s)
(K9 [x13] s)) [(ci 0), x4] s)
def F62 : F2 := .fn H62 true
theorem fe62 : feE Tryz.prog ann 62 1 [.j [3], .j [16, 3], .j [], .j [3]] = some F62 := by kernel_rfl
/- daguerre/collect.Live -/
def H60 : F2C := fun c _ v s K =>
pop v fun x0 v =>
pop v fun x1 v =>
pop v fun x2 v =>
endE v (
c (.mk .d0 .d2 .d2 .d4) [x0, x1, x2] s fun x3 s =>
vExt x3 0 fun x4 =>
vExt x3 1 fun _ =>
c (.mk .d0 .d2 .d2 .d5) [x4] s fun x6 s =>
K x6 s)
def F60 : F2 := .fn H60 true
theorem fe60 : feE Tryz.prog ann 60 3 [] = some F60 := by kernel_rfl
/- (*daguerre/state.State).Copy -/
def H63 : F2C := fun c _ v s K =>
pop v fun x0 v =>
endE v (
vNil false .ptr x0 fun x1 =>
cnd x1 (none)
(lgE qNoE (zK x0) s fun x2 e3 s =>
lgE qNoE (zV (vChk x2)) s fun x4 e5 s =>
lgE qNoE (zV (fa1 x4 0)) s fun x6 e7 s =>
lgE (qLdE x6 1) (ldA x6 take1) s fun x8 e9 s =>
lgE qNoE (zK x0) s fun x10 e11 s =>
lgE qNoE (zV (vChk x10)) s fun x12 e13 s =>
lgE qNoE (zV (fa1 x12 1)) s fun x14 e15 s =>
lgE (qLdE x14 1) (ldA x14 take1) s fun x16 e17 s =>
lgE qNoE (c (.mk .d0 .d2 .d3 .d2) [x16]) s fun x18 e19 s =>
lgE qNoE (zK x0) s fun x20 e21 s =>
lgE qNoE (zV (vChk x20)) s fun x22 e23 s =>
lgE qNoE (zV (fa1 x22 2)) s fun x24 e25 s =>
lgE (qLdE x24 1) (ldA x24 take1) s fun x26 e27 s =>
lgE qNoE (c (.mk .d0 .d2 .d3 .d3) [x26]) s fun x28 e29 s =>
lgE qNoE (zK x0) s fun x30 e31 s =>
lgE qNoE (zV (vChk x30)) s fun x32 e33 s =>
lgE qNoE (zV (fa1 x32 3)) s fun x34 e35 s =>
lgE (qLdE x34 1) (ldA x34 take1) s fun x36 e37 s =>
lgE qNoE (zV (vBld [.nil .ptr, .nil .map, .nil .map, .nil .sl] (eCons 0 1 x8 (eCons 1 1 x18 (eCons 2 1 x28 (eCons 3 1 x36 eNil)))))) s fun x38 e39 s =>
lgE qNoE (zBox true x38) s fun x40 e41 s =>
lgE qNoE (zK x40) s fun x42 e43 s =>
calmE [(3, 7), (3, 8), (3, 12), (7, 12), (8, 12), (3, 13), (3, 17), (7, 17), (8, 17), (12, 17), (13, 17)] [e3, e5, e7, e9, e11, e13, e15, e17, e19, e21, e23, e25, e27, e29, e31, e33, e35, e37, e39, e41, e43] (fun s =>
K x42 s) s))
def F63 : F2 := .fn H63 true
theorem fe63 : feE Tryz.prog ann 63 1 [.cl] = some F63 := by kernel_rfl
/- slices.Clone[[]string,string] -/
def H64 : F2C := fun _ _ v s K =>
pop v fun x0 v =>
endE v (
vNil false .sl x0 fun x1 =>
cnd x1 (K (.nil .sl) s)
(zHbs [] 1 0 eNil s fun x2 s =>
appB 1 16 x2 x0 s fun x3 s =>
K x3 s))
def F64 : F2 := .fn H64 true
theorem fe64 : feE Tryz.prog ann 64 1 [.j []] = some F64 := by kernel_rfl
/- (*daguerre/heap.Heap).Words -/
def H66 : F2C := fun c _ v s K =>
pop v fun x0 v =>
endE v (
vNil false .ptr x0 fun x1 =>
cnd x1 (none)
(vChk x0 fun x2 =>
fa1 x2 1 fun x3 =>
ldA x3 take1 s fun x4 s =>
c (.mk .d0 .d0 .d6 .d3) [x4] s fun x5 s =>
K x5 s))
def F66 : F2 := .fn H66 true
theorem fe66 : feE Tryz.prog ann 66 1 [.cl] = some F66 := by kernel_rfl
/- (*daguerre/heap.Heap).Size -/
def H67 : F2C := fun _ _ v s K =>
pop v fun x0 v =>
endE v (
vNil false .ptr x0 fun x1 =>
cnd x1 (none)
(vChk x0 fun x2 =>
fa1 x2 0 fun x3 =>
ldA x3 take1 s fun x4 s =>
K x4 s))
def F67 : F2 := .fn H67 true
theorem fe67 : feE Tryz.prog ann 67 1 [.cl] = some F67 := by kernel_rfl
/- daguerre/heap.Of -/
def H65 : F2C := fun c k v s K =>
pop v fun x0 v =>
pop v fun x1 v =>
endE v (
c (.mk .d0 .d0 .d6 .d2) [x1] s fun x2 s =>
vLenS x0 fun x3 =>
vChk x2 fun x4 =>
fa1 x4 0 fun x5 =>
ldA x5 take1 s fun x6 s =>
bGt x3 x6 fun x7 =>
cnd x7 (none)
(lgE qNoE (zK x2) s fun x8 e9 s =>
lgE qNoE (zK x2) s fun x10 e11 s =>
lgE qNoE (zK x0) s fun x12 e13 s =>
lgE qNoE (c (.mk .d0 .d0 .d6 .d3) [x12]) s fun x14 e15 s =>
lgE qNoE (zK x0) s fun x16 e17 s =>
lgE qNoE (zV (vLenS x16)) s fun x18 e19 s =>
lgE qNoE (zMks false [.bool false] 1 1 x18 x18) s fun x20 e21 s =>
lgE qNoE (zV (vChk x8)) s fun x22 e23 s =>
lgE qNoE (zV (fa1 x22 1)) s fun x24 e25 s =>
lgE qNoE (zSt x24 x14 1) s fun _ e27 s =>
lgE qNoE (zV (vChk x10)) s fun x28 e29 s =>
lgE qNoE (zV (fa1 x28 2)) s fun x30 e31 s =>
lgE qNoE (zSt x30 x20 1) s fun _ e33 s =>
calmE [(3, 5), (3, 6), (5, 9), (6, 9)] [e9, e11, e13, e15, e17, e19, e21, e23, e25, e27, e29, e31, e33] (fun s =>
jn (fun _ s =>
K (.tup [x2, ct]) s) fun K34 =>
loopE k (fun K35 v s =>
pop v fun x36 _ =>
vLenS x0 fun x37 =>
bLt x36 x37 fun x38 =>
cnd x38 (jn (fun v s =>
pop v fun x40 _ =>
K35 [x40] s) fun K39 =>
lgE qNoE (zK x36) s fun x41 e42 s =>
lgE qNoE (zV (bAdd x41 (ci 1))) s fun x43 e44 s =>
lgE qNoE (zK x0) s fun x45 e46 s =>
lgE qNoE (zV (vLenS x45)) s fun x47 e48 s =>
lgE qNoE (zV (bEqF x43 x47)) s fun x49 e50 s =>
lgE qNoE (zK x49) s fun x51 e52 s =>
lgE (qGE x51 false qNoE) (zG x51 false (zK x0)) s fun x53 e54 s =>
lgE (qGE x51 false qNoE) (zG x51 false (zK x36)) s fun x55 e56 s =>
lgE (qGE x51 false qNoE) (zG x51 false (zV (vIaS x53 x55 1))) s fun x57 e58 s =>
lgE (qGE x51 false (qLdE x57 1)) (zG x51 false (ldA x57 take1)) s fun x59 e60 s =>
lgE (qGE x51 false qNoE) (zG x51 false (zV (vCv .i64 x59))) s fun x61 e62 s =>
lgE (qGE x51 false qNoE) (zG x51 false (zK x0)) s fun x63 e64 s =>
lgE (qGE x51 false qNoE) (zG x51 false (zK x36)) s fun x65 e66 s =>
lgE (qGE x51 false qNoE) (zG x51 false (zV (bAdd x65 (ci 1)))) s fun x67 e68 s =>
lgE (qGE x51 false qNoE) (zG x51 false (zV (vIaS x63 x67 1))) s fun x69 e70 s =>
lgE (qGE x51 false (qLdE x69 1)) (zG x51 false (ldA x69 take1)) s fun x71 e72 s =>
lgE (qGE x51 false qNoE) (zG x51 false (zV (vCv .i64 x71))) s fun x73 e74 s =>
lgE (qGE x51 false qNoE) (zG x51 false (c (.mk .d0 .d2 .d3 .d4) [x61, x73])) s fun x75 e76 s =>
lgE (qGE x51 false qNoE) (zG x51 false (zV (vGen (.un .not (.c x75))))) s fun x77 e78 s =>
lgE qNoE (zV (vPick x51 ct x77)) s fun x79 e80 s =>
lgE qNoE (zK x79) s fun x81 e82 s =>
lgE (qGE x81 false qNoE) (zG x81 false (zK x0)) s fun x83 e84 s =>
lgE (qGE x81 false qNoE) (zG x81 false (zK x36)) s fun x85 e86 s =>
lgE (qGE x81 false qNoE) (zG x81 false (zV (bAdd x85 (ci 1)))) s fun x87 e88 s =>
lgE (qGE x81 false qNoE) (zG x81 false (zV (vIaS x83 x87 1))) s fun x89 e90 s =>
lgE (qGE x81 false (qLdE x89 1)) (zG x81 false (ldA x89 take1)) s fun x91 e92 s =>
lgE (qGE x81 false qNoE) (zG x81 false (zV (vCv .i64 x91))) s fun x93 e94 s =>
lgE (qGE x81 false qNoE) (zG x81 false (zK x0)) s fun x95 e96 s =>
lgE (qGE x81 false qNoE) (zG x81 false (zV (vLenS x95))) s fun x97 e98 s =>
lgE (qGE x81 false qNoE) (zG x81 false (zK x36)) s fun x99 e100 s =>
lgE (qGE x81 false qNoE) (zG x81 false (zV (bSub x97 x99))) s fun x101 e102 s =>
lgE (qGE x81 false qNoE) (zG x81 false (zV (bSub x101 (ci 2)))) s fun x103 e104 s =>
lgE (qGE x81 false qNoE) (zG x81 false (zV (bGt x93 x103))) s fun x105 e106 s =>
lgE qNoE (zV (vPick x81 ct x105)) s fun x107 e108 s =>
calmE [(9, 15), (10, 15), (9, 16), (10, 16), (25, 28), (26, 28)] [e42, e44, e46, e48, e50, e52, e54, e56, e58, e60, e62, e64, e66, e68, e70, e72, e74, e76, e78, e80, e82, e84, e86, e88, e90, e92, e94, e96, e98, e100, e102, e104, e106, e108] (fun s =>
cnd x107 (none)
(vChk x2 fun x109 =>
fa1 x109 2 fun x110 =>
ldA x110 take1 s fun x111 s =>
vIaS x111 x36 1 fun x112 =>
zSt x112 ct 1 s fun _ s =>
bAdd x36 (ci 1) fun x114 =>
vIaS x0 x114 1 fun x115 =>
ldA x115 take1 s fun x116 s =>
vCv .i64 x116 fun x117 =>
bAdd (ci 2) x117 fun x118 =>
bAdd x36 x118 fun x119 =>
K39 [x119] s)) s)
(K34 [] s)) [(ci 0)] s) s))
def F65 : F2 := .fn H65 true
theorem fe65 : feE Tryz.prog ann 65 2 [.cl, .j [], .j [7], .j [], .j [7], .cl] = some F65 := by kernel_rfl
/- daguerre/daguerrelaw20.Three -/
def H69 : F2C := fun c _ v s K =>
endE v (
c (.mk .d0 .d0 .d3 .d6) [] s fun x0 s =>
vIaS x0 (ci 1) 6 fun x1 =>
fa1 x1 5 fun x2 =>
ldA x2 take1 s fun x3 s =>
vBld [.int .i64 0, .int .i64 0, .str [], .str []] (eCons 0 1 (ci 1) (eCons 1 1 (ci 3) eNil)) fun x4 =>
vBld [.int .i64 0, .int .i64 0, .str [], .str []] (eCons 0 1 (ci 41) (eCons 2 1 (.str [65, 97]) (eCons 3 1 (.str [115]) eNil))) fun x5 =>
vBld [.int .i64 0, .int .i64 0, .str [], .str []] (eCons 0 1 (ci 46) eNil) fun x6 =>
zHbs [.int .i64 0, .int .i64 0, .str [], .str [], .int .i64 0, .int .i64 0, .str [], .str [], .int .i64 0, .int .i64 0, .str [], .str []] 4 3 (eCons 0 4 x4 (eCons 4 4 x5 (eCons 8 4 x6 eNil))) s fun x7 s =>
vBld [.str [], .nil .sl, .str [], .bool false, .bool false, .int .i64 0, .int .i64 0, .nil .sl, .nil .sl, .nil .sl] (eCons 0 1 (.str [36, 105, 110, 105, 116]) (eCons 2 1 (.str [86]) (eCons 3 1 ct (eCons 6 1 (ci 1) (eCons 7 1 x7 eNil))))) fun x8 =>
zBsl [.str [], .nil .sl, .str [], .bool false, .bool false, .int .i64 0, .int .i64 0, .nil .sl, .nil .sl, .nil .sl] 10 1 (eCons 0 10 x8 eNil) s fun x9 s =>
appB 10 152 x3 x9 s fun x10 s =>
vIaS x0 (ci 1) 6 fun x11 =>
fa1 x11 5 fun x12 =>
zSt x12 x10 1 s fun _ s =>
vIaS x0 (ci 2) 6 fun x14 =>
fa1 x14 5 fun x15 =>
ldA x15 take1 s fun x16 s =>
vBld [.int .i64 0, .int .i64 0, .str [], .str []] (eCons 0 1 (ci 1) (eCons 1 1 (ci 4) eNil)) fun x17 =>
vBld [.int .i64 0, .int .i64 0, .str [], .str []] (eCons 0 1 (ci 60) eNil) fun x18 =>
vBld [.int .i64 0, .int .i64 0, .str [], .str []] (eCons 0 1 (ci 46) eNil) fun x19 =>
zHbs [.int .i64 0, .int .i64 0, .str [], .str [], .int .i64 0, .int .i64 0, .str [], .str [], .int .i64 0, .int .i64 0, .str [], .str []] 4 3 (eCons 0 4 x17 (eCons 4 4 x18 (eCons 8 4 x19 eNil))) s fun x20 s =>
vBld [.str [], .nil .sl, .str [], .bool false, .bool false, .int .i64 0, .int .i64 0, .nil .sl, .nil .sl, .nil .sl] (eCons 0 1 (.str [36, 105, 110, 105, 116]) (eCons 2 1 (.str [86]) (eCons 3 1 ct (eCons 6 1 (ci 1) (eCons 7 1 x20 eNil))))) fun x21 =>
zBsl [.str [], .nil .sl, .str [], .bool false, .bool false, .int .i64 0, .int .i64 0, .nil .sl, .nil .sl, .nil .sl] 10 1 (eCons 0 10 x21 eNil) s fun x22 s =>
appB 10 152 x16 x22 s fun x23 s =>
vIaS x0 (ci 2) 6 fun x24 =>
fa1 x24 5 fun x25 =>
zSt x25 x23 1 s fun _ s =>
K x0 s)
def F69 : F2 := .fn H69 true
theorem fe69 : feE Tryz.prog ann 69 0 [] = some F69 := by kernel_rfl
/- daguerre/daguerrelaw17.Begun -/
def H70 : F2C := fun c _ v s K =>
endE v (
c (.mk .d0 .d0 .d1 .d4) [] s fun x0 s =>
K x0 s)
def F70 : F2 := .pur H70 true mNo
theorem fe70 : feE Tryz.prog ann 70 0 [] = some F70 := by kernel_rfl
/- daguerre/daguerrelaw20.Begun -/
def H71 : F2C := fun c _ v s K =>
endE v (
c (.mk .d0 .d2 .d3 .d6) [] s fun x0 s =>
K x0 s)
def F71 : F2 := .pur H71 true mNo
theorem fe71 : feE Tryz.prog ann 71 0 [] = some F71 := by kernel_rfl
/- daguerre/effect.Movable -/
def H72 : F2C := fun c k v s K =>
pop v fun x0 v =>
endE v (
boxD false [.nil .sl] s fun x1 s =>
vNil false .ptr x0 fun x2 =>
cnd x2 (none)
(lgE (qLdE x1 1) (ldA x1 take1) s fun x3 e4 s =>
lgE qNoE (c (.mk .d0 .d1 .d5 .d3) []) s fun x5 e6 s =>
lgE qNoE (appB 1 16 x3 x5) s fun x7 e8 s =>
lgE qNoE (zSt x1 x7 1) s fun _ e10 s =>
calmE [(0, 1)] [e4, e6, e8, e10] (fun s =>
jn (fun _ s =>
c (.mk .d0 .d1 .d2 .d7) [x0] s fun x12 s =>
vGen (.mkf 161 [] [(.c x1)]) fun x13 =>
c (.mk .d0 .d2 .d4 .d0) [x12, x13] s fun x14 s =>
K x14 s) fun K11 =>
loopE k (fun K15 v s =>
pop v fun x16 _ =>
cnd x16 (jn (fun v s =>
pop v fun x18 _ =>
K15 [x18] s) fun K17 =>
c (.mk .d0 .d1 .d2 .d7) [x0] s fun x19 s =>
vLenS x19 fun x20 =>
jn (fun v s =>
pop v fun x22 _ =>
K17 [x22] s) fun K21 =>
loopE k (fun K23 v s =>
pop v fun x24 v =>
pop v fun x25 _ =>
bLt x24 x20 fun x26 =>
cnd x26 (jn (fun v s =>
pop v fun x28 _ =>
bAdd x24 (ci 1) fun x29 =>
K23 [x29, x28] s) fun K27 =>
vIaS x19 x24 1 fun x30 =>
ldA x30 take1 s fun x31 s =>
ldA x1 take1 s fun x32 s =>
c (.mk .d0 .d1 .d1 .d1) [x32, x31] s fun x33 s =>
vGen (.un .not (.c x33)) fun x34 =>
gK x34 true x0 fun x35 =>
gK x34 true x31 fun x36 =>
gH x34 true (ldA x1 take1) s fun x37 s =>
gH x34 true (c (.mk .d0 .d2 .d3 .d7) [x35, x36, x37]) s fun x38 s =>
vPick x34 x38 cf fun x39 =>
jn (fun v s =>
pop v fun x41 _ =>
K27 [x41] s) fun K40 =>
cnd x39 (ldA x1 take1 s fun x42 s =>
zBsl [.str []] 1 1 (eCons 0 1 x31 eNil) s fun x43 s =>
appB 1 16 x42 x43 s fun x44 s =>
zSt x1 x44 1 s fun _ s =>
K40 [ct] s)
(K40 [x25] s))
(K21 [x25] s)) [(ci 0), cf] s)
(K11 [] s)) [ct] s) s))
def F72 : F2 := .fn H72 true
theorem fe72 : feE Tryz.prog ann 72 1 [.cl, .j [], .j [4], .j [], .j [4], .j [4], .j [16, 4], .j [], .j [4], .j [4]] = some F72 := by kernel_rfl
/- slices.Contains[[]string,string] -/
def H73 : F2C := fun c _ v s K =>
pop v fun x0 v =>
pop v fun x1 v =>
endE v (
c (.mk .d0 .d2 .d4 .d2) [x0, x1] s fun x2 s =>
bGe x2 (ci 0) fun x3 =>
K x3 s)
def F73 : F2 := .fn H73 true
theorem fe73 : feE Tryz.prog ann 73 2 [] = some F73 := by kernel_rfl
/- daguerre/boot.tried -/
def H74 : F2C := fun c k v s K =>
pop v fun x0 v =>
pop v fun x1 v =>
pop v fun x2 v =>
endE v (
zBox false x1 s fun x3 s =>
ldA x3 take1 s fun x4 s =>
c (.mk .d0 .d0 .d2 .d1) [x4, x2] s fun _ s =>
jn (fun v s =>
pop v fun x7 _ =>
bEqF x7 (ci 1) fun x8 =>
gK x8 true x0 fun x9 =>
gH x8 true (c (.mk .d0 .d1 .d2 .d7) [x9]) s fun x10 s =>
gV x8 true (vGen (.mkf 163 [] [(.c x3)])) fun x11 =>
gH x8 true (c (.mk .d0 .d1 .d2 .d2) [x10, x11]) s fun x12 s =>
gV x8 true (vGen (.un .not (.c x12))) fun x13 =>
vPick x8 x13 cf fun x14 =>
K x14 s) fun K6 =>
loopE k (fun K15 v s =>
pop v fun x16 v =>
pop v fun x17 _ =>
bLt x16 (ci 500) fun x18 =>
gK x18 true x17 fun x19 =>
gV x18 true (bEqF x19 (ci 0)) fun x20 =>
vPick x18 x20 cf fun x21 =>
cnd x21 (jn (fun v s =>
pop v fun x23 _ =>
bAdd x16 (ci 1) fun x24 =>
K15 [x24, x23] s) fun K22 =>
ldA x3 take1 s fun x25 s =>
c (.mk .d0 .d0 .d2 .d2) [x25] s fun x26 s =>
K22 [x26] s)
(K6 [x17] s)) [(ci 0), (ci 0)] s)
def F74 : F2 := .fn H74 true
theorem fe74 : feE Tryz.prog ann 74 3 [.j [7], .j [8, 7], .j [], .j [7]] = some F74 := by kernel_rfl
/- (*daguerre/lazy.Machine).Tidy -/
def H75 : F2C := fun c _ v s K =>
pop v fun x0 v =>
endE v (
c (.mk .d0 .d2 .d4 .d4) [x0] s fun _ s =>
K (.tup []) s)
def F75 : F2 := .fn H75 true
theorem fe75 : feE Tryz.prog ann 75 1 [] = some F75 := by kernel_rfl
/- daguerre/state.key -/
def H76 : F2C := fun _ _ v s K =>
pop v fun x0 v =>
pop v fun x1 v =>
endE v (
bAdd x0 (.str [46]) fun x2 =>
bAdd x2 x1 fun x3 =>
K x3 s)
def F76 : F2 := .fn H76 true
theorem fe76 : feE Tryz.prog ann 76 2 [] = some F76 := by kernel_rfl
/- daguerre/daguerrelaw11.begun -/
def H77 : F2C := fun c _ v s K =>
endE v (
c (.mk .d0 .d0 .d3 .d6) [] s fun x0 s =>
vBld [.str [], .str []] (eCons 0 1 (.str [66, 98]) (eCons 1 1 (.str [109, 97, 105, 110]) eNil)) fun x1 =>
c (.mk .d0 .d0 .d1 .d0) [x0, x1] s fun x2 s =>
vExt x2 0 fun x3 =>
vExt x2 1 fun x4 =>
c (.mk .d0 .d0 .d3 .d6) [] s fun x5 s =>
vBld [.str [], .str []] (eCons 0 1 (.str [66, 98]) (eCons 1 1 (.str [102]) eNil)) fun x6 =>
c (.mk .d0 .d0 .d1 .d0) [x5, x6] s fun x7 s =>
vExt x7 0 fun _ =>
vExt x7 1 fun x9 =>
c (.mk .d0 .d0 .d3 .d6) [] s fun x10 s =>
vIaS x10 (ci 1) 6 fun x11 =>
fa1 x11 5 fun x12 =>
zSt x12 (.nil .sl) 1 s fun _ s =>
vBld [.str [], .str []] (eCons 0 1 (.str [66, 98]) (eCons 1 1 (.str [109, 97, 105, 110]) eNil)) fun x14 =>
c (.mk .d0 .d0 .d1 .d0) [x10, x14] s fun x15 s =>
vExt x15 0 fun _ =>
vExt x15 1 fun x17 =>
c (.mk .d0 .d2 .d4 .d5) [] s fun x18 s =>
gK x18 true x4 fun x19 =>
gV x18 true (bEqF x19 (ci 0)) fun x20 =>
vPick x18 x20 cf fun x21 =>
gK x21 true x3 fun x22 =>
gV x21 true (vNil true .ptr x22) fun x23 =>
vPick x21 x23 cf fun x24 =>
gK x24 true x9 fun x25 =>
gV x24 true (bEqF x25 (ci 4)) fun x26 =>
vPick x24 x26 cf fun x27 =>
gK x27 true x17 fun x28 =>
gV x27 true (bEqF x28 (ci 1)) fun x29 =>
vPick x27 x29 cf fun x30 =>
gK x30 true x3 fun x31 =>
gH x30 true (c (.mk .d0 .d0 .d4 .d5) [x31]) s fun x32 s =>
gV x30 true (bEqF x32 (ci 0)) fun x33 =>
vPick x30 x33 cf fun x34 =>
K x34 s)
def F77 : F2 := .pur H77 true mNo
theorem fe77 : feE Tryz.prog ann 77 0 [] = some F77 := by kernel_rfl
def M77 (k : Nat) : F2 := .pur H77 true (Bool.rec mNo (mVal (.bool true)) (Nat.ble 9 k))
/- daguerre/daguerrelaw18.begun -/
def H78 : F2C := fun c _ v s K =>
endE v (
c (.mk .d0 .d1 .d5 .d2) [] s fun x0 s =>
vNil false .ptr x0 fun x1 =>
cnd x1 (none)
(c (.mk .d0 .d1 .d5 .d6) [x0, (ci 2), (ci 5)] s fun x2 s =>
c (.mk .d0 .d1 .d5 .d6) [x0, (ci 1), (ci 9)] s fun x3 s =>
c (.mk .d0 .d1 .d5 .d6) [x0, (ci 1), (ci 7)] s fun x4 s =>
c (.mk .d0 .d1 .d5 .d6) [x0, (ci 0), (ci 5)] s fun x5 s =>
c (.mk .d0 .d1 .d5 .d7) [x0] s fun x6 s =>
vExt x6 0 fun x7 =>
vExt x6 1 fun x8 =>
c (.mk .d0 .d1 .d5 .d7) [x0] s fun x9 s =>
vExt x9 0 fun x10 =>
vExt x9 1 fun _ =>
c (.mk .d0 .d1 .d5 .d7) [x0] s fun x12 s =>
vExt x12 0 fun x13 =>
vExt x12 1 fun _ =>
c (.mk .d0 .d1 .d5 .d7) [x0] s fun x15 s =>
vExt x15 0 fun _ =>
vExt x15 1 fun x17 =>
gK x2 true x3 fun x18 =>
vPick x2 x18 cf fun x19 =>
gK x19 true x4 fun x20 =>
vPick x19 x20 cf fun x21 =>
gK x21 true x5 fun x22 =>
gV x21 true (vGen (.un .not (.c x22))) fun x23 =>
vPick x21 x23 cf fun x24 =>
gK x24 true x7 fun x25 =>
gV x24 true (bEqF x25 (ci 7)) fun x26 =>
vPick x24 x26 cf fun x27 =>
gK x27 true x8 fun x28 =>
vPick x27 x28 cf fun x29 =>
gK x29 true x10 fun x30 =>
gV x29 true (bEqF x30 (ci 9)) fun x31 =>
vPick x29 x31 cf fun x32 =>
gK x32 true x13 fun x33 =>
gV x32 true (bEqF x33 (ci 5)) fun x34 =>
vPick x32 x34 cf fun x35 =>
gK x35 true x17 fun x36 =>
gV x35 true (vGen (.un .not (.c x36))) fun x37 =>
vPick x35 x37 cf fun x38 =>
gK x38 true x0 fun x39 =>
gH x38 true (c (.mk .d0 .d1 .d5 .d6) [x39, (ci 0), (ci 7)]) s fun x40 s =>
gV x38 true (vGen (.un .not (.c x40))) fun x41 =>
vPick x38 x41 cf fun x42 =>
gK x42 true x0 fun x43 =>
gH x42 true (c (.mk .d0 .d0 .d5 .d4) [x43, (ci 7)]) s fun x44 s =>
vPick x42 x44 cf fun x45 =>
gK x45 true x0 fun x46 =>
gH x45 true (c (.mk .d0 .d0 .d5 .d4) [x46, (ci 8)]) s fun x47 s =>
gV x45 true (vGen (.un .not (.c x47))) fun x48 =>
vPick x45 x48 cf fun x49 =>
gK x49 true x0 fun x50 =>
gH x49 true (c (.mk .d0 .d2 .d4 .d6) [x50]) s fun x51 s =>
gV x49 true (bEqF x51 (ci 0)) fun x52 =>
vPick x49 x52 cf fun x53 =>
K x53 s))
def F78 : F2 := .pur H78 true mNo
theorem fe78 : feE Tryz.prog ann 78 0 [.cl] = some F78 := by kernel_rfl
def M78 (k : Nat) : F2 := .pur H78 true (Bool.rec mNo (mVal (.bool true)) (Nat.ble 16 k))
/- (*daguerre/reach.Reach).some -/
def H79 : F2C := fun c _ v s K =>
pop v fun x0 v =>
pop v fun x1 v =>
endE v (
zBox false x1 s fun x2 s =>
vChk x0 fun x3 =>
fa1 x3 0 fun x4 =>
ldA x4 take1 s fun x5 s =>
c (.mk .d0 .d1 .d2 .d7) [x5] s fun x6 s =>
vGen (.mkf 167 [] [(.c x2)]) fun x7 =>
c (.mk .d0 .d2 .d4 .d0) [x6, x7] s fun x8 s =>
K x8 s)
def F79 : F2 := .fn H79 true
theorem fe79 : feE Tryz.prog ann 79 2 [] = some F79 := by kernel_rfl
/- daguerre/hier.given -/
def H80 : F2C := fun c k v s K =>
endE v (
c (.mk .d0 .d1 .d5 .d3) [] s fun x0 s =>
vLenS x0 fun x1 =>
jn (fun v s =>
pop v fun x3 _ =>
K x3 s) fun K2 =>
loopE k (fun K4 v s =>
pop v fun x5 v =>
pop v fun x6 _ =>
bLt x5 x1 fun x7 =>
cnd x7 (jn (fun v s =>
pop v fun x9 _ =>
bAdd x5 (ci 1) fun x10 =>
K4 [x10, x9] s) fun K8 =>
vIaS x0 x5 1 fun x11 =>
ldA x11 take1 s fun x12 s =>
vBld [.str [], .str [], .bool false, .nil .sl, .nil .sl, .nil .sl] (eCons 0 1 x12 (eCons 1 1 (.str [84, 104, 114, 111, 119, 110]) eNil)) fun x13 =>
boxD false [.str [], .str [], .bool false, .nil .sl, .nil .sl, .nil .sl] s fun x14 s =>
zSt x14 x13 6 s fun _ s =>
bLt x5 (ci 2) fun x16 =>
jn (fun _ s =>
ldA x14 (takeN 6) s fun x18 s =>
zBsl [.str [], .str [], .bool false, .nil .sl, .nil .sl, .nil .sl] 6 1 (eCons 0 6 x18 eNil) s fun x19 s =>
appB 6 112 x6 x19 s fun x20 s =>
K8 [x20] s) fun K17 =>
cnd x16 (zBsl [.str [], .str []] 1 2 (eCons 0 1 (.str []) (eCons 1 1 (.str [79, 98, 106, 101, 99, 116]) eNil)) s fun x21 s =>
vIaS x21 x5 1 fun x22 =>
ldA x22 take1 s fun x23 s =>
fa1 x14 1 fun x24 =>
zSt x24 x23 1 s fun _ s =>
K17 [] s)
(K17 [] s))
(K2 [x6] s)) [(ci 0), (.nil .sl)] s)
def F80 : F2 := .fn H80 true
theorem fe80 : feE Tryz.prog ann 80 0 [.j [1], .j [7, 1], .j [], .j [1], .j []] = some F80 := by kernel_rfl
/- daguerre/class.May -/
def H81 : F2C := fun c _ v s K =>
pop v fun x0 v =>
endE v (
zBox false x0 s fun x1 s =>
fa1 x1 2 fun x2 =>
ldA x2 take1 s fun x3 s =>
gV x3 true (fa1 x1 1) fun x4 =>
gH x3 true (ldA x4 take1) s fun x5 s =>
gV x3 true (bEqT x5 (.str [79, 98, 106, 101, 99, 116])) fun x6 =>
gK x3 true x6 fun x7 =>
gV x7 false (fa1 x1 4) fun x8 =>
gH x7 false (ldA x8 take1) s fun x9 s =>
gV x7 false (vLenS x9) fun x10 =>
gV x7 false (bGt x10 (ci 0)) fun x11 =>
gV x3 true (vPick x7 ct x11) fun x12 =>
vPick x3 x12 cf fun x13 =>
cnd x13 (none)
(fa1 x1 4 fun x14 =>
ldA x14 take1 s fun x15 s =>
c (.mk .d0 .d2 .d5 .d0) [x15, (ci 8), (.fn 169 [] []), (.fn 170 [] [])] s fun x16 s =>
fa1 x1 5 fun x17 =>
ldA x17 take1 s fun x18 s =>
vGen (.mkf 175 [] [(.c x1)]) fun x19 =>
c (.mk .d0 .d2 .d5 .d5) [x18, (ci 8), (.fn 174 [] []), x19] s fun x20 s =>
fa1 x1 0 fun x21 =>
ldA x21 take1 s fun x22 s =>
c (.mk .d0 .d2 .d6 .d1) [x22] s fun x23 s =>
gV x23 true (fa1 x1 1) fun x24 =>
gH x23 true (ldA x24 take1) s fun x25 s =>
gH x23 true (c (.mk .d0 .d2 .d6 .d1) [x25]) s fun x26 s =>
vPick x23 x26 cf fun x27 =>
gV x27 true (fa1 x1 3) fun x28 =>
gH x27 true (ldA x28 take1) s fun x29 s =>
gH x27 true (c (.mk .d0 .d2 .d6 .d2) [x29, (ci 4), (.fn 179 [] []), (.fn 177 [] [])]) s fun x30 s =>
vPick x27 x30 cf fun x31 =>
gK x31 true x16 fun x32 =>
vPick x31 x32 cf fun x33 =>
gK x33 true x20 fun x34 =>
vPick x33 x34 cf fun x35 =>
K x35 s))
def F81 : F2 := .fn H81 true
theorem fe81 : feE Tryz.prog ann 81 1 [.cl] = some F81 := by kernel_rfl
/- daguerre/hier.above -/
def H83 : F2C := fun _ _ v s K =>
pop v fun x0 v =>
endE v (
zTbox x0 s fun x1 s =>
fa1 x1 1 fun x2 =>
ldA x2 take1 s fun x3 s =>
zHbs [.str []] 1 1 (eCons 0 1 x3 eNil) s fun x4 s =>
fa1 x1 3 fun x5 =>
ldA x5 take1 s fun x6 s =>
appB 1 16 x4 x6 s fun x7 s =>
K x7 s)
def F83 : F2 := .fn H83 true
theorem fe83 : feE Tryz.prog ann 83 1 [] = some F83 := by kernel_rfl
/- daguerre/hier.New$1 -/
def H84 : F2C := fun c _ v s K =>
pop v fun x0 v =>
pop v fun x1 v =>
endE v (
ldA x1 take1 s fun x2 s =>
c (.mk .d0 .d1 .d2 .d5) [x2, x0] s fun x3 s =>
vGen (.un .not (.c x3)) fun x4 =>
K x4 s)
def F84 : F2 := .fn H84 true
theorem fe84 : feE Tryz.prog ann 84 2 [] = some F84 := by kernel_rfl
/- slices.ContainsFunc[[]string,string] -/
def H82 : F2C := fun c _ v s K =>
pop v fun x0 v =>
pop v fun x1 v =>
endE v (
c (.mk .d0 .d2 .d6 .d4) [x0, x1] s fun x2 s =>
bGe x2 (ci 0) fun x3 =>
K x3 s)
def F82 : F2 := .fn H82 true
theorem fe82 : feE Tryz.prog ann 82 2 [] = some F82 := by kernel_rfl
/- (*daguerre/hier.Hier).fits -/
def H86 : F2C := fun c k v s K =>
pop v fun x0 v =>
pop v fun x1 v =>
endE v (
zBox false x0 s fun x2 s =>
zTbox x1 s fun x3 s =>
ldA x2 take1 s fun x4 s =>
fa1 x3 1 fun x5 =>
ldA x5 take1 s fun x6 s =>
c (.mk .d0 .d2 .d1 .d4) [x4, x6] s fun x7 s =>
vFld x7 2 take1 fun x8 =>
gV x8 false (fa1 x3 3) fun x9 =>
gH x8 false (ldA x9 take1) s fun x10 s =>
gV x8 false (vGen (.mkf 181 [] [(.c x2)])) fun x11 =>
gH x8 false (c (.mk .d0 .d1 .d2 .d2) [x10, x11]) s fun x12 s =>
vPick x8 ct x12 fun x13 =>
cnd x13 (none)
(ldA x3 (takeN 6) s fun x14 s =>
c (.mk .d0 .d1 .d2 .d3) [x14] s fun x15 s =>
jn (fun _ s =>
K ct s) fun K16 =>
loopE k (fun K17 v s =>
pop v fun x18 v =>
pop v fun x19 _ =>
vLenS x19 fun x20 =>
bLt x18 x20 fun x21 =>
cnd x21 (jn (fun v s =>
pop v fun x23 _ =>
bAdd x18 (ci 1) fun x24 =>
K17 [x24, x23] s) fun K22 =>
lgE qNoE (zK x19) s fun x25 e26 s =>
lgE qNoE (zK x18) s fun x27 e28 s =>
lgE qNoE (zV (vIaS x25 x27 1)) s fun x29 e30 s =>
lgE (qLdE x29 1) (ldA x29 take1) s fun x31 e32 s =>
lgE qNoE (zV (fa1 x3 0)) s fun x33 e34 s =>
lgE (qLdE x33 1) (ldA x33 take1) s fun x35 e36 s =>
lgE qNoE (zV (bEqF x31 x35)) s fun x37 e38 s =>
calmE [(3, 5)] [e26, e28, e30, e32, e34, e36, e38] (fun s =>
cnd x37 (none)
(lgE (qLdE x2 1) (ldA x2 take1) s fun x39 e40 s =>
lgE qNoE (zK x19) s fun x41 e42 s =>
lgE qNoE (zK x18) s fun x43 e44 s =>
lgE qNoE (zV (vIaS x41 x43 1)) s fun x45 e46 s =>
lgE (qLdE x45 1) (ldA x45 take1) s fun x47 e48 s =>
lgE qNoE (c (.mk .d0 .d2 .d1 .d4) [x39, x47]) s fun x49 e50 s =>
lgE qNoE (c (.mk .d0 .d1 .d2 .d3) [x49]) s fun x51 e52 s =>
lgE qNoE (zV (vLenS x51)) s fun x53 e54 s =>
lgE qNoE (zK (ci 0)) s fun x55 e56 s =>
calmE [(0, 4)] [e40, e42, e44, e46, e48, e50, e52, e54, e56] (fun s =>
jn (fun v s =>
pop v fun x58 _ =>
K22 [x58] s) fun K57 =>
loopE k (fun K59 v s =>
pop v fun x60 v =>
pop v fun x61 _ =>
bLt x60 x53 fun x62 =>
cnd x62 (jn (fun v s =>
pop v fun x64 _ =>
bAdd x60 (ci 1) fun x65 =>
K59 [x65, x64] s) fun K63 =>
vIaS x51 x60 1 fun x66 =>
ldA x66 take1 s fun x67 s =>
bEqT x67 (.str []) fun x68 =>
gK x68 true x61 fun x69 =>
gK x68 true x67 fun x70 =>
gH x68 true (c (.mk .d0 .d1 .d1 .d1) [x69, x70]) s fun x71 s =>
gV x68 true (vGen (.un .not (.c x71))) fun x72 =>
vPick x68 x72 cf fun x73 =>
jn (fun v s =>
pop v fun x75 _ =>
K63 [x75] s) fun K74 =>
cnd x73 (zBsl [.str []] 1 1 (eCons 0 1 x67 eNil) s fun x76 s =>
appB 1 16 x61 x76 s fun x77 s =>
K74 [x77] s)
(K74 [x61] s))
(K57 [x61] s)) [x55, x19] s) s)) s)
(K16 [] s)) [(ci 0), x15] s))
def F86 : F2 := .fn H86 true
theorem fe86 : feE Tryz.prog ann 86 2 [.cl, .j [], .j [6, 5], .j [], .j [5], .cl, .j [5], .j [43, 5], .j [], .j [5], .j [5]] = some F86 := by kernel_rfl
/- (*daguerre/hier.Hier).Names -/
def H87 : F2C := fun _ k v s K =>
pop v fun x0 v =>
endE v (
vNil false .ptr x0 fun x1 =>
cnd x1 (none)
(vChk x0 fun x2 =>
fa1 x2 0 fun x3 =>
ldA x3 take1 s fun x4 s =>
vLenS x4 fun x5 =>
jn (fun v s =>
pop v fun x7 _ =>
K x7 s) fun K6 =>
loopE k (fun K8 v s =>
pop v fun x9 v =>
pop v fun x10 _ =>
bLt x9 x5 fun x11 =>
cnd x11 (jn (fun v s =>
pop v fun x13 _ =>
bAdd x9 (ci 1) fun x14 =>
K8 [x14, x13] s) fun K12 =>
vIaS x4 x9 6 fun x15 =>
ldA x15 (takeN 6) s fun x16 s =>
boxD false [.str [], .str [], .bool false, .nil .sl, .nil .sl, .nil .sl] s fun x17 s =>
zSt x17 x16 6 s fun _ s =>
fa1 x17 0 fun x19 =>
ldA x19 take1 s fun x20 s =>
zBsl [.str []] 1 1 (eCons 0 1 x20 eNil) s fun x21 s =>
appB 1 16 x10 x21 s fun x22 s =>
K12 [x22] s)
(K6 [x10] s)) [(ci 0), (.nil .sl)] s))
def F87 : F2 := .fn H87 true
theorem fe87 : feE Tryz.prog ann 87 1 [.cl, .j [3], .j [13, 3], .j [], .j [3]] = some F87 := by kernel_rfl
/- daguerre/closed.whole -/
def H88 : F2C := fun c _ v s K =>
pop v fun x0 v =>
pop v fun x1 v =>
endE v (
zBox true x0 s fun x2 s =>
zTbox x1 s fun x3 s =>
vGen (.mkf 182 [] [(.c x2)]) fun x4 =>
boxD false [.nil .fn] s fun x5 s =>
zSt x5 x4 1 s fun _ s =>
fa1 x3 4 fun x7 =>
ldA x7 take1 s fun x8 s =>
vGen (.mkf 184 [] [(.c x5)]) fun x9 =>
c (.mk .d0 .d2 .d6 .d7) [x8, x9] s fun x10 s =>
fa1 x3 5 fun x11 =>
ldA x11 take1 s fun x12 s =>
vGen (.mkf 186 [] [(.c x5), (.c x2)]) fun x13 =>
c (.mk .d0 .d2 .d7 .d1) [x12, x13] s fun x14 s =>
vGen (.un .not (.c x10)) fun x15 =>
gK x15 true x14 fun x16 =>
gV x15 true (vGen (.un .not (.c x16))) fun x17 =>
vPick x15 x17 cf fun x18 =>
K x18 s)
def F88 : F2 := .fn H88 true
theorem fe88 : feE Tryz.prog ann 88 2 [] = some F88 := by kernel_rfl
/- daguerre/closed.overrides -/
def H89 : F2C := fun c k v s K =>
pop v fun x0 v =>
pop v fun x1 v =>
endE v (
zTbox x1 s fun x2 s =>
fa1 x2 5 fun x3 =>
ldA x3 take1 s fun x4 s =>
vLenS x4 fun x5 =>
jn (fun _ s =>
K ct s) fun K6 =>
loopE k (fun K7 v s =>
pop v fun x8 _ =>
bLt x8 x5 fun x9 =>
cnd x9 (jn (fun _ s =>
bAdd x8 (ci 1) fun x11 =>
K7 [x11] s) fun K10 =>
vIaS x4 x8 10 fun x12 =>
ldA x12 (takeN 10) s fun x13 s =>
boxD false [.str [], .nil .sl, .str [], .bool false, .bool false, .int .i64 0, .int .i64 0, .nil .sl, .nil .sl, .nil .sl] s fun x14 s =>
zSt x14 x13 10 s fun _ s =>
fa1 x2 0 fun x16 =>
ldA x16 take1 s fun x17 s =>
c (.mk .d0 .d1 .d3 .d4) [x0, x17] s fun x18 s =>
vSlt x18 (eX (ci 1)) eN 1 fun x19 =>
vLenS x19 fun x20 =>
jn (fun _ s =>
K10 [] s) fun K21 =>
loopE k (fun K22 v s =>
pop v fun x23 _ =>
bLt x23 x20 fun x24 =>
cnd x24 (jn (fun _ s =>
bAdd x23 (ci 1) fun x26 =>
K22 [x26] s) fun K25 =>
vIaS x19 x23 1 fun x27 =>
ldA x27 take1 s fun x28 s =>
c (.mk .d0 .d0 .d6 .d7) [x0, x28] s fun x29 s =>
vExt x29 0 fun x30 =>
vExt x29 1 fun _ =>
boxD false [.str [], .str [], .bool false, .nil .sl, .nil .sl, .nil .sl] s fun x32 s =>
zSt x32 x30 6 s fun _ s =>
fa1 x32 5 fun x34 =>
ldA x34 take1 s fun x35 s =>
vGen (.mkf 192 [] [(.c x14)]) fun x36 =>
c (.mk .d0 .d2 .d7 .d1) [x35, x36] s fun x37 s =>
cnd x37 (none)
(K25 [] s))
(K21 [] s)) [(ci 0)] s)
(K6 [] s)) [(ci 0)] s)
def F89 : F2 := .fn H89 true
theorem fe89 : feE Tryz.prog ann 89 2 [.j [], .j [14], .j [], .j [], .j [], .j [24], .j [], .j [], .cl] = some F89 := by kernel_rfl
/- daguerre/closed.faces -/
def H90 : F2C := fun c k v s K =>
pop v fun x0 v =>
pop v fun x1 v =>
endE v (
zBox false x0 s fun x2 s =>
zBox false x1 s fun x3 s =>
ldA x2 take1 s fun x4 s =>
fa1 x3 0 fun x5 =>
ldA x5 take1 s fun x6 s =>
c (.mk .d0 .d3 .d0 .d2) [x4, x6] s fun x7 s =>
vLenS x7 fun x8 =>
jn (fun v s =>
pop v fun x10 _ =>
fa1 x3 2 fun x11 =>
ldA x11 take1 s fun x12 s =>
cnd x12 (K ct s)
(vGen (.mkf 196 [] [(.c x2), (.c x3)]) fun x13 =>
c (.mk .d0 .d2 .d7 .d1) [x10, x13] s fun x14 s =>
vGen (.un .not (.c x14)) fun x15 =>
K x15 s)) fun K9 =>
loopE k (fun K16 v s =>
pop v fun x17 v =>
pop v fun x18 _ =>
bLt x17 x8 fun x19 =>
cnd x19 (jn (fun v s =>
pop v fun x21 _ =>
bAdd x17 (ci 1) fun x22 =>
K16 [x22, x21] s) fun K20 =>
vIaS x7 x17 1 fun x23 =>
ldA x23 take1 s fun x24 s =>
ldA x2 take1 s fun x25 s =>
c (.mk .d0 .d0 .d6 .d7) [x25, x24] s fun x26 s =>
vExt x26 0 fun x27 =>
vExt x26 1 fun _ =>
boxD false [.str [], .str [], .bool false, .nil .sl, .nil .sl, .nil .sl] s fun x29 s =>
zSt x29 x27 6 s fun _ s =>
fa1 x29 5 fun x31 =>
ldA x31 take1 s fun x32 s =>
vLenS x32 fun x33 =>
jn (fun v s =>
pop v fun x35 _ =>
K20 [x35] s) fun K34 =>
loopE k (fun K36 v s =>
pop v fun x37 v =>
pop v fun x38 _ =>
bLt x37 x33 fun x39 =>
cnd x39 (jn (fun v s =>
pop v fun x41 _ =>
bAdd x37 (ci 1) fun x42 =>
K36 [x42, x41] s) fun K40 =>
vIaS x32 x37 10 fun x43 =>
ldA x43 (takeN 10) s fun x44 s =>
boxD false [.str [], .nil .sl, .str [], .bool false, .bool false, .int .i64 0, .int .i64 0, .nil .sl, .nil .sl, .nil .sl] s fun x45 s =>
zSt x45 x44 10 s fun _ s =>
vGen (.mkf 195 [] [(.c x45)]) fun x47 =>
c (.mk .d0 .d2 .d7 .d1) [x38, x47] s fun x48 s =>
cnd x48 (none)
(ldA x45 (takeN 10) s fun x49 s =>
zBsl [.str [], .nil .sl, .str [], .bool false, .bool false, .int .i64 0, .int .i64 0, .nil .sl, .nil .sl, .nil .sl] 10 1 (eCons 0 10 x49 eNil) s fun x50 s =>
appB 10 152 x38 x50 s fun x51 s =>
K40 [x51] s))
(K34 [x38] s)) [(ci 0), x18] s)
(K9 [x18] s)) [(ci 0), (.nil .sl)] s)
def F90 : F2 := .fn H90 true
theorem fe90 : feE Tryz.prog ann 90 2 [.j [5], .j [17, 5], .j [], .j [5], .j [5], .j [30, 5], .j [], .j [5], .cl, .j []] = some F90 := by kernel_rfl
/- (*daguerre/hier.Hier).Supers -/
def H92 : F2C := fun c k v s K =>
pop v fun x0 v =>
pop v fun x1 v =>
endE v (
jn (fun v s =>
pop v fun x3 _ =>
K x3 s) fun K2 =>
loopE k (fun K4 v s =>
pop v fun x5 v =>
pop v fun x6 _ =>
c (.mk .d0 .d1 .d2 .d5) [x0, x5] s fun x7 s =>
cnd x7 (jn (fun v s =>
pop v fun x9 v =>
pop v fun x10 _ =>
K4 [x9, x10] s) fun K8 =>
zBsl [.str []] 1 1 (eCons 0 1 x5 eNil) s fun x11 s =>
appB 1 16 x6 x11 s fun x12 s =>
c (.mk .d0 .d2 .d1 .d4) [x0, x5] s fun x13 s =>
vFld x13 1 take1 fun x14 =>
K8 [x14, x12] s)
(K2 [x6] s)) [x1, (.nil .sl)] s)
def F92 : F2 := .fn H92 true
theorem fe92 : feE Tryz.prog ann 92 2 [.j [5], .j [1, 5], .j [], .j [1, 5]] = some F92 := by kernel_rfl
/- daguerre/link.find -/
def H91 : F2C := fun c k v s K =>
pop v fun x0 v =>
pop v fun x1 v =>
pop v fun x2 v =>
pop v fun x3 v =>
endE v (
boxD false [.str [], .nil .sl, .str [], .bool false, .bool false, .int .i64 0, .int .i64 0, .nil .sl, .nil .sl, .nil .sl] s fun x4 s =>
vLenS x1 fun x5 =>
jn (fun _ s =>
vBld [.str [], .nil .sl, .str [], .bool false, .bool false, .int .i64 0, .int .i64 0, .nil .sl, .nil .sl, .nil .sl] eNil fun x7 =>
zSt x4 x7 10 s fun _ s =>
ldA x4 (takeN 10) s fun x9 s => K (.tup [(.str []), x9, cf]) s) fun K6 =>
loopE k (fun K10 v s =>
pop v fun x11 _ =>
bLt x11 x5 fun x12 =>
cnd x12 (jn (fun _ s =>
bAdd x11 (ci 1) fun x14 =>
K10 [x14] s) fun K13 =>
vIaS x1 x11 1 fun x15 =>
ldA x15 take1 s fun x16 s =>
c (.mk .d0 .d0 .d6 .d7) [x0, x16] s fun x17 s =>
vExt x17 0 fun x18 =>
vExt x17 1 fun _ =>
boxD false [.str [], .str [], .bool false, .nil .sl, .nil .sl, .nil .sl] s fun x20 s =>
zSt x20 x18 6 s fun _ s =>
ldA x20 (takeN 6) s fun x22 s =>
c (.mk .d0 .d1 .d6 .d0) [x22, x2] s fun x23 s =>
bGe x23 (ci 0) fun x24 =>
gK x24 true x3 fun x25 =>
gV x24 true (fa1 x20 5) fun x26 =>
gH x24 true (ldA x26 take1) s fun x27 s =>
gK x24 true x23 fun x28 =>
gV x24 true (vIaS x27 x28 10) fun x29 =>
gH x24 true (ldA x29 (takeN 10)) s fun x30 s =>
gH x24 true (zCallV c x25 [x30]) s fun x31 s =>
vPick x24 x31 cf fun x32 =>
cnd x32 (fa1 x20 5 fun x33 =>
ldA x33 take1 s fun x34 s =>
vIaS x34 x23 10 fun x35 =>
ldA x35 (takeN 10) s fun x36 s =>
zSt x4 x36 10 s fun _ s =>
ldA x4 (takeN 10) s fun x38 s => K (.tup [x16, x38, ct]) s)
(K13 [] s))
(K6 [] s)) [(ci 0)] s)
def F91 : F2 := .fn H91 true
theorem fe91 : feE Tryz.prog ann 91 4 [.j [], .j [18], .j [], .j [], .j []] = some F91 := by kernel_rfl
/- daguerre/link.Method$1 -/
def H93 : F2C := fun _ _ v s K =>
pop v fun x0 v =>
endE v (
zTbox x0 s fun x1 s =>
fa1 x1 0 fun x2 =>
ldA x2 take1 s fun x3 s =>
bEqT x3 (.str [36, 105, 110, 105, 116]) fun x4 =>
K x4 s)
def F93 : F2 := .fn H93 true
theorem fe93 : feE Tryz.prog ann 93 1 [] = some F93 := by kernel_rfl
/- daguerre/verify.Method$1 -/
def H94 : F2C := fun c _ v s K =>
pop v fun x0 v =>
pop v fun x1 v =>
endE v (
ldA x1 take1 s fun x2 s =>
c (.mk .d0 .d1 .d3 .d7) [x2, x0] s fun x3 s =>
K x3 s)
def F94 : F2 := .fn H94 true
theorem fe94 : feE Tryz.prog ann 94 2 [] = some F94 := by kernel_rfl
/- daguerre/verify.all -/
def H97 : F2C := fun c _ v s K =>
pop v fun x0 v =>
pop v fun x1 v =>
endE v (
zBox false x1 s fun x2 s =>
vGen (.mkf 198 [] [(.c x2)]) fun x3 =>
c (.mk .d0 .d1 .d2 .d2) [x0, x3] s fun x4 s =>
vGen (.un .not (.c x4)) fun x5 =>
K x5 s)
def F97 : F2 := .fn H97 true
theorem fe97 : feE Tryz.prog ann 97 2 [] = some F97 := by kernel_rfl
/- (*daguerre/verify.checker).need -/
def H96 : F2C := fun _ _ v s K =>
pop v fun x0 v =>
pop v fun x1 v =>
endE v (
vChk x0 fun x2 =>
fa1 x2 14 fun x3 =>
ldA x3 take1 s fun x4 s =>
gK x4 false x1 fun x5 =>
gV x4 false (vGen (.un .not (.c x5))) fun x6 =>
vPick x4 ct x6 fun x7 =>
vChk x0 fun x8 =>
fa1 x8 14 fun x9 =>
zSt x9 x7 1 s fun _ s =>
K (.tup []) s)
def F96 : F2 := .fn H96 true
theorem fe96 : feE Tryz.prog ann 96 2 [] = some F96 := by kernel_rfl
/- (*daguerre/hier.Hier).Sub -/
def H98 : F2C := fun c _ v s K =>
pop v fun x0 v =>
pop v fun x1 v =>
pop v fun x2 v =>
endE v (
c (.mk .d0 .d3 .d0 .d7) [x0, x1] s fun x3 s =>
vGen (.un .not (.c x3)) fun x4 =>
gK x4 false x0 fun x5 =>
gK x4 false x2 fun x6 =>
gH x4 false (c (.mk .d0 .d3 .d0 .d7) [x5, x6]) s fun x7 s =>
gV x4 false (vGen (.un .not (.c x7))) fun x8 =>
vPick x4 ct x8 fun x9 =>
cnd x9 (K cf s)
(c (.mk .d0 .d2 .d2 .d6) [x1] s fun x10 s =>
vExt x10 0 fun x11 =>
vExt x10 1 fun x12 =>
c (.mk .d0 .d2 .d2 .d6) [x2] s fun x13 s =>
vExt x13 0 fun x14 =>
vExt x13 1 fun x15 =>
jn (fun _ s =>
c (.mk .d0 .d1 .d3 .d4) [x0, x1] s fun x17 s =>
c (.mk .d0 .d1 .d1 .d1) [x17, x2] s fun x18 s =>
gK x18 false x0 fun x19 =>
gK x18 false x1 fun x20 =>
gH x18 false (c (.mk .d0 .d3 .d0 .d2) [x19, x20]) s fun x21 s =>
gK x18 false x2 fun x22 =>
gH x18 false (c (.mk .d0 .d1 .d1 .d1) [x21, x22]) s fun x23 s =>
vPick x18 ct x23 fun x24 =>
K x24 s) fun K16 =>
bEqF x1 x2 fun x25 =>
cnd x25 (K ct s)
(gK x12 true x15 fun x26 =>
vPick x12 x26 cf fun x27 =>
cnd x27 (bEqT x11 (.str [73]) fun x28 =>
gK x28 true x14 fun x29 =>
gV x28 true (bEqT x29 (.str [73])) fun x30 =>
vPick x28 x30 cf fun x31 =>
gK x31 true x0 fun x32 =>
gK x31 true x11 fun x33 =>
gK x31 true x14 fun x34 =>
gH x31 true (c (.mk .d0 .d1 .d4 .d2) [x32, x33, x34]) s fun x35 s =>
vPick x31 x35 cf fun x36 =>
K x36 s)
(cnd x12 (bEqF x2 (.str [79, 98, 106, 101, 99, 116]) fun x37 =>
K x37 s)
(K16 [] s)))))
def F98 : F2 := .fn H98 true
theorem fe98 : feE Tryz.prog ann 98 3 [.j [], .j [], .j [], .j [], .j []] = some F98 := by kernel_rfl
/- daguerre/verify.Method$2 -/
def H99 : F2C := fun c _ v s K =>
pop v fun x0 v =>
pop v fun x1 v =>
endE v (
ldA x1 take1 s fun x2 s =>
c (.mk .d0 .d1 .d4 .d2) [x2, x0, x0] s fun x3 s =>
K x3 s)
def F99 : F2 := .fn H99 true
theorem fe99 : feE Tryz.prog ann 99 2 [] = some F99 := by kernel_rfl
/- (*daguerre/verify.checker).enter -/
def H100 : F2C := fun c _ v s K =>
pop v fun x0 v =>
pop v fun x1 v =>
pop v fun x2 v =>
endE v (
c (.mk .d0 .d3 .d1 .d0) [x0, x1] s fun x3 s =>
vNil false .ptr x3 fun x4 =>
cnd x4 (c (.mk .d0 .d1 .d4 .d0) [x0, x2] s fun _ s =>
K (.tup []) s)
(cnd x2 (vChk x0 fun x6 =>
fa1 x6 13 fun x7 =>
ldA x7 take1 s fun x8 s =>
c (.mk .d0 .d1 .d5 .d0) [x0, x1, x8] s fun _ s =>
lgE qNoE (zK x0) s fun x10 e11 s =>
lgE qNoE (zK x0) s fun x12 e13 s =>
lgE qNoE (zK x3) s fun x14 e15 s =>
lgE qNoE (zV (vChk x14)) s fun x16 e17 s =>
lgE qNoE (zV (fa1 x16 1)) s fun x18 e19 s =>
lgE (qLdE x18 1) (ldA x18 take1) s fun x20 e21 s =>
lgE qNoE (c (.mk .d0 .d1 .d0 .d0) [x20]) s fun x22 e23 s =>
lgE qNoE (zK x3) s fun x24 e25 s =>
lgE qNoE (zV (vChk x24)) s fun x26 e27 s =>
lgE qNoE (zV (fa1 x26 2)) s fun x28 e29 s =>
lgE (qLdE x28 1) (ldA x28 take1) s fun x30 e31 s =>
lgE qNoE (c (.mk .d0 .d1 .d0 .d0) [x30]) s fun x32 e33 s =>
lgE qNoE (zV (vChk x10)) s fun x34 e35 s =>
lgE qNoE (zV (fa1 x34 12)) s fun x36 e37 s =>
lgE qNoE (zSt x36 x22 1) s fun _ e39 s =>
lgE qNoE (zV (vChk x12)) s fun x40 e41 s =>
lgE qNoE (zV (fa1 x40 13)) s fun x42 e43 s =>
lgE qNoE (zSt x42 x32 1) s fun _ e45 s =>
calmE [(5, 10), (6, 10)] [e11, e13, e15, e17, e19, e21, e23, e25, e27, e29, e31, e33, e35, e37, e39, e41, e43, e45] (fun s =>
K (.tup []) s) s)
(none)))
def F100 : F2 := .fn H100 true
theorem fe100 : feE Tryz.prog ann 100 3 [.j [], .cr] = some F100 := by kernel_rfl
/- (*daguerre/verify.checker).traps -/
def H101 : F2C := fun c k v s K =>
pop v fun x0 v =>
pop v fun x1 v =>
endE v (
vChk x0 fun x2 =>
fa1 x2 2 fun x3 =>
fa1 x3 9 fun x4 =>
ldA x4 take1 s fun x5 s =>
vLenS x5 fun x6 =>
jn (fun _ s =>
K (.tup []) s) fun K7 =>
loopE k (fun K8 v s =>
pop v fun x9 _ =>
bLt x9 x6 fun x10 =>
cnd x10 (jn (fun _ s =>
bAdd x9 (ci 1) fun x12 =>
K8 [x12] s) fun K11 =>
vIaS x5 x9 4 fun x13 =>
ldA x13 (takeN 4) s fun x14 s =>
boxD false [.int .i64 0, .int .i64 0, .int .i64 0, .str []] s fun x15 s =>
zSt x15 x14 4 s fun _ s =>
fa1 x15 3 fun x17 =>
ldA x17 take1 s fun x18 s =>
bEqF x18 (.str []) fun x19 =>
cnd x19 (vChk x0 fun x20 =>
fa1 x20 0 fun x21 =>
ldA x21 take1 s fun x22 s =>
c (.mk .d0 .d1 .d4 .d2) [x22, (.str [84, 104, 114, 111, 119, 110]), (.str [84, 104, 114, 111, 119, 110])] s fun x23 s =>
c (.mk .d0 .d1 .d4 .d0) [x0, x23] s fun _ s =>
fa1 x15 0 fun x25 =>
ldA x25 take1 s fun x26 s =>
bLe x26 x1 fun x27 =>
gK x27 true x1 fun x28 =>
gV x27 true (fa1 x15 1) fun x29 =>
gH x27 true (ldA x29 take1) s fun x30 s =>
gV x27 true (bLt x28 x30) fun x31 =>
vPick x27 x31 cf fun x32 =>
jn (fun _ s =>
K11 [] s) fun K33 =>
cnd x32 (fa1 x15 2 fun x34 =>
ldA x34 take1 s fun x35 s =>
zBsl [.str []] 1 1 (eCons 0 1 (.str [84, 104, 114, 111, 119, 110]) eNil) s fun x36 s =>
c (.mk .d0 .d1 .d5 .d0) [x0, x35, x36] s fun _ s =>
K33 [] s)
(K33 [] s))
(none))
(K7 [] s)) [(ci 0)] s)
def F101 : F2 := .fn H101 true
theorem fe101 : feE Tryz.prog ann 101 2 [.j [], .j [13], .j [], .j [], .cr, .j []] = some F101 := by kernel_rfl
/- (*daguerre/verify.checker).one -/
def H102 : F2C := fun c _ v s K =>
pop v fun x0 v =>
pop v fun x1 v =>
endE v (
zTbox x1 s fun x2 s =>
fa1 x2 0 fun x3 =>
ldA x3 take1 s fun x4 s =>
jn (fun _ s =>
K (.tup []) s) fun K5 =>
c (.mk .d0 .d3 .d1 .d1) [x4, (ci 1), (ci 7)] s fun x6 s =>
jn (fun _ s =>
K5 [] s) fun K7 =>
cnd x6 (ldA x2 (takeN 4) s fun x8 s =>
c (.mk .d0 .d3 .d1 .d2) [x0, x8] s fun _ s =>
K7 [] s)
(bEqF x4 (ci 13) fun x10 =>
cnd x10 (none)
(c (.mk .d0 .d3 .d1 .d1) [x4, (ci 8), (ci 19)] s fun x11 s =>
jn (fun _ s =>
K7 [] s) fun K12 =>
cnd x11 (zBsl [.str [], .str []] 1 2 (eCons 0 1 (.str [73]) (eCons 1 1 (.str [73]) eNil)) s fun x13 s =>
c (.mk .d0 .d3 .d1 .d3) [x0, x13] s fun _ s =>
c (.mk .d0 .d3 .d1 .d4) [x0, (.str [73])] s fun _ s =>
K12 [] s)
(bEqF x4 (ci 20) fun x16 =>
cnd x16 (none)
(c (.mk .d0 .d3 .d1 .d1) [x4, (ci 21), (ci 26)] s fun x17 s =>
jn (fun _ s =>
K12 [] s) fun K18 =>
cnd x17 (zBsl [.str []] 1 1 (eCons 0 1 (.str [73]) eNil) s fun x19 s =>
c (.mk .d0 .d3 .d1 .d3) [x0, x19] s fun _ s =>
K18 [] s)
(c (.mk .d0 .d3 .d1 .d1) [x4, (ci 27), (ci 32)] s fun x21 s =>
cnd x21 (none)
(c (.mk .d0 .d3 .d1 .d1) [x4, (ci 33), (ci 34)] s fun x22 s =>
cnd x22 (none)
(c (.mk .d0 .d3 .d1 .d1) [x4, (ci 35), (ci 36)] s fun x23 s =>
cnd x23 (none)
(bEqF x4 (ci 37) fun x24 =>
gK x24 false x4 fun x25 =>
gH x24 false (c (.mk .d0 .d3 .d1 .d1) [x25, (ci 38), (ci 41)]) s fun x26 s =>
vPick x24 ct x26 fun x27 =>
jn (fun _ s =>
K18 [] s) fun K28 =>
cnd x27 (ldA x2 (takeN 4) s fun x29 s =>
c (.mk .d0 .d3 .d1 .d6) [x0, x29] s fun _ s =>
K28 [] s)
(c (.mk .d0 .d3 .d1 .d1) [x4, (ci 42), (ci 45)] s fun x31 s =>
jn (fun _ s =>
K28 [] s) fun K32 =>
cnd x31 (ldA x2 (takeN 4) s fun x33 s =>
c (.mk .d0 .d3 .d1 .d7) [x0, x33] s fun _ s =>
K32 [] s)
(c (.mk .d0 .d3 .d1 .d1) [x4, (ci 46), (ci 48)] s fun x35 s =>
jn (fun _ s =>
K32 [] s) fun K36 =>
cnd x35 (c (.mk .d0 .d3 .d2 .d0) [x0, x4] s fun _ s =>
K36 [] s)
(c (.mk .d0 .d3 .d1 .d1) [x4, (ci 49), (ci 55)] s fun x38 s =>
cnd x38 (none)
(ldA x2 (takeN 4) s fun x39 s =>
c (.mk .d0 .d3 .d2 .d2) [x0, x39] s fun _ s =>
K36 [] s)))))))))))))
def F102 : F2 := .fn H102 true
theorem fe102 : feE Tryz.prog ann 102 2 [.j [], .j [], .cl, .j [], .cl, .j [], .cl, .cl, .cl, .j [], .j [], .j [], .cl] = some F102 := by kernel_rfl
/- daguerre/op.Jumps -/
def H103 : F2C := fun c _ v s K =>
pop v fun x0 v =>
endE v (
c (.mk .d0 .d3 .d2 .d3) [x0, (ci 20), (ci 36)] s fun x1 s =>
K x1 s)
def F103 : F2 := .fn H103 true
theorem fe103 : feE Tryz.prog ann 103 1 [] = some F103 := by kernel_rfl
/- (*daguerre/verify.checker).goes -/
def H104 : F2C := fun c _ v s K =>
pop v fun x0 v =>
pop v fun x1 v =>
pop v fun x2 v =>
endE v (
c (.mk .d0 .d3 .d1 .d0) [x0, x1] s fun x3 s =>
lgE qNoE (zK x0) s fun x4 e5 s =>
lgE qNoE (zK x3) s fun x6 e7 s =>
lgE qNoE (zV (vNil true .ptr x6)) s fun x8 e9 s =>
lgE qNoE (zK x8) s fun x10 e11 s =>
lgE (qGE x10 true qNoE) (zG x10 true (zK x0)) s fun x12 e13 s =>
lgE (qGE x10 true qNoE) (zG x10 true (zV (vChk x12))) s fun x14 e15 s =>
lgE (qGE x10 true qNoE) (zG x10 true (zV (fa1 x14 0))) s fun x16 e17 s =>
lgE (qGE x10 true (qLdE x16 1)) (zG x10 true (ldA x16 take1)) s fun x18 e19 s =>
lgE (qGE x10 true qNoE) (zG x10 true (zK x3)) s fun x20 e21 s =>
lgE (qGE x10 true qNoE) (zG x10 true (zV (vChk x20))) s fun x22 e23 s =>
lgE (qGE x10 true (qLdE x22 3)) (zG x10 true (ldA x22 (takeN 3))) s fun x24 e25 s =>
lgE (qGE x10 true qNoE) (zG x10 true (zK x0)) s fun x26 e27 s =>
lgE (qGE x10 true qNoE) (zG x10 true (zV (vChk x26))) s fun x28 e29 s =>
lgE (qGE x10 true qNoE) (zG x10 true (zV (fa1 x28 12))) s fun x30 e31 s =>
lgE (qGE x10 true (qLdE x30 1)) (zG x10 true (ldA x30 take1)) s fun x32 e33 s =>
lgE (qGE x10 true qNoE) (zG x10 true (zK x2)) s fun x34 e35 s =>
lgE (qGE x10 true qNoE) (zG x10 true (c (.mk .d0 .d3 .d2 .d4) [x18, x24, x32, x34])) s fun x36 e37 s =>
lgE qNoE (zV (vPick x10 x36 cf)) s fun x38 e39 s =>
lgE qNoE (c (.mk .d0 .d1 .d4 .d0) [x4, x38]) s fun _ e41 s =>
calmE [(7, 10), (7, 14), (10, 14)] [e5, e7, e9, e11, e13, e15, e17, e19, e21, e23, e25, e27, e29, e31, e33, e35, e37, e39, e41] (fun s =>
K (.tup []) s) s)
def F104 : F2 := .fn H104 true
theorem fe104 : feE Tryz.prog ann 104 3 [] = some F104 := by kernel_rfl
/- daguerre/op.Ends -/
def H105 : F2C := fun _ _ v s K =>
pop v fun x0 v =>
endE v (
jn (fun _ s =>
K cf s) fun K1 =>
bEqF x0 (ci 20) fun x2 =>
cnd x2 (none)
(bEqF x0 (ci 46) fun x3 =>
jn (fun v s =>
pop v fun x5 _ =>
cnd x5 (K ct s)
(K1 [] s)) fun K4 =>
cnd x3 (K4 [x3] s)
(bEqF x0 (ci 47) fun x6 =>
jn (fun v s =>
pop v fun x8 _ =>
K4 [x8] s) fun K7 =>
cnd x6 (K7 [x6] s)
(bEqF x0 (ci 48) fun x9 =>
cnd x9 (none)
(bEqF x0 (ci 58) fun x10 =>
cnd x10 (none)
(bEqF x0 (ci 61) fun x11 =>
K7 [x11] s))))))
def F105 : F2 := .fn H105 true
theorem fe105 : feE Tryz.prog ann 105 1 [.j [], .cl, .j [4], .j [4], .cl, .cl, .j []] = some F105 := by kernel_rfl
/- daguerre/pile.New -/
def H106 : F2C := fun _ _ v s K =>
endE v (
zMkm s fun x0 s =>
vBld [.nil .sl, .nil .map] (eCons 1 1 x0 eNil) fun x1 =>
zBox true x1 s fun x2 s =>
K x2 s)
def F106 : F2 := .fn H106 true
theorem fe106 : feE Tryz.prog ann 106 0 [] = some F106 := by kernel_rfl
/- daguerre/hier.Given -/
def H107 : F2C := fun _ _ v s K =>
endE v (
zHbs [.str [], .str [], .str [], .str [], .str [], .str [], .str [], .str [], .str [], .str []] 1 10 (eCons 0 1 (.str [79, 98, 106, 101, 99, 116]) (eCons 1 1 (.str [84, 104, 114, 111, 119, 110]) (eCons 2 1 (.str [78, 117, 108, 108, 69, 114, 114]) (eCons 3 1 (.str [82, 97, 110, 103, 101, 69, 114, 114]) (eCons 4 1 (.str [77, 97, 116, 104, 69, 114, 114]) (eCons 5 1 (.str [67, 97, 115, 116, 69, 114, 114]) (eCons 6 1 (.str [83, 105, 122, 101, 69, 114, 114]) (eCons 7 1 (.str [83, 116, 111, 114, 101, 69, 114, 114]) (eCons 8 1 (.str [73, 110, 105, 116, 69, 114, 114]) (eCons 9 1 (.str [67, 108, 97, 115, 115, 69, 114, 114]) eNil)))))))))) s fun x0 s =>
K x0 s)
def F107 : F2 := .fn H107 true
theorem fe107 : feE Tryz.prog ann 107 0 [] = some F107 := by kernel_rfl
/- (*daguerre/reach.Reach).make -/
def H108 : F2C := fun _ k v s K =>
pop v fun x0 v =>
pop v fun x1 v =>
endE v (
vChk x0 fun x2 =>
fa1 x2 5 fun x3 =>
ldA x3 take1 s fun x4 s =>
zLku .str (.bool false) x4 x1 false s fun x5 s =>
cnd x5 (none)
(vChk x0 fun x6 =>
fa1 x6 5 fun x7 =>
ldA x7 take1 s fun x8 s =>
zMup .str x8 x1 ct s fun _ s =>
vChk x0 fun x10 =>
fa1 x10 7 fun x11 =>
ldA x11 take1 s fun x12 s =>
vLenS x12 fun x13 =>
jn (fun _ s =>
K (.tup []) s) fun K14 =>
loopE k (fun _ v s =>
pop v fun x16 _ =>
bLt x16 x13 fun x17 =>
cnd x17 (none)
(K14 [] s)) [(ci 0)] s))
def F108 : F2 := .fn H108 true
theorem fe108 : feE Tryz.prog ann 108 2 [.cl, .j [], .j [22], .cl, .j []] = some F108 := by kernel_rfl
/- slices.Index[[]daguerre/reach.site,daguerre/reach.site] -/
def H109 : F2C := fun _ k v s K =>
pop v fun x0 v =>
pop v fun x1 v =>
endE v (
zTbox x1 s fun x2 s =>
vLenS x0 fun x3 =>
jn (fun _ s =>
K (.int .i64 (-1)) s) fun K4 =>
loopE k (fun K5 v s =>
pop v fun x6 _ =>
bLt x6 x3 fun x7 =>
cnd x7 (jn (fun _ s =>
bAdd x6 (ci 1) fun x9 =>
K5 [x9] s) fun K8 =>
lgE (qLdE x2 2) (ldA x2 (takeN 2)) s fun x10 e11 s =>
lgE qNoE (zK x0) s fun x12 e13 s =>
lgE qNoE (zK x6) s fun x14 e15 s =>
lgE qNoE (zV (vIaS x12 x14 2)) s fun x16 e17 s =>
lgE (qLdE x16 2) (ldA x16 (takeN 2)) s fun x18 e19 s =>
lgE qNoE (zV (vGen (.eqs false [(0, 1), (1, 1)] (.c x10) (.c x18)))) s fun x20 e21 s =>
calmE [(0, 4)] [e11, e13, e15, e17, e19, e21] (fun s =>
cnd x20 (K x6 s)
(K8 [] s)) s)
(K4 [] s)) [(ci 0)] s)
def F109 : F2 := .fn H109 true
theorem fe109 : feE Tryz.prog ann 109 2 [.j [], .j [8], .j [], .j [], .j []] = some F109 := by kernel_rfl
/- (*daguerre/pile.Pile).Put -/
def H110 : F2C := fun c _ v s K =>
pop v fun x0 v =>
pop v fun x1 v =>
pop v fun x2 v =>
endE v (
vNil false .ptr x0 fun x3 =>
gK x3 false x0 fun x4 =>
gV x3 false (vChk x4) fun x5 =>
gV x3 false (fa1 x5 1) fun x6 =>
gH x3 false (ldA x6 take1) s fun x7 s =>
gK x3 false x2 fun x8 =>
gH x3 false (zLku (.int .i64) (.bool false) x7 x8 false) s fun x9 s =>
vPick x3 ct x9 fun x10 =>
cnd x10 (K cf s)
(vChk x0 fun x11 =>
fa1 x11 1 fun x12 =>
ldA x12 take1 s fun x13 s =>
zMup (.int .i64) x13 x2 ct s fun _ s =>
vChk x0 fun x15 =>
fa1 x15 0 fun x16 =>
vBld [.int .i64 0, .int .i64 0] (eCons 0 1 x1 (eCons 1 1 x2 eNil)) fun x17 =>
c (.mk .d0 .d3 .d2 .d6) [(.ifc 216 x16), (.ifc 218 x17)] s fun _ s =>
K ct s))
def F110 : F2 := .fn H110 true
theorem fe110 : feE Tryz.prog ann 110 3 [.j []] = some F110 := by kernel_rfl
/- (*daguerre/pile.Pile).Take -/
def H111 : F2C := fun c _ v s K =>
pop v fun x0 v =>
endE v (
c (.mk .d0 .d2 .d4 .d6) [x0] s fun x1 s =>
bEqF x1 (ci 0) fun x2 =>
cnd x2 (K (.tup [(ci 0), cf]) s)
(vChk x0 fun x3 =>
fa1 x3 0 fun x4 =>
c (.mk .d0 .d3 .d2 .d7) [(.ifc 216 x4)] s fun x5 s =>
vTas 218 false x5 fun x6 =>
vFld x6 1 take1 fun x7 =>
K (.tup [x7, ct]) s))
def F111 : F2 := .fn H111 true
theorem fe111 : feE Tryz.prog ann 111 1 [.j []] = some F111 := by kernel_rfl
/- daguerre/class.Method -/
def H112 : F2C := fun c _ v s K =>
pop v fun x0 v =>
pop v fun x1 v =>
endE v (
zTbox x0 s fun x2 s =>
zBox false x1 s fun x3 s =>
fa1 x2 5 fun x4 =>
ldA x4 take1 s fun x5 s =>
vGen (.mkf 217 [] [(.c x3)]) fun x6 =>
c (.mk .d0 .d3 .d3 .d0) [x5, x6] s fun x7 s =>
K x7 s)
def F112 : F2 := .fn H112 true
theorem fe112 : feE Tryz.prog ann 112 2 [] = some F112 := by kernel_rfl
/- (*daguerre/reach.Reach).one -/
def H113 : F2C := fun c _ v s K =>
pop v fun x0 v =>
pop v fun x1 v =>
endE v (
zTbox x1 s fun x2 s =>
fa1 x2 0 fun x3 =>
ldA x3 take1 s fun x4 s =>
jn (fun _ s =>
K (.tup []) s) fun K5 =>
bEqF x4 (ci 37) fun x6 =>
jn (fun _ s =>
K5 [] s) fun K7 =>
cnd x6 (fa1 x2 2 fun x8 =>
ldA x8 take1 s fun x9 s =>
c (.mk .d0 .d1 .d5 .d4) [x0, x9] s fun _ s =>
fa1 x2 2 fun x11 =>
ldA x11 take1 s fun x12 s =>
c (.mk .d0 .d0 .d5 .d2) [x0, x12] s fun _ s =>
K7 [] s)
(bEqF x4 (ci 40) fun x14 =>
cnd x14 (none)
(bEqF x4 (ci 41) fun x15 =>
jn (fun _ s =>
K7 [] s) fun K16 =>
cnd x15 (lgE qNoE (zK x0) s fun x17 e18 s =>
lgE qNoE (zV (vChk x17)) s fun x19 e20 s =>
lgE qNoE (zV (fa1 x19 0)) s fun x21 e22 s =>
lgE (qLdE x21 1) (ldA x21 take1) s fun x23 e24 s =>
lgE qNoE (zV (fa1 x2 2)) s fun x25 e26 s =>
lgE (qLdE x25 1) (ldA x25 take1) s fun x27 e28 s =>
lgE qNoE (zV (fa1 x2 3)) s fun x29 e30 s =>
lgE (qLdE x29 1) (ldA x29 take1) s fun x31 e32 s =>
lgE qNoE (c (.mk .d0 .d3 .d3 .d2) [x23, x27, x31]) s fun x33 e34 s =>
lgE qNoE (zK x33) s fun x35 e36 s =>
lgE qNoE (zV (vExt x35 0)) s fun x37 e38 s =>
lgE qNoE (zV (vExt x35 1)) s fun x39 e40 s =>
lgE qNoE (zV (vExt x35 2)) s fun x41 e42 s =>
lgE qNoE (boxD false [.str [], .str [], .bool false]) s fun x43 e44 s =>
lgE qNoE (zK x37) s fun x45 e46 s =>
lgE qNoE (zSt x43 x39 3) s fun _ e48 s =>
lgE qNoE (zK x41) s fun x49 e50 s =>
calmE [(3, 5), (3, 7), (5, 7), (3, 13), (5, 13), (7, 13), (8, 13)] [e18, e20, e22, e24, e26, e28, e30, e32, e34, e36, e38, e40, e42, e44, e46, e48, e50] (fun s =>
cnd x49 (c (.mk .d0 .d0 .d5 .d2) [x0, x45] s fun _ s =>
K16 [] s)
(none)) s)
(bEqF x4 (ci 42) fun x52 =>
cnd x52 (none)
(bEqF x4 (ci 44) fun x53 =>
cnd x53 (none)
(bEqF x4 (ci 43) fun x54 =>
jn (fun _ s =>
K16 [] s) fun K55 =>
cnd x54 (fa1 x2 2 fun x56 =>
ldA x56 take1 s fun x57 s =>
fa1 x2 3 fun x58 =>
ldA x58 take1 s fun x59 s =>
vBld [.str [], .str []] (eCons 0 1 x57 (eCons 1 1 x59 eNil)) fun x60 =>
c (.mk .d0 .d3 .d3 .d3) [x0, x60] s fun _ s =>
K55 [] s)
(bEqF x4 (ci 45) fun x62 =>
cnd x62 (none)
(K55 [] s))))))))
def F113 : F2 := .fn H113 true
theorem fe113 : feE Tryz.prog ann 113 2 [.j [], .j [], .cl, .j [], .cr, .cl, .cl, .j [], .cl] = some F113 := by kernel_rfl
/- daguerre/daguerrelaw12.begun -/
def H114 : F2C := fun c _ v s K =>
endE v (
c (.mk .d0 .d3 .d3 .d5) [(ci 8), (cj 2147483647), (cj 1)] s fun x0 s =>
vExt x0 0 fun x1 =>
vExt x0 1 fun x2 =>
c (.mk .d0 .d3 .d3 .d5) [(ci 11), (cj 1), (cj 0)] s fun x3 s =>
vExt x3 0 fun _ =>
vExt x3 1 fun x5 =>
c (.mk .d0 .d3 .d3 .d5) [(ci 11), (.int .i32 (-2147483648)), (.int .i32 (-1))] s fun x6 s =>
vExt x6 0 fun x7 =>
vExt x6 1 fun x8 =>
bEqF x1 (.int .i32 (-2147483648)) fun x9 =>
gK x9 true x2 fun x10 =>
vPick x9 x10 cf fun x11 =>
gK x11 true x5 fun x12 =>
gV x11 true (vGen (.un .not (.c x12))) fun x13 =>
vPick x11 x13 cf fun x14 =>
gK x14 true x7 fun x15 =>
gV x14 true (bEqF x15 (.int .i32 (-2147483648))) fun x16 =>
vPick x14 x16 cf fun x17 =>
gK x17 true x8 fun x18 =>
vPick x17 x18 cf fun x19 =>
gH x19 true (c (.mk .d0 .d3 .d3 .d6) [(ci 13), (cj 5)]) s fun x20 s =>
gV x19 true (bEqF x20 (.int .i32 (-5))) fun x21 =>
vPick x19 x21 cf fun x22 =>
gH x22 true (c (.mk .d0 .d3 .d3 .d7) [(ci 23), (.int .i32 (-1)), (cj 9)]) s fun x23 s =>
vPick x22 x23 cf fun x24 =>
gH x24 true (c (.mk .d0 .d3 .d3 .d7) [(ci 29), (cj 9), (cj 9)]) s fun x25 s =>
gV x24 true (vGen (.un .not (.c x25))) fun x26 =>
vPick x24 x26 cf fun x27 =>
K x27 s)
def F114 : F2 := .pur H114 true mNo
theorem fe114 : feE Tryz.prog ann 114 0 [] = some F114 := by kernel_rfl
def M114 (k : Nat) : F2 := .pur H114 true (Bool.rec mNo (mVal (.bool true)) (Nat.ble 10 k))
/- daguerre/daguerrelaw14.begun -/
def H115 : F2C := fun c _ v s K =>
endE v (
c (.mk .d0 .d0 .d6 .d2) [(ci 30)] s fun x0 s =>
c (.mk .d0 .d3 .d4 .d0) [x0, (ci 2), (ci 1)] s fun _ s =>
c (.mk .d0 .d3 .d4 .d0) [x0, (ci 2), (ci 1)] s fun x2 s =>
vExt x2 0 fun x3 =>
vExt x2 1 fun _ =>
c (.mk .d0 .d3 .d4 .d0) [x0, (ci 4), (ci 0)] s fun x5 s =>
vExt x5 0 fun x6 =>
vExt x5 1 fun _ =>
bAdd x6 (ci 1) fun x8 =>
vCv .i32 x8 fun x9 =>
c (.mk .d0 .d3 .d4 .d1) [x0, x3, (ci 0), x9] s fun x10 s =>
vGen (.un .not (.c x10)) fun x11 =>
cnd x11 (none)
(zBsl [.int .i64 0, .int .i64 0, .int .i64 0] 1 3 (eCons 0 1 x6 (eCons 1 1 (.int .i64 (-1)) (eCons 2 1 x3 eNil))) s fun x12 s =>
c (.mk .d0 .d2 .d2 .d4) [x0, (.fn 226 [] []), x12] s fun x13 s =>
vExt x13 0 fun x14 =>
vExt x13 1 fun x15 =>
vNil false .ptr x14 fun x16 =>
gK x16 false x15 fun x17 =>
gV x16 false (vLenS x17) fun x18 =>
gV x16 false (bEqT x18 (ci 3)) fun x19 =>
vPick x16 ct x19 fun x20 =>
cnd x20 (none)
(c (.mk .d0 .d3 .d4 .d3) [] s fun x21 s =>
gK x21 true x14 fun x22 =>
gH x21 true (c (.mk .d0 .d2 .d2 .d5) [x22]) s fun x23 s =>
gV x21 true (bEqF x23 (ci 5)) fun x24 =>
vPick x21 x24 cf fun x25 =>
gK x25 true x14 fun x26 =>
gH x25 true (c (.mk .d0 .d1 .d0 .d3) [x26]) s fun x27 s =>
gV x25 true (bEqF x27 (ci 30)) fun x28 =>
vPick x25 x28 cf fun x29 =>
gK x29 true x15 fun x30 =>
gV x29 true (vIaS x30 (ci 0) 1) fun x31 =>
gH x29 true (ldA x31 take1) s fun x32 s =>
gV x29 true (bEqF x32 (ci 0)) fun x33 =>
vPick x29 x33 cf fun x34 =>
gK x34 true x15 fun x35 =>
gV x34 true (vIaS x35 (ci 1) 1) fun x36 =>
gH x34 true (ldA x36 take1) s fun x37 s =>
gV x34 true (bEqF x37 (.int .i64 (-1))) fun x38 =>
vPick x34 x38 cf fun x39 =>
gK x39 true x15 fun x40 =>
gV x39 true (vIaS x40 (ci 2) 1) fun x41 =>
gH x39 true (ldA x41 take1) s fun x42 s =>
gV x39 true (bEqF x42 (ci 2)) fun x43 =>
vPick x39 x43 cf fun x44 =>
gK x44 true x14 fun x45 =>
gH x44 true (c (.mk .d0 .d3 .d4 .d4) [x45, (ci 0)]) s fun x46 s =>
gV x44 true (bEqF x46 (ci 4)) fun x47 =>
vPick x44 x47 cf fun x48 =>
gK x48 true x14 fun x49 =>
gH x48 true (c (.mk .d0 .d3 .d4 .d4) [x49, (ci 2)]) s fun x50 s =>
gV x48 true (bEqF x50 (ci 2)) fun x51 =>
vPick x48 x51 cf fun x52 =>
gK x52 true x14 fun x53 =>
gH x52 true (c (.mk .d0 .d3 .d4 .d5) [x53, (ci 2), (ci 0)]) s fun x54 s =>
gV x52 true (bEqF x54 (cj 1)) fun x55 =>
vPick x52 x55 cf fun x56 =>
gK x56 true x0 fun x57 =>
gK x56 true x3 fun x58 =>
gH x56 true (zBsl [.int .i64 0] 1 1 (eCons 0 1 x58 eNil)) s fun x59 s =>
gH x56 true (c (.mk .d0 .d0 .d7 .d4) [x57, (.fn 226 [] []), x59]) s fun x60 s =>
gV x56 true (bEqF x60 (ci 5)) fun x61 =>
vPick x56 x61 cf fun x62 =>
gK x62 true x0 fun x63 =>
gH x62 true (c (.mk .d0 .d2 .d2 .d5) [x63]) s fun x64 s =>
gV x62 true (bEqF x64 (ci 8)) fun x65 =>
vPick x62 x65 cf fun x66 =>
K x66 s)))
def F115 : F2 := .pur H115 true mNo
theorem fe115 : feE Tryz.prog ann 115 0 [.cl, .cl] = some F115 := by kernel_rfl
def M115 (k : Nat) : F2 := .pur H115 true (Bool.rec mNo (mVal (.bool true)) (Nat.ble 12 k))
/- daguerre/daguerrelaw16.begun -/
def H116 : F2C := fun c _ v s K =>
endE v (
c (.mk .d0 .d0 .d3 .d6) [] s fun x0 s =>
c (.mk .d0 .d0 .d4 .d4) [x0] s fun x1 s =>
vExt x1 0 fun x2 =>
vExt x1 1 fun x3 =>
bEqT x3 (ci 0) fun x4 =>
cnd x4 (none)
(c (.mk .d0 .d0 .d6 .d1) [x2] s fun x5 s =>
c (.mk .d0 .d2 .d1 .d5) [x5, (.str [66, 98])] s fun x6 s =>
vExt x6 0 fun x7 =>
vExt x6 1 fun x8 =>
c (.mk .d0 .d2 .d1 .d6) [x5, (.str [65, 97]), (ci 2)] s fun _ s =>
c (.mk .d0 .d2 .d1 .d5) [x5, (.str [66, 98])] s fun x10 s =>
vExt x10 0 fun x11 =>
vExt x10 1 fun _ =>
c (.mk .d0 .d2 .d1 .d6) [x5, (.str [65, 97]), (ci 3)] s fun _ s =>
c (.mk .d0 .d2 .d1 .d5) [x5, (.str [66, 98])] s fun x14 s =>
vExt x14 0 fun x15 =>
vExt x14 1 fun x16 =>
c (.mk .d0 .d0 .d3 .d4) [x5, (.str [65, 97]), (.str [115])] s fun x17 s =>
vExt x17 0 fun x18 =>
vExt x17 1 fun x19 =>
boxD false [.bool false, .int .i32 0] s fun x20 s =>
zSt x20 x18 2 s fun _ s =>
c (.mk .d0 .d0 .d3 .d4) [x5, (.str [66, 98]), (.str [115])] s fun x22 s =>
vExt x22 0 fun x23 =>
vExt x22 1 fun x24 =>
boxD false [.bool false, .int .i32 0] s fun x25 s =>
zSt x25 x23 2 s fun _ s =>
vBld [.bool false, .int .i32 0] (eCons 1 1 (cj 4) eNil) fun x27 =>
c (.mk .d0 .d3 .d4 .d6) [x5, (.str [65, 97]), (.str [115]), x27] s fun x28 s =>
vBld [.bool false, .int .i32 0] (eCons 0 1 ct eNil) fun x29 =>
c (.mk .d0 .d3 .d4 .d6) [x5, (.str [65, 97]), (.str [115]), x29] s fun x30 s =>
c (.mk .d0 .d0 .d7 .d7) [x5] s fun x31 s =>
vBld [.bool false, .int .i32 0] (eCons 1 1 (cj 5) eNil) fun x32 =>
c (.mk .d0 .d3 .d4 .d6) [x5, (.str [65, 97]), (.str [115]), x32] s fun _ s =>
c (.mk .d0 .d0 .d3 .d4) [x31, (.str [65, 97]), (.str [115])] s fun x34 s =>
vExt x34 0 fun x35 =>
vExt x34 1 fun _ =>
boxD false [.bool false, .int .i32 0] s fun x37 s =>
zSt x37 x35 2 s fun _ s =>
c (.mk .d0 .d3 .d4 .d7) [] s fun x39 s =>
gH x39 true (c (.mk .d0 .d3 .d5 .d0) []) s fun x40 s =>
vPick x39 x40 cf fun x41 =>
gK x41 true x7 fun x42 =>
gV x41 true (bEqF x42 (.str [65, 97])) fun x43 =>
vPick x41 x43 cf fun x44 =>
gK x44 true x8 fun x45 =>
gV x44 true (bEqF x45 (ci 0)) fun x46 =>
vPick x44 x46 cf fun x47 =>
gK x47 true x11 fun x48 =>
gV x47 true (bEqF x48 (.str [66, 98])) fun x49 =>
vPick x47 x49 cf fun x50 =>
gK x50 true x15 fun x51 =>
gV x50 true (bEqF x51 (.str [65, 97])) fun x52 =>
vPick x50 x52 cf fun x53 =>
gK x53 true x16 fun x54 =>
gV x53 true (bEqF x54 (ci 3)) fun x55 =>
vPick x53 x55 cf fun x56 =>
gK x56 true x19 fun x57 =>
vPick x56 x57 cf fun x58 =>
gV x58 true (fa1 x20 1) fun x59 =>
gH x58 true (ldA x59 take1) s fun x60 s =>
gV x58 true (bEqF x60 (cj 0)) fun x61 =>
vPick x58 x61 cf fun x62 =>
gK x62 true x24 fun x63 =>
gV x62 true (vGen (.un .not (.c x63))) fun x64 =>
vPick x62 x64 cf fun x65 =>
gK x65 true x28 fun x66 =>
vPick x65 x66 cf fun x67 =>
gK x67 true x30 fun x68 =>
gV x67 true (vGen (.un .not (.c x68))) fun x69 =>
vPick x67 x69 cf fun x70 =>
gV x70 true (fa1 x37 1) fun x71 =>
gH x70 true (ldA x71 take1) s fun x72 s =>
gV x70 true (bEqF x72 (cj 4)) fun x73 =>
vPick x70 x73 cf fun x74 =>
gK x74 true x5 fun x75 =>
gH x74 true (c (.mk .d0 .d0 .d3 .d5) [x75, (.str [79, 98, 106, 101, 99, 116])]) s fun x76 s =>
gV x74 true (bEqF x76 (ci 2)) fun x77 =>
vPick x74 x77 cf fun x78 =>
gK x78 true x5 fun x79 =>
gH x78 true (c (.mk .d0 .d0 .d3 .d5) [x79, (.str [90, 122])]) s fun x80 s =>
gV x78 true (bEqF x80 (ci 0)) fun x81 =>
vPick x78 x81 cf fun x82 =>
K x82 s))
def F116 : F2 := .pur H116 true mNo
theorem fe116 : feE Tryz.prog ann 116 0 [.cl] = some F116 := by kernel_rfl
def M116 (k : Nat) : F2 := .pur H116 true (Bool.rec mNo (mVal (.bool true)) (Nat.ble 14 k))
/- daguerre/kind.Ref -/
def H117 : F2C := fun c _ v s K =>
pop v fun x0 v =>
endE v (
bEqT x0 (.str [73]) fun x1 =>
gK x1 true x0 fun x2 =>
gH x1 true (c (.mk .d0 .d2 .d5 .d4) [x2]) s fun x3 s =>
vPick x1 x3 cf fun x4 =>
K x4 s)
def F117 : F2 := .fn H117 true
theorem fe117 : feE Tryz.prog ann 117 1 [] = some F117 := by kernel_rfl
/- (*daguerre/lazy.Machine).two -/
def H118 : F2C := fun c _ v s K =>
pop v fun x0 v =>
pop v fun x1 v =>
pop v fun x2 v =>
endE v (
zTbox x2 s fun x3 s =>
c (.mk .d0 .d3 .d5 .d1) [x1, (ci 2)] s fun x4 s =>
lgE qNoE (zV (fa1 x3 0)) s fun x5 e6 s =>
lgE (qLdE x5 1) (ldA x5 take1) s fun x7 e8 s =>
lgE qNoE (zK x4) s fun x9 e10 s =>
lgE qNoE (zV (vIaS x9 (ci 0) 2)) s fun x11 e12 s =>
lgE qNoE (zV (fa1 x11 1)) s fun x13 e14 s =>
lgE (qLdE x13 1) (ldA x13 take1) s fun x15 e16 s =>
lgE qNoE (zK x4) s fun x17 e18 s =>
lgE qNoE (zV (vIaS x17 (ci 1) 2)) s fun x19 e20 s =>
lgE qNoE (zV (fa1 x19 1)) s fun x21 e22 s =>
lgE (qLdE x21 1) (ldA x21 take1) s fun x23 e24 s =>
lgE qNoE (c (.mk .d0 .d3 .d3 .d5) [x7, x15, x23]) s fun x25 e26 s =>
lgE qNoE (zK x25) s fun x27 e28 s =>
lgE qNoE (zV (vExt x27 0)) s fun x29 e30 s =>
lgE qNoE (zV (vExt x27 1)) s fun x31 e32 s =>
lgE qNoE (zK x29) s fun x33 e34 s =>
lgE qNoE (zK x31) s fun x35 e36 s =>
calmE [(1, 5), (1, 9), (5, 9)] [e6, e8, e10, e12, e14, e16, e18, e20, e22, e24, e26, e28, e30, e32, e34, e36] (fun s =>
vGen (.un .not (.c x35)) fun x37 =>
cnd x37 (c (.mk .d0 .d2 .d1 .d7) [x0, (.str [77, 97, 116, 104, 69, 114, 114])] s fun _ s =>
K (.tup []) s)
(c (.mk .d0 .d3 .d5 .d3) [x33] s fun x39 s =>
zBsl [.bool false, .int .i32 0] 2 1 (eCons 0 2 x39 eNil) s fun x40 s =>
c (.mk .d0 .d3 .d5 .d2) [x1, (ci 2), x40] s fun _ s =>
K (.tup []) s)) s)
def F118 : F2 := .fn H118 true
theorem fe118 : feE Tryz.prog ann 118 3 [.j []] = some F118 := by kernel_rfl
/- (*daguerre/lazy.Machine).jump -/
def H119 : F2C := fun c _ v s K =>
pop v fun _ v =>
pop v fun x1 v =>
pop v fun x2 v =>
endE v (
zTbox x2 s fun x3 s =>
fa1 x3 0 fun x4 =>
ldA x4 take1 s fun x5 s =>
jn (fun v s =>
pop v fun x7 v =>
pop v fun x8 _ =>
c (.mk .d0 .d3 .d5 .d2) [x1, x8, (.nil .sl)] s fun _ s =>
jn (fun _ s =>
K (.tup []) s) fun K10 =>
cnd x7 (lgE qNoE (zK x1) s fun x11 e12 s =>
lgE qNoE (zV (vChk x11)) s fun x13 e14 s =>
lgE qNoE (zV (fa1 x13 0)) s fun x15 e16 s =>
lgE (qLdE x15 1) (ldA x15 take1) s fun x17 e18 s =>
lgE qNoE (zV (fa1 x3 1)) s fun x19 e20 s =>
lgE (qLdE x19 1) (ldA x19 take1) s fun x21 e22 s =>
lgE qNoE (c (.mk .d0 .d2 .d2 .d3) [x17, x21]) s fun _ e24 s =>
calmE [(3, 5)] [e12, e14, e16, e18, e20, e22, e24] (fun s =>
K10 [] s) s)
(K10 [] s)) fun K6 =>
bGe x5 (ci 21) fun x25 =>
gK x25 true x5 fun x26 =>
gV x25 true (bLe x26 (ci 26)) fun x27 =>
vPick x25 x27 cf fun x28 =>
cnd x28 (c (.mk .d0 .d3 .d5 .d1) [x1, (ci 1)] s fun x29 s =>
vIaS x29 (ci 0) 2 fun x30 =>
fa1 x30 1 fun x31 =>
ldA x31 take1 s fun x32 s =>
c (.mk .d0 .d3 .d3 .d7) [x5, x32, (cj 0)] s fun x33 s =>
K6 [x33, (ci 1)] s)
(none))
def F119 : F2 := .fn H119 true
theorem fe119 : feE Tryz.prog ann 119 3 [.j [7, 6], .cr, .j []] = some F119 := by kernel_rfl
/- (*daguerre/lazy.Machine).move -/
def H120 : F2C := fun c _ v s K =>
pop v fun _ v =>
pop v fun x1 v =>
pop v fun x2 v =>
endE v (
zTbox x2 s fun x3 s =>
fa1 x3 0 fun x4 =>
ldA x4 take1 s fun x5 s =>
jn (fun _ s =>
K (.tup []) s) fun K6 =>
bEqF x5 (ci 1) fun x7 =>
jn (fun _ s =>
K6 [] s) fun K8 =>
cnd x7 (fa1 x3 1 fun x9 =>
ldA x9 take1 s fun x10 s =>
vCv .i32 x10 fun x11 =>
c (.mk .d0 .d3 .d5 .d3) [x11] s fun x12 s =>
zBsl [.bool false, .int .i32 0] 2 1 (eCons 0 2 x12 eNil) s fun x13 s =>
c (.mk .d0 .d3 .d5 .d2) [x1, (ci 0), x13] s fun _ s =>
K8 [] s)
(bEqF x5 (ci 2) fun x15 =>
cnd x15 (none)
(bEqF x5 (ci 3) fun x16 =>
jn (fun _ s =>
K8 [] s) fun K17 =>
cnd x16 (lgE qNoE (zK x1) s fun x18 e19 s =>
lgE qNoE (zV (vChk x18)) s fun x20 e21 s =>
lgE qNoE (zV (fa1 x20 0)) s fun x22 e23 s =>
lgE (qLdE x22 1) (ldA x22 take1) s fun x24 e25 s =>
lgE qNoE (zV (fa1 x3 1)) s fun x26 e27 s =>
lgE (qLdE x26 1) (ldA x26 take1) s fun x28 e29 s =>
lgE qNoE (c (.mk .d0 .d3 .d5 .d4) [x24, x28]) s fun x30 e31 s =>
lgE qNoE (zK x30) s fun x32 e33 s =>
lgE qNoE (zV (vExt x32 0)) s fun x34 e35 s =>
lgE qNoE (zV (vExt x32 1)) s fun x36 e37 s =>
lgE qNoE (boxD false [.bool false, .int .i32 0]) s fun x38 e39 s =>
lgE qNoE (zSt x38 x34 2) s fun _ e41 s =>
lgE qNoE (zK x36) s fun _ e43 s =>
calmE [(3, 5), (3, 10), (5, 10), (6, 10)] [e19, e21, e23, e25, e27, e29, e31, e33, e35, e37, e39, e41, e43] (fun s =>
ldA x38 (takeN 2) s fun x44 s =>
zBsl [.bool false, .int .i32 0] 2 1 (eCons 0 2 x44 eNil) s fun x45 s =>
c (.mk .d0 .d3 .d5 .d2) [x1, (ci 0), x45] s fun _ s =>
K17 [] s) s)
(bEqF x5 (ci 4) fun x47 =>
cnd x47 (none)
(bEqF x5 (ci 5) fun x48 =>
cnd x48 (c (.mk .d0 .d3 .d5 .d2) [x1, (ci 1), (.nil .sl)] s fun _ s =>
K17 [] s)
(none))))))
def F120 : F2 := .fn H120 true
theorem fe120 : feE Tryz.prog ann 120 3 [.j [], .j [], .cl, .j [], .cl, .cr] = some F120 := by kernel_rfl
/- (*daguerre/lazy.Machine).object -/
def H122 : F2C := fun c _ v s K =>
pop v fun x0 v =>
pop v fun _ v =>
pop v fun x2 v =>
endE v (
zTbox x2 s fun x3 s =>
fa1 x3 2 fun x4 =>
ldA x4 take1 s fun x5 s =>
c (.mk .d0 .d0 .d7 .d1) [x0, x5] s fun x6 s =>
vGen (.un .not (.c x6)) fun x7 =>
cnd x7 (K (.tup []) s)
(none))
def F122 : F2 := .fn H122 true
theorem fe122 : feE Tryz.prog ann 122 3 [.cr, .ch] = some F122 := by kernel_rfl
/- (*daguerre/lazy.Machine).static -/
def H125 : F2C := fun c _ v s K =>
pop v fun x0 v =>
pop v fun x1 v =>
pop v fun x2 v =>
endE v (
zTbox x2 s fun x3 s =>
lgE qNoE (zK x0) s fun x4 e5 s =>
lgE qNoE (zV (vChk x4)) s fun x6 e7 s =>
lgE qNoE (zV (fa1 x6 0)) s fun x8 e9 s =>
lgE (qLdE x8 1) (ldA x8 take1) s fun x10 e11 s =>
lgE qNoE (zV (fa1 x3 2)) s fun x12 e13 s =>
lgE (qLdE x12 1) (ldA x12 take1) s fun x14 e15 s =>
lgE qNoE (zV (fa1 x3 3)) s fun x16 e17 s =>
lgE (qLdE x16 1) (ldA x16 take1) s fun x18 e19 s =>
lgE qNoE (c (.mk .d0 .d3 .d3 .d2) [x10, x14, x18]) s fun x20 e21 s =>
lgE qNoE (zK x20) s fun x22 e23 s =>
lgE qNoE (zV (vExt x22 0)) s fun x24 e25 s =>
lgE qNoE (zV (vExt x22 1)) s fun x26 e27 s =>
lgE qNoE (zV (vExt x22 2)) s fun x28 e29 s =>
lgE qNoE (boxD false [.str [], .str [], .bool false]) s fun x30 e31 s =>
lgE qNoE (zK x24) s fun x32 e33 s =>
lgE qNoE (zSt x30 x26 3) s fun _ e35 s =>
lgE qNoE (zK x28) s fun _ e37 s =>
calmE [(3, 5), (3, 7), (5, 7), (3, 13), (5, 13), (7, 13), (8, 13)] [e5, e7, e9, e11, e13, e15, e17, e19, e21, e23, e25, e27, e29, e31, e33, e35, e37] (fun s =>
c (.mk .d0 .d0 .d7 .d1) [x0, x32] s fun x38 s =>
vGen (.un .not (.c x38)) fun x39 =>
cnd x39 (none)
(fa1 x3 0 fun x40 =>
ldA x40 take1 s fun x41 s =>
bEqF x41 (ci 40) fun x42 =>
cnd x42 (lgE qNoE (zK x0) s fun x43 e44 s =>
lgE qNoE (zV (vChk x43)) s fun x45 e46 s =>
lgE qNoE (zV (fa1 x45 1)) s fun x47 e48 s =>
lgE (qLdE x47 1) (ldA x47 take1) s fun x49 e50 s =>
lgE qNoE (zK x32) s fun x51 e52 s =>
lgE qNoE (zV (fa1 x3 3)) s fun x53 e54 s =>
lgE (qLdE x53 1) (ldA x53 take1) s fun x55 e56 s =>
lgE qNoE (c (.mk .d0 .d0 .d3 .d4) [x49, x51, x55]) s fun x57 e58 s =>
lgE qNoE (zK x57) s fun x59 e60 s =>
lgE qNoE (zV (vExt x59 0)) s fun x61 e62 s =>
lgE qNoE (zV (vExt x59 1)) s fun x63 e64 s =>
lgE qNoE (boxD false [.bool false, .int .i32 0]) s fun x65 e66 s =>
lgE qNoE (zSt x65 x61 2) s fun _ e68 s =>
lgE qNoE (zK x63) s fun _ e70 s =>
calmE [(3, 6), (3, 11), (6, 11), (7, 11)] [e44, e46, e48, e50, e52, e54, e56, e58, e60, e62, e64, e66, e68, e70] (fun s =>
ldA x65 (takeN 2) s fun x71 s =>
zBsl [.bool false, .int .i32 0] 2 1 (eCons 0 2 x71 eNil) s fun x72 s =>
c (.mk .d0 .d3 .d5 .d2) [x1, (ci 0), x72] s fun _ s =>
K (.tup []) s) s)
(lgE qNoE (zK x0) s fun x74 e75 s =>
lgE qNoE (zV (vChk x74)) s fun x76 e77 s =>
lgE qNoE (zV (fa1 x76 1)) s fun x78 e79 s =>
lgE (qLdE x78 1) (ldA x78 take1) s fun x80 e81 s =>
lgE qNoE (zK x32) s fun x82 e83 s =>
lgE qNoE (zV (fa1 x3 3)) s fun x84 e85 s =>
lgE (qLdE x84 1) (ldA x84 take1) s fun x86 e87 s =>
lgE qNoE (zK x1) s fun x88 e89 s =>
lgE qNoE (c (.mk .d0 .d3 .d5 .d1) [x88, (ci 1)]) s fun x90 e91 s =>
lgE qNoE (zV (vIaS x90 (ci 0) 2)) s fun x92 e93 s =>
lgE (qLdE x92 2) (ldA x92 (takeN 2)) s fun x94 e95 s =>
lgE qNoE (c (.mk .d0 .d3 .d4 .d6) [x80, x82, x86, x94]) s fun _ e97 s =>
calmE [(3, 6), (3, 8), (6, 8), (3, 10), (6, 10)] [e75, e77, e79, e81, e83, e85, e87, e89, e91, e93, e95, e97] (fun s =>
c (.mk .d0 .d3 .d5 .d2) [x1, (ci 1), (.nil .sl)] s fun _ s =>
K (.tup []) s) s))) s)
def F125 : F2 := .fn H125 true
theorem fe125 : feE Tryz.prog ann 125 3 [.cl, .j []] = some F125 := by kernel_rfl
/- (*daguerre/lazy.Machine).calls -/
def H126 : F2C := fun c _ v s K =>
pop v fun x0 v =>
pop v fun x1 v =>
pop v fun x2 v =>
endE v (
zTbox x2 s fun x3 s =>
lgE qNoE (zK x0) s fun x4 e5 s =>
lgE qNoE (zV (vChk x4)) s fun x6 e7 s =>
lgE qNoE (zV (fa1 x6 0)) s fun x8 e9 s =>
lgE (qLdE x8 1) (ldA x8 take1) s fun x10 e11 s =>
lgE qNoE (zV (fa1 x3 2)) s fun x12 e13 s =>
lgE (qLdE x12 1) (ldA x12 take1) s fun x14 e15 s =>
lgE qNoE (zV (fa1 x3 3)) s fun x16 e17 s =>
lgE (qLdE x16 1) (ldA x16 take1) s fun x18 e19 s =>
lgE qNoE (c (.mk .d0 .d0 .d4 .d6) [x10, x14, x18]) s fun x20 e21 s =>
lgE qNoE (zK x20) s fun x22 e23 s =>
lgE qNoE (zV (vExt x22 0)) s fun x24 e25 s =>
lgE qNoE (zV (vExt x22 1)) s fun x26 e27 s =>
lgE qNoE (zV (vExt x22 2)) s fun x28 e29 s =>
lgE qNoE (boxD false [.str [], .nil .sl, .str [], .bool false, .bool false, .int .i64 0, .int .i64 0, .nil .sl, .nil .sl, .nil .sl]) s fun x30 e31 s =>
lgE qNoE (zK x24) s fun x32 e33 s =>
lgE qNoE (zSt x30 x26 10) s fun _ e35 s =>
lgE qNoE (zK x28) s fun _ e37 s =>
calmE [(3, 5), (3, 7), (5, 7), (3, 13), (5, 13), (7, 13), (8, 13)] [e5, e7, e9, e11, e13, e15, e17, e19, e21, e23, e25, e27, e29, e31, e33, e35, e37] (fun s =>
c (.mk .d0 .d0 .d7 .d1) [x0, x32] s fun x38 s =>
cnd x38 (ldA x30 (takeN 10) s fun x39 s =>
c (.mk .d0 .d3 .d6 .d2) [x0, x1, x32, x39] s fun _ s =>
K (.tup []) s)
(none)) s)
def F126 : F2 := .fn H126 true
theorem fe126 : feE Tryz.prog ann 126 3 [.cr] = some F126 := by kernel_rfl
/- (*daguerre/lazy.Machine).ret -/
def H130 : F2C := fun c _ v s K =>
pop v fun x0 v =>
pop v fun x1 v =>
pop v fun x2 v =>
endE v (
zTbox x2 s fun x3 s =>
fa1 x3 0 fun x4 =>
ldA x4 take1 s fun x5 s =>
bEqF x5 (ci 46) fun x6 =>
cnd x6 (c (.mk .d0 .d0 .d7 .d2) [x0, x1, (.nil .sl)] s fun _ s =>
K (.tup []) s)
(none))
def F130 : F2 := .fn H130 true
theorem fe130 : feE Tryz.prog ann 130 3 [.cr] = some F130 := by kernel_rfl
/- (*daguerre/lazy.Machine).hears -/
def H137 : F2C := fun c _ v s K =>
pop v fun x0 v =>
pop v fun x1 v =>
pop v fun x2 v =>
endE v (
zTbox x2 s fun _ s =>
vChk x0 fun x4 =>
fa1 x4 3 fun x5 =>
ldA x5 take1 s fun x6 s =>
vLenS x6 fun x7 =>
bGt x7 (ci 0) fun x8 =>
cnd x8 (lgE qNoE (zK x0) s fun x9 e10 s =>
lgE qNoE (zK x0) s fun x11 e12 s =>
lgE qNoE (zV (vChk x11)) s fun x13 e14 s =>
lgE qNoE (zV (fa1 x13 3)) s fun x15 e16 s =>
lgE (qLdE x15 1) (ldA x15 take1) s fun x17 e18 s =>
lgE qNoE (zV (vIaS x17 (ci 0) 1)) s fun x19 e20 s =>
lgE (qLdE x19 1) (ldA x19 take1) s fun x21 e22 s =>
lgE qNoE (zK x0) s fun x23 e24 s =>
lgE qNoE (zV (vChk x23)) s fun x25 e26 s =>
lgE qNoE (zV (fa1 x25 3)) s fun x27 e28 s =>
lgE (qLdE x27 1) (ldA x27 take1) s fun x29 e30 s =>
lgE qNoE (zV (vSlt x29 (eX (ci 1)) eN 1)) s fun x31 e32 s =>
lgE qNoE (zK x21) s fun x33 e34 s =>
lgE qNoE (zV (vChk x9)) s fun x35 e36 s =>
lgE qNoE (zV (fa1 x35 3)) s fun x37 e38 s =>
lgE qNoE (zSt x37 x31 1) s fun _ e40 s =>
calmE [(4, 10), (6, 10), (4, 11), (6, 11)] [e10, e12, e14, e16, e18, e20, e22, e24, e26, e28, e30, e32, e34, e36, e38, e40] (fun s =>
c (.mk .d0 .d3 .d5 .d3) [x33] s fun x41 s =>
zBsl [.bool false, .int .i32 0] 2 1 (eCons 0 2 x41 eNil) s fun x42 s =>
c (.mk .d0 .d3 .d5 .d2) [x1, (ci 0), x42] s fun _ s =>
K (.tup []) s) s)
(none))
def F137 : F2 := .fn H137 true
theorem fe137 : feE Tryz.prog ann 137 3 [.cr] = some F137 := by kernel_rfl
/- (*daguerre/lazy.Machine).tells -/
def H138 : F2C := fun c _ v s K =>
pop v fun x0 v =>
pop v fun x1 v =>
pop v fun x2 v =>
endE v (
zTbox x2 s fun _ s =>
lgE qNoE (zK x0) s fun x4 e5 s =>
lgE qNoE (zK x0) s fun x6 e7 s =>
lgE qNoE (zV (vChk x6)) s fun x8 e9 s =>
lgE qNoE (zV (fa1 x8 8)) s fun x10 e11 s =>
lgE qNoE (zV (fa1 x10 0)) s fun x12 e13 s =>
lgE (qLdE x12 1) (ldA x12 take1) s fun x14 e15 s =>
lgE qNoE (zK x1) s fun x16 e17 s =>
lgE qNoE (c (.mk .d0 .d3 .d5 .d1) [x16, (ci 1)]) s fun x18 e19 s =>
lgE qNoE (zV (vIaS x18 (ci 0) 2)) s fun x20 e21 s =>
lgE qNoE (zV (fa1 x20 1)) s fun x22 e23 s =>
lgE (qLdE x22 1) (ldA x22 take1) s fun x24 e25 s =>
lgE qNoE (zBsl [.int .i32 0] 1 1 (eCons 0 1 x24 eNil)) s fun x26 e27 s =>
lgE qNoE (appB 1 4 x14 x26) s fun x28 e29 s =>
lgE qNoE (zV (vChk x4)) s fun x30 e31 s =>
lgE qNoE (zV (fa1 x30 8)) s fun x32 e33 s =>
lgE qNoE (zV (fa1 x32 0)) s fun x34 e35 s =>
lgE qNoE (zSt x34 x28 1) s fun _ e37 s =>
calmE [(5, 7), (5, 10), (5, 11)] [e5, e7, e9, e11, e13, e15, e17, e19, e21, e23, e25, e27, e29, e31, e33, e35, e37] (fun s =>
c (.mk .d0 .d3 .d5 .d2) [x1, (ci 1), (.nil .sl)] s fun _ s =>
K (.tup []) s) s)
def F138 : F2 := .fn H138 true
theorem fe138 : feE Tryz.prog ann 138 3 [] = some F138 := by kernel_rfl
/- (*daguerre/lazy.Machine).exit -/
def H139 : F2C := fun c _ v s K =>
pop v fun x0 v =>
pop v fun x1 v =>
pop v fun x2 v =>
endE v (
zTbox x2 s fun _ s =>
c (.mk .d0 .d3 .d5 .d1) [x1, (ci 1)] s fun x4 s =>
vIaS x4 (ci 0) 2 fun x5 =>
fa1 x5 1 fun x6 =>
ldA x6 take1 s fun x7 s =>
vChk x0 fun x8 =>
fa1 x8 8 fun x9 =>
fa1 x9 2 fun x10 =>
zSt x10 x7 1 s fun _ s =>
c (.mk .d0 .d2 .d2 .d1) [x0, (ci 1)] s fun _ s =>
K (.tup []) s)
def F139 : F2 := .fn H139 true
theorem fe139 : feE Tryz.prog ann 139 3 [] = some F139 := by kernel_rfl
/- (*daguerre/hier.Hier).has -/
def H85 : F2C := fun _ _ v s K =>
pop v fun x0 v =>
pop v fun x1 v =>
endE v (
vNil false .ptr x0 fun x2 =>
cnd x2 (none)
(vChk x0 fun x3 =>
fa1 x3 1 fun x4 =>
ldA x4 take1 s fun x5 s =>
zLku .str (.int .i64 0) x5 x1 true s fun x6 s =>
vExt x6 0 fun _ =>
vExt x6 1 fun x8 =>
K x8 s))
def F85 : F2 := .fn H85 true
theorem fe85 : feE Tryz.prog ann 85 2 [.cl] = some F85 := by kernel_rfl
/- (*daguerre/hier.Hier).get -/
def H140 : F2C := fun _ _ v s K =>
pop v fun x0 v =>
pop v fun x1 v =>
endE v (
boxD false [.str [], .str [], .bool false, .nil .sl, .nil .sl, .nil .sl] s fun x2 s =>
lgE qNoE (zK x0) s fun x3 e4 s =>
lgE qNoE (zV (vChk x3)) s fun x5 e6 s =>
lgE qNoE (zV (fa1 x5 0)) s fun x7 e8 s =>
lgE (qLdE x7 1) (ldA x7 take1) s fun x9 e10 s =>
lgE qNoE (zK x0) s fun x11 e12 s =>
lgE qNoE (zV (vChk x11)) s fun x13 e14 s =>
lgE qNoE (zV (fa1 x13 1)) s fun x15 e16 s =>
lgE (qLdE x15 1) (ldA x15 take1) s fun x17 e18 s =>
lgE qNoE (zK x1) s fun x19 e20 s =>
lgE qNoE (zLku .str (.int .i64 0) x17 x19 false) s fun x21 e22 s =>
lgE qNoE (zV (vIaS x9 x21 6)) s fun x23 e24 s =>
lgE (qLdE x23 6) (ldA x23 (takeN 6)) s fun x25 e26 s =>
lgE qNoE (zSt x2 x25 6) s fun _ e28 s =>
calmE [(3, 7), (3, 9)] [e4, e6, e8, e10, e12, e14, e16, e18, e20, e22, e24, e26, e28] (fun s =>
ldA x2 (takeN 6) s K) s)
def F140 : F2 := .fn H140 true
theorem fe140 : feE Tryz.prog ann 140 2 [] = some F140 := by kernel_rfl
/- (*daguerre/state.State).Next -/
def H141 : F2C := fun c k v s K =>
pop v fun x0 v =>
pop v fun x1 v =>
endE v (
vNil false .ptr x0 fun x2 =>
cnd x2 (none)
(vChk x0 fun x3 =>
fa1 x3 0 fun x4 =>
ldA x4 take1 s fun x5 s =>
c (.mk .d0 .d1 .d3 .d4) [x5, x1] s fun x6 s =>
vLenS x6 fun x7 =>
bSub x7 (ci 1) fun x8 =>
jn (fun _ s =>
K (.tup [(.str []), (ci 2)]) s) fun K9 =>
loopE k (fun K10 v s =>
pop v fun x11 _ =>
bGe x11 (ci 0) fun x12 =>
cnd x12 (jn (fun _ s =>
bSub x11 (ci 1) fun x14 =>
K10 [x14] s) fun K13 =>
lgE qNoE (zK x0) s fun x15 e16 s =>
lgE qNoE (zV (vChk x15)) s fun x17 e18 s =>
lgE qNoE (zV (fa1 x17 1)) s fun x19 e20 s =>
lgE (qLdE x19 1) (ldA x19 take1) s fun x21 e22 s =>
lgE qNoE (zK x6) s fun x23 e24 s =>
lgE qNoE (zK x11) s fun x25 e26 s =>
lgE qNoE (zV (vIaS x23 x25 1)) s fun x27 e28 s =>
lgE (qLdE x27 1) (ldA x27 take1) s fun x29 e30 s =>
lgE qNoE (zLku .str (.int .i64 0) x21 x29 false) s fun x31 e32 s =>
lgE qNoE (zK x31) s fun x33 e34 s =>
calmE [(3, 7)] [e16, e18, e20, e22, e24, e26, e28, e30, e32, e34] (fun s =>
bEqF x33 (ci 0) fun x35 =>
gK x35 false x33 fun x36 =>
gV x35 false (bEqF x36 (ci 3)) fun x37 =>
vPick x35 ct x37 fun x38 =>
cnd x38 (vIaS x6 x11 1 fun x39 =>
ldA x39 take1 s fun x40 s =>
K (.tup [x40, x33]) s)
(K13 [] s)) s)
(K9 [] s)) [x8] s))
def F141 : F2 := .fn H141 true
theorem fe141 : feE Tryz.prog ann 141 2 [.cl, .j [], .j [7], .j [], .j [], .j []] = some F141 := by kernel_rfl
/- (*daguerre/state.State).Set -/
def H142 : F2C := fun _ _ v s K =>
pop v fun x0 v =>
pop v fun x1 v =>
pop v fun x2 v =>
endE v (
vNil false .ptr x0 fun x3 =>
gK x3 false x2 fun x4 =>
gV x3 false (bLt x4 (ci 0)) fun x5 =>
vPick x3 ct x5 fun x6 =>
gK x6 false x2 fun x7 =>
gV x6 false (bGt x7 (ci 3)) fun x8 =>
vPick x6 ct x8 fun x9 =>
cnd x9 (none)
(vChk x0 fun x10 =>
fa1 x10 1 fun x11 =>
ldA x11 take1 s fun x12 s =>
zLku .str (.int .i64 0) x12 x1 true s fun x13 s =>
vExt x13 0 fun _ =>
vExt x13 1 fun x15 =>
cnd x15 (vChk x0 fun x16 =>
fa1 x16 1 fun x17 =>
ldA x17 take1 s fun x18 s =>
zMup .str x18 x1 x2 s fun _ s =>
K (.tup []) s)
(none)))
def F142 : F2 := .fn H142 true
theorem fe142 : feE Tryz.prog ann 142 3 [.cl, .cr] = some F142 := by kernel_rfl
/- (*daguerre/lazy.Machine).lay -/
def H144 : F2C := fun c _ v s K =>
pop v fun x0 v =>
pop v fun x1 v =>
pop v fun x2 v =>
pop v fun x3 v =>
pop v fun x4 v =>
endE v (
zTbox x2 s fun x5 s =>
vChk x0 fun x6 =>
fa1 x6 4 fun x7 =>
ldA x7 take1 s fun x8 s =>
vLenS x8 fun x9 =>
bGe x9 (ci 64) fun x10 =>
cnd x10 (c (.mk .d0 .d2 .d2 .d1) [x0, (ci 5)] s fun _ s =>
K cf s)
(lgE qNoE (zK x0) s fun x12 e13 s =>
lgE qNoE (zK x0) s fun x14 e15 s =>
lgE qNoE (zV (vChk x14)) s fun x16 e17 s =>
lgE qNoE (zV (fa1 x16 4)) s fun x18 e19 s =>
lgE (qLdE x18 1) (ldA x18 take1) s fun x20 e21 s =>
lgE qNoE (zV (fa1 x5 5)) s fun x22 e23 s =>
lgE (qLdE x22 1) (ldA x22 take1) s fun x24 e25 s =>
lgE qNoE (zV (fa1 x5 6)) s fun x26 e27 s =>
lgE (qLdE x26 1) (ldA x26 take1) s fun x28 e29 s =>
lgE qNoE (zK x4) s fun x30 e31 s =>
lgE qNoE (c (.mk .d0 .d0 .d6 .d6) [(ci 0), x24, x28, x30]) s fun x32 e33 s =>
lgE qNoE (zK x1) s fun x34 e35 s =>
lgE (qLdE x5 10) (ldA x5 (takeN 10)) s fun x36 e37 s =>
lgE qNoE (zK x3) s fun x38 e39 s =>
lgE qNoE (zV (vBld [.nil .ptr, .str [], .str [], .nil .sl, .str [], .bool false, .bool false, .int .i64 0, .int .i64 0, .nil .sl, .nil .sl, .nil .sl, .bool false, .bool false, .bool false] (eCons 0 1 x32 (eCons 1 1 x34 (eCons 2 10 x36 (eCons 12 1 x38 eNil)))))) s fun x40 e41 s =>
lgE qNoE (zBox true x40) s fun x42 e43 s =>
lgE qNoE (zBsl [.nil .ptr] 1 1 (eCons 0 1 x42 eNil)) s fun x44 e45 s =>
lgE qNoE (appB 1 8 x20 x44) s fun x46 e47 s =>
lgE qNoE (zV (vChk x12)) s fun x48 e49 s =>
lgE qNoE (zV (fa1 x48 4)) s fun x50 e51 s =>
lgE qNoE (zSt x50 x46 1) s fun _ e53 s =>
calmE [(4, 6), (4, 8), (6, 8), (4, 10), (4, 12), (6, 12), (8, 12), (10, 12), (4, 14), (4, 15), (4, 16)] [e13, e15, e17, e19, e21, e23, e25, e27, e29, e31, e33, e35, e37, e39, e41, e43, e45, e47, e49, e51, e53] (fun s =>
K ct s) s))
def F144 : F2 := .fn H144 true
theorem fe144 : feE Tryz.prog ann 144 5 [.j []] = some F144 := by kernel_rfl
/- (*daguerre/lazy.Machine).ends -/
def H145 : F2C := fun _ _ v s K =>
pop v fun x0 v =>
pop v fun x1 v =>
endE v (
vChk x0 fun x2 =>
fa1 x2 8 fun x3 =>
fa1 x3 1 fun x4 =>
zSt x4 x1 1 s fun _ s =>
K (.tup []) s)
def F145 : F2 := .fn H145 true
theorem fe145 : feE Tryz.prog ann 145 2 [] = some F145 := by kernel_rfl
/- (*daguerre/frame.Frame).Push -/
def H146 : F2C := fun _ _ v s K =>
pop v fun x0 v =>
pop v fun x1 v =>
endE v (
lgE qNoE (zK x0) s fun x2 e3 s =>
lgE qNoE (zV (vNil false .ptr x2)) s fun x4 e5 s =>
lgE qNoE (zK x4) s fun x6 e7 s =>
lgE (qGE x6 false qNoE) (zG x6 false (zK x1)) s fun x8 e9 s =>
lgE (qGE x6 false qNoE) (zG x6 false (zV (vLenS x8))) s fun x10 e11 s =>
lgE (qGE x6 false qNoE) (zG x6 false (zK x0)) s fun x12 e13 s =>
lgE (qGE x6 false qNoE) (zG x6 false (zV (vChk x12))) s fun x14 e15 s =>
lgE (qGE x6 false qNoE) (zG x6 false (zV (fa1 x14 2))) s fun x16 e17 s =>
lgE (qGE x6 false (qLdE x16 1)) (zG x6 false (ldA x16 take1)) s fun x18 e19 s =>
lgE (qGE x6 false qNoE) (zG x6 false (zK x0)) s fun x20 e21 s =>
lgE (qGE x6 false qNoE) (zG x6 false (zV (vChk x20))) s fun x22 e23 s =>
lgE (qGE x6 false qNoE) (zG x6 false (zV (fa1 x22 4))) s fun x24 e25 s =>
lgE (qGE x6 false (qLdE x24 1)) (zG x6 false (ldA x24 take1)) s fun x26 e27 s =>
lgE (qGE x6 false qNoE) (zG x6 false (zV (vLenS x26))) s fun x28 e29 s =>
lgE (qGE x6 false qNoE) (zG x6 false (zV (bSub x18 x28))) s fun x30 e31 s =>
lgE (qGE x6 false qNoE) (zG x6 false (zV (bGt x10 x30))) s fun x32 e33 s =>
lgE qNoE (zV (vPick x6 ct x32)) s fun x34 e35 s =>
calmE [(4, 8), (4, 12), (8, 12), (4, 13), (8, 13)] [e3, e5, e7, e9, e11, e13, e15, e17, e19, e21, e23, e25, e27, e29, e31, e33, e35] (fun s =>
cnd x34 (K cf s)
(vChk x0 fun x36 =>
fa1 x36 4 fun x37 =>
ldA x37 take1 s fun x38 s =>
appB 2 8 x38 x1 s fun x39 s =>
vChk x0 fun x40 =>
fa1 x40 4 fun x41 =>
zSt x41 x39 1 s fun _ s =>
K ct s)) s)
def F146 : F2 := .fn H146 true
theorem fe146 : feE Tryz.prog ann 146 2 [.j []] = some F146 := by kernel_rfl
/- (*daguerre/frame.Frame).Goto -/
def H147 : F2C := fun _ _ v s K =>
pop v fun x0 v =>
pop v fun x1 v =>
endE v (
vNil true .ptr x0 fun x2 =>
cnd x2 (vChk x0 fun x3 =>
fa1 x3 1 fun x4 =>
zSt x4 x1 1 s fun _ s =>
K (.tup []) s)
(none))
def F147 : F2 := .fn H147 true
theorem fe147 : feE Tryz.prog ann 147 2 [.cr] = some F147 := by kernel_rfl
/- (*daguerre/state.State).Refs -/
def H152 : F2C := fun c k v s K =>
pop v fun x0 v =>
endE v (
c (.mk .d0 .d3 .d7 .d4) [x0] s fun x1 s =>
vLenS x1 fun x2 =>
jn (fun v s =>
pop v fun x4 _ =>
K x4 s) fun K3 =>
loopE k (fun _ v s =>
pop v fun x6 v =>
pop v fun x7 _ =>
bLt x6 x2 fun x8 =>
cnd x8 (none)
(K3 [x7] s)) [(ci 0), (.nil .sl)] s)
def F152 : F2 := .fn H152 true
theorem fe152 : feE Tryz.prog ann 152 1 [.j [3], .j [9, 3], .cl, .j [3]] = some F152 := by kernel_rfl
/- (*daguerre/frame.Frame).Refs -/
def H153 : F2C := fun c k v s K =>
pop v fun x0 v =>
endE v (
c (.mk .d0 .d3 .d7 .d5) [x0] s fun x1 s =>
vLenS x1 fun x2 =>
jn (fun v s =>
pop v fun x4 _ =>
K x4 s) fun K3 =>
loopE k (fun K5 v s =>
pop v fun x6 v =>
pop v fun x7 _ =>
bLt x6 x2 fun x8 =>
cnd x8 (jn (fun v s =>
pop v fun x10 _ =>
bAdd x6 (ci 1) fun x11 =>
K5 [x11, x10] s) fun K9 =>
vIaS x1 x6 1 fun x12 =>
ldA x12 take1 s fun x13 s =>
vChk x13 fun x14 =>
fa1 x14 1 fun x15 =>
ldA x15 take1 s fun x16 s =>
vCv .i64 x16 fun x17 =>
bSub x17 (ci 1) fun x18 =>
zBsl [.int .i64 0] 1 1 (eCons 0 1 x18 eNil) s fun x19 s =>
appB 1 8 x7 x19 s fun x20 s =>
K9 [x20] s)
(K3 [x7] s)) [(ci 0), (.nil .sl)] s)
def F153 : F2 := .fn H153 true
theorem fe153 : feE Tryz.prog ann 153 1 [.j [3], .j [9, 3], .j [], .j [3]] = some F153 := by kernel_rfl
/- daguerre/collect.Copy -/
def H148 : F2C := fun c k v s K =>
pop v fun x0 v =>
pop v fun x1 v =>
pop v fun x2 v =>
endE v (
vNil false .ptr x0 fun x3 =>
cnd x3 (none)
(c (.mk .d0 .d1 .d0 .d3) [x0] s fun x4 s =>
c (.mk .d0 .d0 .d6 .d2) [x4] s fun x5 s =>
zMkm s fun x6 s =>
vBld [.nil .ptr, .nil .ptr, .nil .map, .nil .sl] (eCons 0 1 x0 (eCons 1 1 x5 (eCons 2 1 x6 eNil))) fun x7 =>
zBox false x7 s fun x8 s =>
vLenS x2 fun x9 =>
jn (fun v s =>
pop v fun x11 _ =>
jn (fun _ s =>
vChk x8 fun x13 =>
fa1 x13 1 fun x14 =>
ldA x14 take1 s fun x15 s =>
K (.tup [x15, x11]) s) fun K12 =>
loopE k (fun K16 v s =>
pop v fun x17 _ =>
vChk x8 fun x18 =>
fa1 x18 3 fun x19 =>
ldA x19 take1 s fun x20 s =>
vLenS x20 fun x21 =>
bLt x17 x21 fun x22 =>
cnd x22 (jn (fun _ s =>
bAdd x17 (ci 1) fun x24 =>
K16 [x24] s) fun K23 =>
vChk x8 fun x25 =>
fa1 x25 3 fun x26 =>
ldA x26 take1 s fun x27 s =>
vIaS x27 x17 1 fun x28 =>
ldA x28 take1 s fun x29 s =>
c (.mk .d0 .d3 .d6 .d6) [x0, x29] s fun x30 s =>
jn (fun _ s =>
K23 [] s) fun K31 =>
loopE k (fun K32 v s =>
pop v fun x33 _ =>
bLt x33 x30 fun x34 =>
cnd x34 (jn (fun _ s =>
bAdd x33 (ci 1) fun x36 =>
K32 [x36] s) fun K35 =>
c (.mk .d0 .d3 .d4 .d5) [x0, x29, x33] s fun x37 s =>
vNil true .fn x1 fun x38 =>
gK x38 true x1 fun x39 =>
gK x38 true x0 fun x40 =>
gK x38 true x29 fun x41 =>
gH x38 true (c (.mk .d0 .d3 .d4 .d4) [x40, x41]) s fun x42 s =>
gK x38 true x33 fun x43 =>
gH x38 true (zCallV c x39 [x42, x43]) s fun x44 s =>
vPick x38 x44 cf fun x45 =>
cnd x45 (vCv .i64 x37 fun x46 =>
bSub x46 (ci 1) fun x47 =>
c (.mk .d0 .d3 .d7 .d2) [x8, x47] s fun x48 s =>
bAdd x48 (ci 1) fun x49 =>
vCv .i32 x49 fun x50 =>
lgE qNoE (zK x8) s fun x51 e52 s =>
lgE qNoE (zV (vChk x51)) s fun x53 e54 s =>
lgE qNoE (zV (fa1 x53 1)) s fun x55 e56 s =>
lgE (qLdE x55 1) (ldA x55 take1) s fun x57 e58 s =>
lgE qNoE (zK x8) s fun x59 e60 s =>
lgE qNoE (zV (vChk x59)) s fun x61 e62 s =>
lgE qNoE (zV (fa1 x61 2)) s fun x63 e64 s =>
lgE (qLdE x63 1) (ldA x63 take1) s fun x65 e66 s =>
lgE qNoE (zK x29) s fun x67 e68 s =>
lgE qNoE (zLku (.int .i64) (.int .i64 0) x65 x67 false) s fun x69 e70 s =>
lgE qNoE (zK x33) s fun x71 e72 s =>
lgE qNoE (zK x50) s fun x73 e74 s =>
lgE qNoE (c (.mk .d0 .d3 .d4 .d1) [x57, x69, x71, x73]) s fun _ e76 s =>
calmE [(3, 7), (3, 9)] [e52, e54, e56, e58, e60, e62, e64, e66, e68, e70, e72, e74, e76] (fun s =>
K35 [] s) s)
(none))
(K31 [] s)) [(ci 0)] s)
(K12 [] s)) [(ci 0)] s) fun K10 =>
loopE k (fun K77 v s =>
pop v fun x78 v =>
pop v fun x79 _ =>
bLt x78 x9 fun x80 =>
cnd x80 (jn (fun v s =>
pop v fun x82 _ =>
bAdd x78 (ci 1) fun x83 =>
K77 [x83, x82] s) fun K81 =>
vIaS x2 x78 1 fun x84 =>
ldA x84 take1 s fun x85 s =>
c (.mk .d0 .d3 .d7 .d2) [x8, x85] s fun x86 s =>
zBsl [.int .i64 0] 1 1 (eCons 0 1 x86 eNil) s fun x87 s =>
appB 1 8 x79 x87 s fun x88 s =>
K81 [x88] s)
(K10 [x79] s)) [(ci 0), (.nil .sl)] s))
def F148 : F2 := .fn H148 true
theorem fe148 : feE Tryz.prog ann 148 3 [.cl, .j [9], .j [27, 9], .j [], .j [9], .j [], .j [12], .j [], .j [], .j [], .j [57], .j [], .j [], .cr] = some F148 := by kernel_rfl
/- (*daguerre/heap.Heap).Used -/
def H149 : F2C := fun _ _ v s K =>
pop v fun x0 v =>
endE v (
vNil false .ptr x0 fun x1 =>
cnd x1 (none)
(vChk x0 fun x2 =>
fa1 x2 1 fun x3 =>
ldA x3 take1 s fun x4 s =>
vLenS x4 fun x5 =>
K x5 s))
def F149 : F2 := .fn H149 true
theorem fe149 : feE Tryz.prog ann 149 1 [.cl] = some F149 := by kernel_rfl
/- maps.Clone[map[string]int,string,int] -/
def H154 : F2C := fun c _ v s K =>
pop v fun x0 v =>
endE v (
vNil false .map x0 fun x1 =>
cnd x1 (none)
(c (.mk .d0 .d3 .d7 .d6) [(.ifc 130 x0)] s fun x2 s =>
vTas 130 false x2 fun x3 =>
K x3 s))
def F154 : F2 := .fn H154 true
theorem fe154 : feE Tryz.prog ann 154 1 [.cl] = some F154 := by kernel_rfl
/- maps.Clone[map[string]daguerre/frame.Val,string,daguerre/frame.Val] -/
def H155 : F2C := fun c _ v s K =>
pop v fun x0 v =>
endE v (
vNil false .map x0 fun x1 =>
cnd x1 (none)
(c (.mk .d0 .d3 .d7 .d6) [(.ifc 131 x0)] s fun x2 s =>
vTas 131 false x2 fun x3 =>
K x3 s))
def F155 : F2 := .fn H155 true
theorem fe155 : feE Tryz.prog ann 155 1 [.cl] = some F155 := by kernel_rfl
/- daguerre/heap.may -/
def H156 : F2C := fun _ _ v s K =>
pop v fun x0 v =>
pop v fun x1 v =>
endE v (
bGe x0 (ci 0) fun x2 =>
gK x2 true x0 fun x3 =>
gV x2 true (bLe x3 (ci 10000)) fun x4 =>
vPick x2 x4 cf fun x5 =>
gK x5 true x1 fun x6 =>
gV x5 true (bGe x6 (ci 0)) fun x7 =>
vPick x5 x7 cf fun x8 =>
gK x8 true x1 fun x9 =>
gV x8 true (bLe x9 (ci 1000)) fun x10 =>
vPick x8 x10 cf fun x11 =>
K x11 s)
def F156 : F2 := .fn H156 true
theorem fe156 : feE Tryz.prog ann 156 2 [] = some F156 := by kernel_rfl
/- daguerre/daguerrelaw20.begun -/
def H158 : F2C := fun c _ v s K =>
endE v (
c (.mk .d0 .d1 .d0 .d5) [] s fun x0 s =>
vBld [.str [], .str []] (eCons 0 1 (.str [66, 98]) (eCons 1 1 (.str [109, 97, 105, 110]) eNil)) fun x1 =>
c (.mk .d0 .d0 .d1 .d0) [x0, x1] s fun x2 s =>
vExt x2 0 fun x3 =>
vExt x2 1 fun x4 =>
bEqT x4 (ci 0) fun x5 =>
cnd x5 (none)
(c (.mk .d0 .d1 .d1 .d0) [x3] s fun x6 s =>
c (.mk .d0 .d3 .d7 .d7) [x3, (.str [65, 97])] s fun x7 s =>
vExt x7 0 fun x8 =>
vExt x7 1 fun x9 =>
vExt x7 2 fun x10 =>
c (.mk .d0 .d3 .d7 .d7) [x3, (.str [66, 98])] s fun x11 s =>
vExt x11 0 fun x12 =>
vExt x11 1 fun _ =>
vExt x11 2 fun _ =>
c (.mk .d0 .d3 .d7 .d7) [x3, (.str [70, 97, 99, 101])] s fun x15 s =>
vExt x15 0 fun _ =>
vExt x15 1 fun x17 =>
vExt x15 2 fun _ =>
c (.mk .d0 .d4 .d0 .d0) [] s fun x19 s =>
gK x19 true x6 fun x20 =>
gV x19 true (vLenS x20) fun x21 =>
gV x19 true (bEqF x21 (ci 12)) fun x22 =>
vPick x19 x22 cf fun x23 =>
gK x23 true x6 fun x24 =>
gV x23 true (vIaS x24 (ci 10) 1) fun x25 =>
gH x23 true (ldA x25 take1) s fun x26 s =>
gV x23 true (bEqF x26 (.str [70, 97, 99, 101])) fun x27 =>
vPick x23 x27 cf fun x28 =>
gK x28 true x6 fun x29 =>
gV x28 true (vIaS x29 (ci 11) 1) fun x30 =>
gH x28 true (ldA x30 take1) s fun x31 s =>
gV x28 true (bEqF x31 (.str [65, 97])) fun x32 =>
vPick x28 x32 cf fun x33 =>
gK x33 true x8 fun x34 =>
gV x33 true (vGen (.un .not (.c x34))) fun x35 =>
vPick x33 x35 cf fun x36 =>
gK x36 true x9 fun x37 =>
gH x36 true (zBsl [.str []] 1 1 (eCons 0 1 (.str [65, 97]) eNil)) s fun x38 s =>
gH x36 true (c (.mk .d0 .d0 .d1 .d1) [x37, x38]) s fun x39 s =>
vPick x36 x39 cf fun x40 =>
gK x40 true x10 fun x41 =>
gH x40 true (zBsl [.str [], .str []] 1 2 (eCons 0 1 (.str [79, 98, 106, 101, 99, 116]) (eCons 1 1 (.str [65, 97]) eNil))) s fun x42 s =>
gH x40 true (c (.mk .d0 .d0 .d1 .d1) [x41, x42]) s fun x43 s =>
vPick x40 x43 cf fun x44 =>
gK x44 true x12 fun x45 =>
vPick x44 x45 cf fun x46 =>
gK x46 true x17 fun x47 =>
gV x46 true (vLenS x47) fun x48 =>
gV x46 true (bEqF x48 (ci 0)) fun x49 =>
vPick x46 x49 cf fun x50 =>
K x50 s))
def F158 : F2 := .pur H158 true mNo
theorem fe158 : feE Tryz.prog ann 158 0 [.cl] = some F158 := by kernel_rfl
def M158 (k : Nat) : F2 := .pur H158 true (Bool.rec mNo (mVal (.bool true)) (Nat.ble 18 k))
/- daguerre/effect.movable -/
def H159 : F2C := fun c _ v s K =>
pop v fun x0 v =>
pop v fun x1 v =>
pop v fun x2 v =>
endE v (
zBox false x1 s fun x3 s =>
zBox false x2 s fun x4 s =>
ldA x3 take1 s fun x5 s =>
c (.mk .d0 .d0 .d6 .d7) [x0, x5] s fun x6 s =>
vExt x6 0 fun x7 =>
vExt x6 1 fun _ =>
boxD false [.str [], .str [], .bool false, .nil .sl, .nil .sl, .nil .sl] s fun x9 s =>
zSt x9 x7 6 s fun _ s =>
ldA x4 take1 s fun x11 s =>
fa1 x9 1 fun x12 =>
ldA x12 take1 s fun x13 s =>
c (.mk .d0 .d1 .d1 .d1) [x11, x13] s fun x14 s =>
vGen (.un .not (.c x14)) fun x15 =>
cnd x15 (none)
(ldA x9 (takeN 6) s fun x16 s =>
c (.mk .d0 .d1 .d6 .d0) [x16, (.str [36, 105, 110, 105, 116])] s fun x17 s =>
bLt x17 (ci 0) fun x18 =>
cnd x18 (K ct s)
(ldA x3 take1 s fun x19 s =>
c (.mk .d0 .d3 .d7 .d7) [x0, x19] s fun x20 s =>
vExt x20 0 fun x21 =>
vExt x20 1 fun x22 =>
vExt x20 2 fun x23 =>
vGen (.mkf 257 [] [(.c x3)]) fun x24 =>
c (.mk .d0 .d1 .d2 .d2) [x22, x24] s fun x25 s =>
vGen (.un .not (.c x21)) fun x26 =>
gK x26 true x25 fun x27 =>
gV x26 true (vGen (.un .not (.c x27))) fun x28 =>
vPick x26 x28 cf fun x29 =>
gK x29 true x23 fun x30 =>
gV x29 true (vGen (.mkf 258 [] [(.c x3), (.c x4)])) fun x31 =>
gH x29 true (c (.mk .d0 .d1 .d2 .d2) [x30, x31]) s fun x32 s =>
gV x29 true (vGen (.un .not (.c x32))) fun x33 =>
vPick x29 x33 cf fun x34 =>
K x34 s)))
def F159 : F2 := .fn H159 true
theorem fe159 : feE Tryz.prog ann 159 3 [.cl, .j []] = some F159 := by kernel_rfl
/- daguerre/effect.Movable$1 -/
def H161 : F2C := fun c _ v s K =>
pop v fun x0 v =>
pop v fun x1 v =>
endE v (
ldA x1 take1 s fun x2 s =>
c (.mk .d0 .d1 .d1 .d1) [x2, x0] s fun x3 s =>
vGen (.un .not (.c x3)) fun x4 =>
K x4 s)
def F161 : F2 := .fn H161 true
theorem fe161 : feE Tryz.prog ann 161 2 [] = some F161 := by kernel_rfl
/- slices.DeleteFunc[[]string,string] -/
def H160 : F2C := fun c k v s K =>
pop v fun x0 v =>
pop v fun x1 v =>
endE v (
c (.mk .d0 .d2 .d6 .d4) [x0, x1] s fun x2 s =>
bEqF x2 (.int .i64 (-1)) fun x3 =>
cnd x3 (K x0 s)
(bAdd x2 (ci 1) fun x4 =>
jn (fun v s =>
pop v fun x6 _ =>
vSlt x0 (eX x6) eN 1 fun x7 =>
zClr 1 [.str []] x7 s fun _ s =>
vSlt x0 eN (eX x6) 1 fun x9 =>
K x9 s) fun K5 =>
loopE k (fun K10 v s =>
pop v fun x11 v =>
pop v fun x12 _ =>
vLenS x0 fun x13 =>
bLt x11 x13 fun x14 =>
cnd x14 (jn (fun v s =>
pop v fun x16 _ =>
bAdd x11 (ci 1) fun x17 =>
K10 [x17, x16] s) fun K15 =>
vIaS x0 x11 1 fun x18 =>
ldA x18 take1 s fun x19 s =>
zCallV c x1 [x19] s fun x20 s =>
vGen (.un .not (.c x20)) fun x21 =>
jn (fun v s =>
pop v fun x23 _ =>
K15 [x23] s) fun K22 =>
cnd x21 (vIaS x0 x12 1 fun x24 =>
zSt x24 x19 1 s fun _ s =>
bAdd x12 (ci 1) fun x26 =>
K22 [x26] s)
(K22 [x12] s))
(K5 [x12] s)) [x4, x2] s))
def F160 : F2 := .fn H160 true
theorem fe160 : feE Tryz.prog ann 160 2 [.j [], .j [5], .j [6, 5], .j [], .j [5], .j [5]] = some F160 := by kernel_rfl
/- slices.Index[[]string,string] -/
def H162 : F2C := fun _ k v s K =>
pop v fun x0 v =>
pop v fun x1 v =>
endE v (
vLenS x0 fun x2 =>
jn (fun _ s =>
K (.int .i64 (-1)) s) fun K3 =>
loopE k (fun K4 v s =>
pop v fun x5 _ =>
bLt x5 x2 fun x6 =>
cnd x6 (jn (fun _ s =>
bAdd x5 (ci 1) fun x8 =>
K4 [x8] s) fun K7 =>
vIaS x0 x5 1 fun x9 =>
ldA x9 take1 s fun x10 s =>
bEqF x1 x10 fun x11 =>
cnd x11 (K x5 s)
(K7 [] s))
(K3 [] s)) [(ci 0)] s)
def F162 : F2 := .fn H162 true
theorem fe162 : feE Tryz.prog ann 162 2 [.j [], .j [8], .j [], .j [], .j []] = some F162 := by kernel_rfl
/- daguerre/boot.tried$1 -/
def H163 : F2C := fun c _ v s K =>
pop v fun x0 v =>
pop v fun x1 v =>
endE v (
ldA x1 take1 s fun x2 s =>
c (.mk .d0 .d0 .d2 .d5) [x2] s fun x3 s =>
c (.mk .d0 .d0 .d3 .d5) [x3, x0] s fun x4 s =>
bEqF x4 (ci 1) fun x5 =>
gK x5 false x4 fun x6 =>
gV x5 false (bEqF x6 (ci 3)) fun x7 =>
vPick x5 ct x7 fun x8 =>
K x8 s)
def F163 : F2 := .fn H163 true
theorem fe163 : feE Tryz.prog ann 163 2 [] = some F163 := by kernel_rfl
/- (*daguerre/lazy.Machine).collect -/
def H164 : F2C := fun c k v s K =>
pop v fun x0 v =>
endE v (
lgE qNoE (zK x0) s fun x1 e2 s =>
lgE qNoE (zV (vChk x1)) s fun x3 e4 s =>
lgE qNoE (zV (fa1 x3 2)) s fun x5 e6 s =>
lgE (qLdE x5 1) (ldA x5 take1) s fun x7 e8 s =>
lgE qNoE (zK x0) s fun x9 e10 s =>
lgE qNoE (zV (vGen (.mkf 61 [(.c x9)] []))) s fun x11 e12 s =>
lgE qNoE (zK x0) s fun x13 e14 s =>
lgE qNoE (c (.mk .d0 .d0 .d7 .d6) [x13]) s fun x15 e16 s =>
lgE qNoE (c (.mk .d0 .d2 .d2 .d4) [x7, x11, x15]) s fun x17 e18 s =>
lgE qNoE (zK x17) s fun x19 e20 s =>
lgE qNoE (zV (vExt x19 0)) s fun x21 e22 s =>
lgE qNoE (zV (vExt x19 1)) s fun x23 e24 s =>
lgE qNoE (zK x21) s fun x25 e26 s =>
lgE qNoE (zK x23) s fun x27 e28 s =>
calmE [(3, 5), (3, 7), (5, 7)] [e2, e4, e6, e8, e10, e12, e14, e16, e18, e20, e22, e24, e26, e28] (fun s =>
vChk x0 fun x29 =>
fa1 x29 2 fun x30 =>
zSt x30 x25 1 s fun _ s =>
vChk x0 fun x32 =>
fa1 x32 1 fun x33 =>
ldA x33 take1 s fun x34 s =>
c (.mk .d0 .d2 .d3 .d0) [x34] s fun x35 s =>
vLenS x35 fun x36 =>
lgE qNoE (zK x0) s fun x37 e38 s =>
lgE qNoE (zV (vChk x37)) s fun x39 e40 s =>
lgE qNoE (zV (fa1 x39 1)) s fun x41 e42 s =>
lgE (qLdE x41 1) (ldA x41 take1) s fun x43 e44 s =>
lgE qNoE (zK x27) s fun x45 e46 s =>
lgE qNoE (zK x36) s fun x47 e48 s =>
lgE qNoE (zV (vSlt x45 eN (eX x47) 1)) s fun x49 e50 s =>
lgE qNoE (c (.mk .d0 .d4 .d0 .d3) [x43, x49]) s fun _ e52 s =>
calmE [(3, 6)] [e38, e40, e42, e44, e46, e48, e50, e52] (fun s =>
vChk x0 fun x53 =>
fa1 x53 4 fun x54 =>
ldA x54 take1 s fun x55 s =>
vLenS x55 fun x56 =>
jn (fun _ s =>
K (.tup []) s) fun K57 =>
loopE k (fun _ v s =>
pop v fun x59 _ =>
bLt x59 x56 fun x60 =>
cnd x60 (none)
(K57 [] s)) [(ci 0)] s) s) s)
def F164 : F2 := .fn H164 true
theorem fe164 : feE Tryz.prog ann 164 1 [.j [], .j [43], .cl, .j []] = some F164 := by kernel_rfl
/- daguerre/daguerrelaw10.Begun -/
def H165 : F2C := fun c _ v s K =>
endE v (
c (.mk .d0 .d4 .d0 .d5) [] s fun x0 s =>
K x0 s)
def F165 : F2 := .pur H165 true mNo
theorem fe165 : feE Tryz.prog ann 165 0 [] = some F165 := by kernel_rfl
/- (*daguerre/pile.Pile).Len -/
def H166 : F2C := fun _ _ v s K =>
pop v fun x0 v =>
endE v (
vNil false .ptr x0 fun x1 =>
cnd x1 (none)
(vChk x0 fun x2 =>
fa1 x2 0 fun x3 =>
ldA x3 take1 s fun x4 s =>
vLenS x4 fun x5 =>
K x5 s))
def F166 : F2 := .fn H166 true
theorem fe166 : feE Tryz.prog ann 166 1 [.cl] = some F166 := by kernel_rfl
/- (*daguerre/reach.Reach).some$1 -/
def H167 : F2C := fun _ _ v s K =>
pop v fun x0 v =>
pop v fun x1 v =>
endE v (
ldA x1 take1 s fun x2 s =>
zLku .str (.bool false) x2 x0 false s fun x3 s =>
vGen (.un .not (.c x3)) fun x4 =>
K x4 s)
def F167 : F2 := .fn H167 true
theorem fe167 : feE Tryz.prog ann 167 2 [] = some F167 := by kernel_rfl
/- daguerre/class.all[daguerre/api.Field] -/
def H168 : F2C := fun c k v s K =>
pop v fun x0 v =>
pop v fun x1 v =>
pop v fun x2 v =>
pop v fun x3 v =>
endE v (
zBox false x2 s fun x4 s =>
vLenS x0 fun x5 =>
jn (fun _ s =>
vLenS x0 fun x7 =>
bLe x7 x1 fun x8 =>
K x8 s) fun K6 =>
loopE k (fun K9 v s =>
pop v fun x10 _ =>
bLt x10 x5 fun x11 =>
cnd x11 (jn (fun _ s =>
bAdd x10 (ci 1) fun x13 =>
K9 [x13] s) fun K12 =>
vIaS x0 x10 3 fun x14 =>
ldA x14 (takeN 3) s fun x15 s =>
boxD false [.str [], .str [], .bool false] s fun x16 s =>
zSt x16 x15 3 s fun _ s =>
ldA x16 (takeN 3) s fun x18 s =>
zCallV c x3 [x18] s fun x19 s =>
vGen (.un .not (.c x19)) fun x20 =>
gK x20 false x0 fun x21 =>
gK x20 false x10 fun x22 =>
gV x20 false (vSlt x21 eN (eX x22) 3) fun x23 =>
gV x20 false (vGen (.mkf 262 [] [(.c x4), (.c x16)])) fun x24 =>
gH x20 false (c (.mk .d0 .d2 .d6 .d7) [x23, x24]) s fun x25 s =>
vPick x20 ct x25 fun x26 =>
cnd x26 (none)
(K12 [] s))
(K6 [] s)) [(ci 0)] s)
def F168 : F2 := .fn H168 true
theorem fe168 : feE Tryz.prog ann 168 4 [.j [], .j [13], .j [], .j [], .cl] = some F168 := by kernel_rfl
/- daguerre/class.May$1 -/
def H169 : F2C := fun _ _ v s K =>
pop v fun x0 v =>
endE v (
zTbox x0 s fun x1 s =>
fa1 x1 0 fun x2 =>
ldA x2 take1 s fun x3 s =>
K x3 s)
def F169 : F2 := .fn H169 true
theorem fe169 : feE Tryz.prog ann 169 1 [] = some F169 := by kernel_rfl
/- daguerre/class.May$2 -/
def H170 : F2C := fun c _ v s K =>
pop v fun x0 v =>
endE v (
zTbox x0 s fun x1 s =>
fa1 x1 0 fun x2 =>
ldA x2 take1 s fun x3 s =>
c (.mk .d0 .d2 .d5 .d3) [x3] s fun x4 s =>
gV x4 true (fa1 x1 0) fun x5 =>
gH x4 true (ldA x5 take1) s fun x6 s =>
gV x4 true (bEqT x6 (.str [36, 105, 110, 105, 116])) fun x7 =>
vPick x4 x7 cf fun x8 =>
gV x8 true (fa1 x1 1) fun x9 =>
gH x8 true (ldA x9 take1) s fun x10 s =>
gH x8 true (c (.mk .d0 .d2 .d5 .d4) [x10]) s fun x11 s =>
vPick x8 x11 cf fun x12 =>
K x12 s)
def F170 : F2 := .fn H170 true
theorem fe170 : feE Tryz.prog ann 170 1 [] = some F170 := by kernel_rfl
/- daguerre/class.May$4 -/
def H175 : F2C := fun c _ v s K =>
pop v fun x0 v =>
pop v fun x1 v =>
endE v (
zTbox x0 s fun x2 s =>
fa1 x2 4 fun x3 =>
ldA x3 take1 s fun x4 s =>
fa1 x1 2 fun x5 =>
ldA x5 take1 s fun x6 s =>
vBeq false x4 x6 fun x7 =>
gH x7 true (ldA x2 (takeN 10)) s fun x8 s =>
gH x7 true (c (.mk .d0 .d2 .d6 .d0) [x8]) s fun x9 s =>
vPick x7 x9 cf fun x10 =>
K x10 s)
def F175 : F2 := .fn H175 true
theorem fe175 : feE Tryz.prog ann 175 2 [] = some F175 := by kernel_rfl
/- daguerre/class.all[daguerre/api.Method] -/
def H173 : F2C := fun c k v s K =>
pop v fun x0 v =>
pop v fun x1 v =>
pop v fun x2 v =>
pop v fun x3 v =>
endE v (
zBox false x2 s fun x4 s =>
vLenS x0 fun x5 =>
jn (fun _ s =>
vLenS x0 fun x7 =>
bLe x7 x1 fun x8 =>
K x8 s) fun K6 =>
loopE k (fun K9 v s =>
pop v fun x10 _ =>
bLt x10 x5 fun x11 =>
cnd x11 (jn (fun _ s =>
bAdd x10 (ci 1) fun x13 =>
K9 [x13] s) fun K12 =>
vIaS x0 x10 10 fun x14 =>
ldA x14 (takeN 10) s fun x15 s =>
boxD false [.str [], .nil .sl, .str [], .bool false, .bool false, .int .i64 0, .int .i64 0, .nil .sl, .nil .sl, .nil .sl] s fun x16 s =>
zSt x16 x15 10 s fun _ s =>
ldA x16 (takeN 10) s fun x18 s =>
zCallV c x3 [x18] s fun x19 s =>
vGen (.un .not (.c x19)) fun x20 =>
gK x20 false x0 fun x21 =>
gK x20 false x10 fun x22 =>
gV x20 false (vSlt x21 eN (eX x22) 10) fun x23 =>
gV x20 false (vGen (.mkf 266 [] [(.c x4), (.c x16)])) fun x24 =>
gH x20 false (c (.mk .d0 .d2 .d7 .d1) [x23, x24]) s fun x25 s =>
vPick x20 ct x25 fun x26 =>
cnd x26 (none)
(K12 [] s))
(K6 [] s)) [(ci 0)] s)
def F173 : F2 := .fn H173 true
theorem fe173 : feE Tryz.prog ann 173 4 [.j [], .j [13], .j [], .j [], .cl] = some F173 := by kernel_rfl
/- daguerre/class.May$3 -/
def H174 : F2C := fun _ _ v s K =>
pop v fun x0 v =>
endE v (
zTbox x0 s fun x1 s =>
fa1 x1 0 fun x2 =>
ldA x2 take1 s fun x3 s =>
K x3 s)
def F174 : F2 := .fn H174 true
theorem fe174 : feE Tryz.prog ann 174 1 [] = some F174 := by kernel_rfl
/- daguerre/kind.Class -/
def H177 : F2C := fun c _ v s K =>
pop v fun x0 v =>
endE v (
c (.mk .d0 .d4 .d0 .d7) [x0] s fun x1 s =>
gK x1 true x0 fun x2 =>
gV x1 true (vLens x2) fun x3 =>
gV x1 true (bGt x3 (ci 1)) fun x4 =>
vPick x1 x4 cf fun x5 =>
gK x5 true x0 fun x6 =>
gV x5 true (vIxs x6 (ci 0)) fun x7 =>
gH x5 true (c (.mk .d0 .d4 .d2 .d3) [x7]) s fun x8 s =>
vPick x5 x8 cf fun x9 =>
K x9 s)
def F177 : F2 := .fn H177 true
theorem fe177 : feE Tryz.prog ann 177 1 [] = some F177 := by kernel_rfl
/- daguerre/class.all[string] -/
def H178 : F2C := fun c k v s K =>
pop v fun x0 v =>
pop v fun x1 v =>
pop v fun x2 v =>
pop v fun x3 v =>
endE v (
zBox false x2 s fun x4 s =>
vLenS x0 fun x5 =>
jn (fun _ s =>
vLenS x0 fun x7 =>
bLe x7 x1 fun x8 =>
K x8 s) fun K6 =>
loopE k (fun K9 v s =>
pop v fun x10 _ =>
bLt x10 x5 fun x11 =>
cnd x11 (jn (fun _ s =>
bAdd x10 (ci 1) fun x13 =>
K9 [x13] s) fun K12 =>
vIaS x0 x10 1 fun x14 =>
ldA x14 take1 s fun x15 s =>
boxD false [.str []] s fun x16 s =>
zSt x16 x15 1 s fun _ s =>
ldA x16 take1 s fun x18 s =>
zCallV c x3 [x18] s fun x19 s =>
vGen (.un .not (.c x19)) fun x20 =>
gK x20 false x0 fun x21 =>
gK x20 false x10 fun x22 =>
gV x20 false (vSlt x21 eN (eX x22) 1) fun x23 =>
gV x20 false (vGen (.mkf 276 [] [(.c x4), (.c x16)])) fun x24 =>
gH x20 false (c (.mk .d0 .d1 .d2 .d2) [x23, x24]) s fun x25 s =>
vPick x20 ct x25 fun x26 =>
cnd x26 (none)
(K12 [] s))
(K6 [] s)) [(ci 0)] s)
def F178 : F2 := .fn H178 true
theorem fe178 : feE Tryz.prog ann 178 4 [.j [], .j [13], .j [], .j [], .cl] = some F178 := by kernel_rfl
/- slices.IndexFunc[[]string,string] -/
def H180 : F2C := fun c k v s K =>
pop v fun x0 v =>
pop v fun x1 v =>
endE v (
vLenS x0 fun x2 =>
jn (fun _ s =>
K (.int .i64 (-1)) s) fun K3 =>
loopE k (fun K4 v s =>
pop v fun x5 _ =>
bLt x5 x2 fun x6 =>
cnd x6 (jn (fun _ s =>
bAdd x5 (ci 1) fun x8 =>
K4 [x8] s) fun K7 =>
vIaS x0 x5 1 fun x9 =>
ldA x9 take1 s fun x10 s =>
zCallV c x1 [x10] s fun x11 s =>
cnd x11 (K x5 s)
(K7 [] s))
(K3 [] s)) [(ci 0)] s)
def F180 : F2 := .fn H180 true
theorem fe180 : feE Tryz.prog ann 180 2 [.j [], .j [8], .j [], .j [], .j []] = some F180 := by kernel_rfl
/- (*daguerre/hier.Hier).fits$1 -/
def H181 : F2C := fun c _ v s K =>
pop v fun x0 v =>
pop v fun x1 v =>
endE v (
ldA x1 take1 s fun x2 s =>
c (.mk .d0 .d2 .d1 .d4) [x2, x0] s fun x3 s =>
vFld x3 2 take1 fun x4 =>
vGen (.un .not (.c x4)) fun x5 =>
K x5 s)
def F181 : F2 := .fn H181 true
theorem fe181 : feE Tryz.prog ann 181 2 [] = some F181 := by kernel_rfl
/- daguerre/closed.whole$1 -/
def H182 : F2C := fun c _ v s K =>
pop v fun x0 v =>
pop v fun x1 v =>
endE v (
bEqT x0 (.str [86]) fun x2 =>
gK x2 true x0 fun x3 =>
gV x2 true (bEqT x3 (.str [])) fun x4 =>
vPick x2 x4 cf fun x5 =>
gH x5 true (ldA x1 take1) s fun x6 s =>
gK x5 true x0 fun x7 =>
gH x5 true (c (.mk .d0 .d1 .d3 .d7) [x6, x7]) s fun x8 s =>
gV x5 true (vGen (.un .not (.c x8))) fun x9 =>
vPick x5 x9 cf fun x10 =>
K x10 s)
def F182 : F2 := .fn H182 true
theorem fe182 : feE Tryz.prog ann 182 2 [] = some F182 := by kernel_rfl
/- daguerre/closed.whole$2 -/
def H184 : F2C := fun c _ v s K =>
pop v fun x0 v =>
pop v fun x1 v =>
endE v (
zTbox x0 s fun x2 s =>
ldA x1 take1 s fun x3 s =>
fa1 x2 1 fun x4 =>
ldA x4 take1 s fun x5 s =>
zCallV c x3 [x5] s fun x6 s =>
K x6 s)
def F184 : F2 := .fn H184 true
theorem fe184 : feE Tryz.prog ann 184 2 [] = some F184 := by kernel_rfl
/- slices.ContainsFunc[[]daguerre/api.Field,daguerre/api.Field] -/
def H183 : F2C := fun c _ v s K =>
pop v fun x0 v =>
pop v fun x1 v =>
endE v (
c (.mk .d0 .d4 .d2 .d5) [x0, x1] s fun x2 s =>
bGe x2 (ci 0) fun x3 =>
K x3 s)
def F183 : F2 := .fn H183 true
theorem fe183 : feE Tryz.prog ann 183 2 [] = some F183 := by kernel_rfl
/- daguerre/closed.whole$3 -/
def H186 : F2C := fun c _ v s K =>
pop v fun x0 v =>
pop v fun x1 v =>
pop v fun x2 v =>
endE v (
zTbox x0 s fun x3 s =>
fa1 x3 9 fun x4 =>
ldA x4 take1 s fun x5 s =>
vGen (.mkf 188 [] [(.c x1)]) fun x6 =>
c (.mk .d0 .d2 .d7 .d3) [x5, x6] s fun x7 s =>
fa1 x3 7 fun x8 =>
ldA x8 take1 s fun x9 s =>
vGen (.mkf 190 [] [(.c x1), (.c x2)]) fun x10 =>
c (.mk .d0 .d2 .d7 .d5) [x9, x10] s fun x11 s =>
ldA x1 take1 s fun x12 s =>
fa1 x3 2 fun x13 =>
ldA x13 take1 s fun x14 s =>
zCallV c x12 [x14] s fun x15 s =>
gV x15 false (fa1 x3 1) fun x16 =>
gH x15 false (ldA x16 take1) s fun x17 s =>
gH x15 false (ldA x1 take1) s fun x18 s =>
gH x15 false (c (.mk .d0 .d1 .d2 .d2) [x17, x18]) s fun x19 s =>
vPick x15 ct x19 fun x20 =>
gK x20 false x7 fun x21 =>
vPick x20 ct x21 fun x22 =>
gK x22 false x11 fun x23 =>
vPick x22 ct x23 fun x24 =>
K x24 s)
def F186 : F2 := .fn H186 true
theorem fe186 : feE Tryz.prog ann 186 3 [] = some F186 := by kernel_rfl
/- slices.ContainsFunc[[]daguerre/api.Method,daguerre/api.Method] -/
def H185 : F2C := fun c _ v s K =>
pop v fun x0 v =>
pop v fun x1 v =>
endE v (
c (.mk .d0 .d3 .d3 .d0) [x0, x1] s fun x2 s =>
bGe x2 (ci 0) fun x3 =>
K x3 s)
def F185 : F2 := .fn H185 true
theorem fe185 : feE Tryz.prog ann 185 2 [] = some F185 := by kernel_rfl
/- daguerre/closed.overrides$1 -/
def H192 : F2C := fun c _ v s K =>
pop v fun x0 v =>
pop v fun x1 v =>
endE v (
zTbox x0 s fun x2 s =>
fa1 x2 0 fun x3 =>
ldA x3 take1 s fun x4 s =>
fa1 x1 0 fun x5 =>
ldA x5 take1 s fun x6 s =>
bEqF x4 x6 fun x7 =>
gV x7 true (fa1 x1 0) fun x8 =>
gH x7 true (ldA x8 take1) s fun x9 s =>
gV x7 true (bEqT x9 (.str [36, 105, 110, 105, 116])) fun x10 =>
vPick x7 x10 cf fun x11 =>
gH x11 true (ldA x1 (takeN 10)) s fun x12 s =>
gH x11 true (ldA x2 (takeN 10)) s fun x13 s =>
gH x11 true (c (.mk .d0 .d3 .d0 .d1) [x12, x13]) s fun x14 s =>
gV x11 true (vGen (.un .not (.c x14))) fun x15 =>
gK x11 true x15 fun x16 =>
gV x16 false (fa1 x1 3) fun x17 =>
gH x16 false (ldA x17 take1) s fun x18 s =>
gV x11 true (vPick x16 ct x18) fun x19 =>
gK x11 true x19 fun x20 =>
gV x20 false (fa1 x2 3) fun x21 =>
gH x20 false (ldA x21 take1) s fun x22 s =>
gV x11 true (vPick x20 ct x22) fun x23 =>
vPick x11 x23 cf fun x24 =>
K x24 s)
def F192 : F2 := .fn H192 true
theorem fe192 : feE Tryz.prog ann 192 2 [] = some F192 := by kernel_rfl
/- (*daguerre/hier.Hier).Faces -/
def H194 : F2C := fun c k v s K =>
pop v fun x0 v =>
pop v fun x1 v =>
endE v (
c (.mk .d0 .d1 .d2 .d5) [x0, x1] s fun x2 s =>
vGen (.un .not (.c x2)) fun x3 =>
cnd x3 (K (.nil .sl) s)
(c (.mk .d0 .d1 .d3 .d4) [x0, x1] s fun x4 s =>
jn (fun v s =>
pop v fun x6 _ =>
c (.mk .d0 .d4 .d3 .d1) [x6] s fun _ s =>
K x6 s) fun K5 =>
loopE k (fun K8 v s =>
pop v fun x9 v =>
pop v fun x10 v =>
pop v fun x11 _ =>
vLenS x10 fun x12 =>
bLt x9 x12 fun x13 =>
cnd x13 (jn (fun v s =>
pop v fun x15 v =>
pop v fun x16 _ =>
bAdd x9 (ci 1) fun x17 =>
K8 [x17, x15, x16] s) fun K14 =>
vIaS x10 x9 1 fun x18 =>
ldA x18 take1 s fun x19 s =>
c (.mk .d0 .d2 .d1 .d4) [x0, x19] s fun x20 s =>
boxD false [.str [], .str [], .bool false, .nil .sl, .nil .sl, .nil .sl] s fun x21 s =>
zSt x21 x20 6 s fun _ s =>
fa1 x21 2 fun x23 =>
ldA x23 take1 s fun x24 s =>
jn (fun v s =>
pop v fun x26 _ =>
fa1 x21 3 fun x27 =>
ldA x27 take1 s fun x28 s =>
vLenS x28 fun x29 =>
jn (fun v s =>
pop v fun x31 _ =>
K14 [x31, x26] s) fun K30 =>
loopE k (fun K32 v s =>
pop v fun x33 v =>
pop v fun x34 _ =>
bLt x33 x29 fun x35 =>
cnd x35 (jn (fun v s =>
pop v fun x37 _ =>
bAdd x33 (ci 1) fun x38 =>
K32 [x38, x37] s) fun K36 =>
vIaS x28 x33 1 fun x39 =>
ldA x39 take1 s fun x40 s =>
c (.mk .d0 .d1 .d1 .d1) [x34, x40] s fun x41 s =>
vGen (.un .not (.c x41)) fun x42 =>
cnd x42 (zBsl [.str []] 1 1 (eCons 0 1 x40 eNil) s fun x43 s =>
appB 1 16 x34 x43 s fun x44 s =>
K36 [x44] s)
(none))
(K30 [x34] s)) [(ci 0), x10] s) fun K25 =>
cnd x24 (fa1 x21 0 fun x45 =>
ldA x45 take1 s fun x46 s =>
zBsl [.str []] 1 1 (eCons 0 1 x46 eNil) s fun x47 s =>
appB 1 16 x11 x47 s fun x48 s =>
K25 [x48] s)
(K25 [x11] s))
(K5 [x11] s)) [(ci 0), x4, (.nil .sl)] s))
def F194 : F2 := .fn H194 true
theorem fe194 : feE Tryz.prog ann 194 2 [.j [], .j [5], .j [7, 6, 5], .j [], .j [6, 5], .j [5], .j [6], .j [40, 6], .j [], .j [6], .cr] = some F194 := by kernel_rfl
/- daguerre/closed.faces$2 -/
def H196 : F2C := fun c _ v s K =>
pop v fun x0 v =>
pop v fun x1 v =>
pop v fun x2 v =>
endE v (
zTbox x0 s fun x3 s =>
ldA x1 take1 s fun x4 s =>
fa1 x2 0 fun x5 =>
ldA x5 take1 s fun x6 s =>
ldA x3 (takeN 10) s fun x7 s =>
c (.mk .d0 .d3 .d0 .d5) [x4, x6, x7] s fun x8 s =>
vGen (.un .not (.c x8)) fun x9 =>
K x9 s)
def F196 : F2 := .fn H196 true
theorem fe196 : feE Tryz.prog ann 196 3 [] = some F196 := by kernel_rfl
/- daguerre/types.There -/
def H95 : F2C := fun c _ v s K =>
pop v fun x0 v =>
pop v fun x1 v =>
endE v (
vNil true .ptr x0 fun x2 =>
gK x2 true x1 fun x3 =>
gV x2 true (bEqF x3 (.str [78])) fun x4 =>
gK x2 true x4 fun x5 =>
gK x5 false x1 fun x6 =>
gV x5 false (bEqF x6 (.str [84])) fun x7 =>
gV x2 true (vPick x5 ct x7) fun x8 =>
gK x2 true x8 fun x9 =>
gK x9 false x0 fun x10 =>
gK x9 false x1 fun x11 =>
gK x9 false x1 fun x12 =>
gH x9 false (c (.mk .d0 .d1 .d4 .d2) [x10, x11, x12]) s fun x13 s =>
gV x2 true (vPick x9 ct x13) fun x14 =>
vPick x2 x14 cf fun x15 =>
K x15 s)
def F95 : F2 := .fn H95 true
theorem fe95 : feE Tryz.prog ann 95 2 [] = some F95 := by kernel_rfl
/- daguerre/verify.all$1 -/
def H198 : F2C := fun c _ v s K =>
pop v fun x0 v =>
pop v fun x1 v =>
endE v (
ldA x1 take1 s fun x2 s =>
zCallV c x2 [x0] s fun x3 s =>
vGen (.un .not (.c x3)) fun x4 =>
K x4 s)
def F198 : F2 := .fn H198 true
theorem fe198 : feE Tryz.prog ann 198 2 [] = some F198 := by kernel_rfl
/- (*daguerre/hier.Hier).there -/
def H199 : F2C := fun c k v s K =>
pop v fun x0 v =>
pop v fun x1 v =>
endE v (
c (.mk .d0 .d2 .d2 .d6) [x1] s fun x2 s =>
vExt x2 0 fun x3 =>
vExt x2 1 fun x4 =>
jn (fun v s =>
pop v fun x6 _ =>
vNil true .ptr x0 fun x7 =>
gK x7 true x6 fun x8 =>
gV x7 true (bEqF x8 (.str [73])) fun x9 =>
gK x7 true x9 fun x10 =>
gK x10 false x0 fun x11 =>
gK x10 false x6 fun x12 =>
gH x10 false (c (.mk .d0 .d1 .d2 .d5) [x11, x12]) s fun x13 s =>
gV x7 true (vPick x10 ct x13) fun x14 =>
vPick x7 x14 cf fun x15 =>
K x15 s) fun K5 =>
loopE k (fun K16 v s =>
pop v fun x17 v =>
pop v fun x18 v =>
pop v fun x19 _ =>
cnd x17 (jn (fun v s =>
pop v fun x21 _ =>
c (.mk .d0 .d2 .d2 .d6) [x21] s fun x22 s =>
vExt x22 0 fun x23 =>
vExt x22 1 fun x24 =>
K16 [x24, x23, x21] s) fun K20 =>
K20 [x18] s)
(K5 [x19] s)) [x4, x3, x1] s)
def F199 : F2 := .fn H199 true
theorem fe199 : feE Tryz.prog ann 199 2 [.j [1], .j [6, 5, 1], .j [], .j [1]] = some F199 := by kernel_rfl
/- daguerre/kind.Elem -/
def H150 : F2C := fun c _ v s K =>
pop v fun x0 v =>
endE v (
c (.mk .d0 .d2 .d5 .d4) [x0] s fun x1 s =>
vGen (.un .not (.c x1)) fun x2 =>
gK x2 false x0 fun x3 =>
gV x2 false (vIxs x3 (ci 0)) fun x4 =>
gV x2 false (bEqT x4 (cu 91)) fun x5 =>
vPick x2 ct x5 fun x6 =>
cnd x6 (K (.tup [(.str []), cf]) s)
(vGen (.sls (.c x0) (some (.c (ci 1))) none) fun x7 =>
K (.tup [x7, ct]) s))
def F150 : F2 := .fn H150 true
theorem fe150 : feE Tryz.prog ann 150 1 [.j []] = some F150 := by kernel_rfl
/- (*daguerre/verify.checker).find -/
def H200 : F2C := fun c _ v s K =>
pop v fun x0 v =>
pop v fun x1 v =>
endE v (
zBox false x1 s fun x2 s =>
vChk x0 fun x3 =>
fa1 x3 2 fun x4 =>
fa1 x4 8 fun x5 =>
ldA x5 take1 s fun x6 s =>
vGen (.mkf 285 [] [(.c x2)]) fun x7 =>
c (.mk .d0 .d4 .d3 .d4) [x6, x7] s fun x8 s =>
bLt x8 (ci 0) fun x9 =>
cnd x9 (K (.nil .ptr) s)
(vChk x0 fun x10 =>
fa1 x10 2 fun x11 =>
fa1 x11 8 fun x12 =>
ldA x12 take1 s fun x13 s =>
vIaS x13 x8 3 fun x14 =>
K x14 s))
def F200 : F2 := .fn H200 true
theorem fe200 : feE Tryz.prog ann 200 2 [.j []] = some F200 := by kernel_rfl
/- daguerre/verify.between -/
def H201 : F2C := fun _ _ v s K =>
pop v fun x0 v =>
pop v fun x1 v =>
pop v fun x2 v =>
endE v (
bGe x0 x1 fun x3 =>
gK x3 true x0 fun x4 =>
gK x3 true x2 fun x5 =>
gV x3 true (bLe x4 x5) fun x6 =>
vPick x3 x6 cf fun x7 =>
K x7 s)
def F201 : F2 := .fn H201 true
theorem fe201 : feE Tryz.prog ann 201 3 [] = some F201 := by kernel_rfl
/- (*daguerre/verify.checker).move -/
def H202 : F2C := fun c _ v s K =>
pop v fun x0 v =>
pop v fun x1 v =>
endE v (
zTbox x1 s fun x2 s =>
fa1 x2 0 fun x3 =>
ldA x3 take1 s fun x4 s =>
jn (fun _ s =>
K (.tup []) s) fun K5 =>
bEqF x4 (ci 1) fun x6 =>
jn (fun _ s =>
K5 [] s) fun K7 =>
cnd x6 (c (.mk .d0 .d3 .d1 .d4) [x0, (.str [73])] s fun _ s =>
K7 [] s)
(bEqF x4 (ci 2) fun x9 =>
jn (fun _ s =>
K7 [] s) fun K10 =>
cnd x9 (c (.mk .d0 .d3 .d1 .d4) [x0, (.str [78])] s fun _ s =>
K10 [] s)
(bEqF x4 (ci 3) fun x12 =>
jn (fun _ s =>
K10 [] s) fun K13 =>
cnd x12 (lgE qNoE (zV (fa1 x2 1)) s fun x14 e15 s =>
lgE (qLdE x14 1) (ldA x14 take1) s fun x16 e17 s =>
lgE qNoE (zK x0) s fun x18 e19 s =>
lgE qNoE (zV (vChk x18)) s fun x20 e21 s =>
lgE qNoE (zV (fa1 x20 12)) s fun x22 e23 s =>
lgE (qLdE x22 1) (ldA x22 take1) s fun x24 e25 s =>
lgE qNoE (zV (vLenS x24)) s fun x26 e27 s =>
lgE qNoE (zV (bGe x16 x26)) s fun x28 e29 s =>
lgE qNoE (zK x28) s fun x30 e31 s =>
lgE (qGE x30 false qNoE) (zG x30 false (zK x0)) s fun x32 e33 s =>
lgE (qGE x30 false qNoE) (zG x30 false (zV (vChk x32))) s fun x34 e35 s =>
lgE (qGE x30 false qNoE) (zG x30 false (zV (fa1 x34 12))) s fun x36 e37 s =>
lgE (qGE x30 false (qLdE x36 1)) (zG x30 false (ldA x36 take1)) s fun x38 e39 s =>
lgE (qGE x30 false qNoE) (zG x30 false (zV (fa1 x2 1))) s fun x40 e41 s =>
lgE (qGE x30 false (qLdE x40 1)) (zG x30 false (ldA x40 take1)) s fun x42 e43 s =>
lgE (qGE x30 false qNoE) (zG x30 false (zV (vIaS x38 x42 1))) s fun x44 e45 s =>
lgE (qGE x30 false (qLdE x44 1)) (zG x30 false (ldA x44 take1)) s fun x46 e47 s =>
lgE (qGE x30 false qNoE) (zG x30 false (zV (bEqF x46 (.str [84])))) s fun x48 e49 s =>
lgE qNoE (zV (vPick x30 ct x48)) s fun x50 e51 s =>
calmE [(1, 5), (1, 6), (12, 14)] [e15, e17, e19, e21, e23, e25, e27, e29, e31, e33, e35, e37, e39, e41, e43, e45, e47, e49, e51] (fun s =>
cnd x50 (none)
(lgE qNoE (zK x0) s fun x52 e53 s =>
lgE qNoE (zK x0) s fun x54 e55 s =>
lgE qNoE (zV (vChk x54)) s fun x56 e57 s =>
lgE qNoE (zV (fa1 x56 12)) s fun x58 e59 s =>
lgE (qLdE x58 1) (ldA x58 take1) s fun x60 e61 s =>
lgE qNoE (zV (fa1 x2 1)) s fun x62 e63 s =>
lgE (qLdE x62 1) (ldA x62 take1) s fun x64 e65 s =>
lgE qNoE (zV (vIaS x60 x64 1)) s fun x66 e67 s =>
lgE (qLdE x66 1) (ldA x66 take1) s fun x68 e69 s =>
lgE qNoE (c (.mk .d0 .d3 .d1 .d4) [x52, x68]) s fun _ e71 s =>
calmE [(4, 6)] [e53, e55, e57, e59, e61, e63, e65, e67, e69, e71] (fun s =>
K13 [] s) s)) s)
(bEqF x4 (ci 4) fun x72 =>
cnd x72 (none)
(bEqF x4 (ci 5) fun x73 =>
cnd x73 (c (.mk .d0 .d4 .d3 .d6) [x0] s fun _ s =>
K13 [] s)
(none))))))
def F202 : F2 := .fn H202 true
theorem fe202 : feE Tryz.prog ann 202 2 [.j [], .j [], .j [], .j [], .cl, .cl, .cr] = some F202 := by kernel_rfl
/- (*daguerre/verify.checker).take -/
def H203 : F2C := fun c k v s K =>
pop v fun x0 v =>
pop v fun x1 v =>
endE v (
vLenS x1 fun x2 =>
bSub x2 (ci 1) fun x3 =>
jn (fun _ s =>
K (.tup []) s) fun K4 =>
loopE k (fun K5 v s =>
pop v fun x6 _ =>
bGe x6 (ci 0) fun x7 =>
cnd x7 (jn (fun _ s =>
bSub x6 (ci 1) fun x9 =>
K5 [x9] s) fun K8 =>
lgE qNoE (zK x0) s fun x10 e11 s =>
lgE qNoE (zK x0) s fun x12 e13 s =>
lgE qNoE (zV (vChk x12)) s fun x14 e15 s =>
lgE qNoE (zV (fa1 x14 0)) s fun x16 e17 s =>
lgE (qLdE x16 1) (ldA x16 take1) s fun x18 e19 s =>
lgE qNoE (zK x0) s fun x20 e21 s =>
lgE qNoE (c (.mk .d0 .d4 .d3 .d6) [x20]) s fun x22 e23 s =>
lgE qNoE (zK x1) s fun x24 e25 s =>
lgE qNoE (zK x6) s fun x26 e27 s =>
lgE qNoE (zV (vIaS x24 x26 1)) s fun x28 e29 s =>
lgE (qLdE x28 1) (ldA x28 take1) s fun x30 e31 s =>
lgE qNoE (c (.mk .d0 .d4 .d3 .d7) [x18, x22, x30]) s fun x32 e33 s =>
lgE qNoE (c (.mk .d0 .d1 .d4 .d0) [x10, x32]) s fun _ e35 s =>
calmE [(4, 6), (4, 10), (6, 10)] [e11, e13, e15, e17, e19, e21, e23, e25, e27, e29, e31, e33, e35] (fun s =>
K8 [] s) s)
(K4 [] s)) [x3] s)
def F203 : F2 := .fn H203 true
theorem fe203 : feE Tryz.prog ann 203 2 [.j [], .j [4], .j [], .j []] = some F203 := by kernel_rfl
/- (*daguerre/verify.checker).push -/
def H204 : F2C := fun _ _ v s K =>
pop v fun x0 v =>
pop v fun x1 v =>
endE v (
vChk x0 fun x2 =>
fa1 x2 13 fun x3 =>
ldA x3 take1 s fun x4 s =>
zBsl [.str []] 1 1 (eCons 0 1 x1 eNil) s fun x5 s =>
appB 1 16 x4 x5 s fun x6 s =>
vChk x0 fun x7 =>
fa1 x7 13 fun x8 =>
zSt x8 x6 1 s fun _ s =>
K (.tup []) s)
def F204 : F2 := .fn H204 true
theorem fe204 : feE Tryz.prog ann 204 2 [] = some F204 := by kernel_rfl
/- (*daguerre/verify.checker).field -/
def H206 : F2C := fun c _ v s K =>
pop v fun x0 v =>
pop v fun x1 v =>
endE v (
zTbox x1 s fun x2 s =>
fa1 x2 0 fun x3 =>
ldA x3 take1 s fun x4 s =>
bEqF x4 (ci 37) fun x5 =>
cnd x5 (lgE qNoE (zK x0) s fun x6 e7 s =>
lgE qNoE (zV (vChk x6)) s fun x8 e9 s =>
lgE qNoE (zV (fa1 x8 0)) s fun x10 e11 s =>
lgE (qLdE x10 1) (ldA x10 take1) s fun x12 e13 s =>
lgE qNoE (zV (fa1 x2 2)) s fun x14 e15 s =>
lgE (qLdE x14 1) (ldA x14 take1) s fun x16 e17 s =>
lgE qNoE (c (.mk .d0 .d0 .d6 .d7) [x12, x16]) s fun x18 e19 s =>
lgE qNoE (zK x18) s fun x20 e21 s =>
lgE qNoE (zV (vExt x20 0)) s fun x22 e23 s =>
lgE qNoE (zV (vExt x20 1)) s fun x24 e25 s =>
lgE qNoE (boxD false [.str [], .str [], .bool false, .nil .sl, .nil .sl, .nil .sl]) s fun x26 e27 s =>
lgE qNoE (zSt x26 x22 6) s fun _ e29 s =>
lgE qNoE (zK x24) s fun x30 e31 s =>
calmE [(3, 5), (3, 10), (5, 10), (6, 10)] [e7, e9, e11, e13, e15, e17, e19, e21, e23, e25, e27, e29, e31] (fun s =>
gV x30 true (fa1 x26 2) fun x32 =>
gH x30 true (ldA x32 take1) s fun x33 s =>
gV x30 true (vGen (.un .not (.c x33))) fun x34 =>
vPick x30 x34 cf fun x35 =>
c (.mk .d0 .d1 .d4 .d0) [x0, x35] s fun _ s =>
fa1 x2 2 fun x37 =>
ldA x37 take1 s fun x38 s =>
c (.mk .d0 .d3 .d1 .d4) [x0, x38] s fun _ s =>
K (.tup []) s) s)
(lgE qNoE (zK x0) s fun x40 e41 s =>
lgE qNoE (zV (vChk x40)) s fun x42 e43 s =>
lgE qNoE (zV (fa1 x42 0)) s fun x44 e45 s =>
lgE (qLdE x44 1) (ldA x44 take1) s fun x46 e47 s =>
lgE qNoE (zV (fa1 x2 2)) s fun x48 e49 s =>
lgE (qLdE x48 1) (ldA x48 take1) s fun x50 e51 s =>
lgE qNoE (zV (fa1 x2 3)) s fun x52 e53 s =>
lgE (qLdE x52 1) (ldA x52 take1) s fun x54 e55 s =>
lgE qNoE (c (.mk .d0 .d3 .d3 .d2) [x46, x50, x54]) s fun x56 e57 s =>
lgE qNoE (zK x56) s fun x58 e59 s =>
lgE qNoE (zV (vExt x58 0)) s fun x60 e61 s =>
lgE qNoE (zV (vExt x58 1)) s fun x62 e63 s =>
lgE qNoE (zV (vExt x58 2)) s fun x64 e65 s =>
lgE qNoE (boxD false [.str [], .str [], .bool false]) s fun x66 e67 s =>
lgE qNoE (zK x60) s fun _ e69 s =>
lgE qNoE (zSt x66 x62 3) s fun _ e71 s =>
lgE qNoE (zK x64) s fun x72 e73 s =>
calmE [(3, 5), (3, 7), (5, 7), (3, 13), (5, 13), (7, 13), (8, 13)] [e41, e43, e45, e47, e49, e51, e53, e55, e57, e59, e61, e63, e65, e67, e69, e71, e73] (fun s =>
gV x72 true (fa1 x66 2) fun x74 =>
gH x72 true (ldA x74 take1) s fun x75 s =>
gV x72 true (fa1 x2 0) fun x76 =>
gH x72 true (ldA x76 take1) s fun x77 s =>
gV x72 true (bEqF x77 (ci 40)) fun x78 =>
gK x72 true x78 fun x79 =>
gV x79 false (fa1 x2 0) fun x80 =>
gH x79 false (ldA x80 take1) s fun x81 s =>
gV x79 false (bEqF x81 (ci 41)) fun x82 =>
gV x72 true (vPick x79 ct x82) fun x83 =>
gV x72 true (vBeq false x75 x83) fun x84 =>
vPick x72 x84 cf fun x85 =>
c (.mk .d0 .d1 .d4 .d0) [x0, x85] s fun _ s =>
fa1 x2 0 fun x87 =>
ldA x87 take1 s fun x88 s =>
jn (fun _ s =>
K (.tup []) s) fun K89 =>
bEqF x88 (ci 38) fun x90 =>
cnd x90 (none)
(bEqF x88 (ci 39) fun x91 =>
cnd x91 (none)
(bEqF x88 (ci 40) fun x92 =>
jn (fun _ s =>
K89 [] s) fun K93 =>
cnd x92 (fa1 x66 1 fun x94 =>
ldA x94 take1 s fun x95 s =>
c (.mk .d0 .d3 .d1 .d4) [x0, x95] s fun _ s =>
K93 [] s)
(fa1 x66 1 fun x97 =>
ldA x97 take1 s fun x98 s =>
zBsl [.str []] 1 1 (eCons 0 1 x98 eNil) s fun x99 s =>
c (.mk .d0 .d3 .d1 .d3) [x0, x99] s fun _ s =>
K93 [] s)))) s))
def F206 : F2 := .fn H206 true
theorem fe206 : feE Tryz.prog ann 206 2 [.j [], .j [], .cl, .cl, .j []] = some F206 := by kernel_rfl
/- (*daguerre/verify.checker).call -/
def H207 : F2C := fun c _ v s K =>
pop v fun x0 v =>
pop v fun x1 v =>
endE v (
zTbox x1 s fun x2 s =>
lgE qNoE (zK x0) s fun x3 e4 s =>
lgE qNoE (zV (vChk x3)) s fun x5 e6 s =>
lgE qNoE (zV (fa1 x5 0)) s fun x7 e8 s =>
lgE (qLdE x7 1) (ldA x7 take1) s fun x9 e10 s =>
lgE qNoE (zV (fa1 x2 2)) s fun x11 e12 s =>
lgE (qLdE x11 1) (ldA x11 take1) s fun x13 e14 s =>
lgE qNoE (zV (fa1 x2 3)) s fun x15 e16 s =>
lgE (qLdE x15 1) (ldA x15 take1) s fun x17 e18 s =>
lgE qNoE (c (.mk .d0 .d0 .d4 .d6) [x9, x13, x17]) s fun x19 e20 s =>
lgE qNoE (zK x19) s fun x21 e22 s =>
lgE qNoE (zV (vExt x21 0)) s fun x23 e24 s =>
lgE qNoE (zV (vExt x21 1)) s fun x25 e26 s =>
lgE qNoE (zV (vExt x21 2)) s fun x27 e28 s =>
lgE qNoE (boxD false [.str [], .nil .sl, .str [], .bool false, .bool false, .int .i64 0, .int .i64 0, .nil .sl, .nil .sl, .nil .sl]) s fun x29 e30 s =>
lgE qNoE (zK x23) s fun _ e32 s =>
lgE qNoE (zSt x29 x25 10) s fun _ e34 s =>
lgE qNoE (zK x27) s fun x35 e36 s =>
calmE [(3, 5), (3, 7), (5, 7), (3, 13), (5, 13), (7, 13), (8, 13)] [e4, e6, e8, e10, e12, e14, e16, e18, e20, e22, e24, e26, e28, e30, e32, e34, e36] (fun s =>
gV x35 true (fa1 x29 4) fun x37 =>
gH x35 true (ldA x37 take1) s fun x38 s =>
gV x35 true (vGen (.un .not (.c x38))) fun x39 =>
vPick x35 x39 cf fun x40 =>
fa1 x2 0 fun x41 =>
ldA x41 take1 s fun x42 s =>
bEqF x42 (ci 45) fun x43 =>
cnd x43 (none)
(gV x40 true (fa1 x29 3) fun x44 =>
gH x40 true (ldA x44 take1) s fun x45 s =>
gV x40 true (fa1 x2 0) fun x46 =>
gH x40 true (ldA x46 take1) s fun x47 s =>
gV x40 true (bEqF x47 (ci 42)) fun x48 =>
gV x40 true (vBeq false x45 x48) fun x49 =>
vPick x40 x49 cf fun x50 =>
c (.mk .d0 .d1 .d4 .d0) [x0, x50] s fun _ s =>
fa1 x29 1 fun x52 =>
ldA x52 take1 s fun x53 s =>
c (.mk .d0 .d3 .d1 .d3) [x0, x53] s fun _ s =>
fa1 x2 0 fun x55 =>
ldA x55 take1 s fun x56 s =>
jn (fun _ s =>
fa1 x29 2 fun x58 =>
ldA x58 take1 s fun x59 s =>
bEqT x59 (.str [86]) fun x60 =>
cnd x60 (none)
(K (.tup []) s)) fun K57 =>
bEqF x56 (ci 43) fun x61 =>
jn (fun v s =>
pop v fun x63 _ =>
jn (fun _ s =>
K57 [] s) fun K64 =>
cnd x63 (fa1 x2 2 fun x65 =>
ldA x65 take1 s fun x66 s =>
zBsl [.str []] 1 1 (eCons 0 1 x66 eNil) s fun x67 s =>
c (.mk .d0 .d3 .d1 .d3) [x0, x67] s fun _ s =>
K64 [] s)
(bEqF x56 (ci 44) fun x69 =>
cnd x69 (none)
(K64 [] s))) fun K62 =>
cnd x61 (K62 [x61] s)
(bEqF x56 (ci 45) fun x70 =>
K62 [x70] s))) s)
def F207 : F2 := .fn H207 true
theorem fe207 : feE Tryz.prog ann 207 2 [.cl, .j [], .j [60], .j [], .cl, .cl] = some F207 := by kernel_rfl
/- (*daguerre/verify.checker).ret -/
def H208 : F2C := fun c _ v s K =>
pop v fun x0 v =>
pop v fun x1 v =>
endE v (
jn (fun _ s =>
K (.tup []) s) fun K2 =>
bEqF x1 (ci 46) fun x3 =>
jn (fun _ s =>
K2 [] s) fun K4 =>
cnd x3 (vChk x0 fun x5 =>
fa1 x5 2 fun x6 =>
fa1 x6 2 fun x7 =>
ldA x7 take1 s fun x8 s =>
bEqF x8 (.str [86]) fun x9 =>
c (.mk .d0 .d1 .d4 .d0) [x0, x9] s fun _ s =>
K4 [] s)
(bEqF x1 (ci 47) fun x11 =>
cnd x11 (vChk x0 fun x12 =>
fa1 x12 2 fun x13 =>
fa1 x13 2 fun x14 =>
ldA x14 take1 s fun x15 s =>
bEqF x15 (.str [73]) fun x16 =>
c (.mk .d0 .d1 .d4 .d0) [x0, x16] s fun _ s =>
zBsl [.str []] 1 1 (eCons 0 1 (.str [73]) eNil) s fun x18 s =>
c (.mk .d0 .d3 .d1 .d3) [x0, x18] s fun _ s =>
K4 [] s)
(none)))
def F208 : F2 := .fn H208 true
theorem fe208 : feE Tryz.prog ann 208 2 [.j [], .j [], .cr] = some F208 := by kernel_rfl
end
end Go.Proofs.SlimCode
