import Derived.Test.YtmnnmgfjlokmkaaGreatAbsEG
namespace Go.Abs
abbrev EV := List (Nat × AV)
abbrev VK := (AV → RT) → RT
abbrev ZK := HS → (AV → HS → RT) → RT
inductive DK3 where
  | known (v : AV)
  | val (h : VK)
  | heap (h : ZK)
inductive EJ where
  | skip
  | reg (ps : List (Nat × Nat)) (l : List SO)
  | seq (a b : EJ)
  | cond (x : SX) (j : List Nat) (a b : EJ)
  | block (id : Nat) (j : List Nat) (b : EJ)
  | loop (j : List Nat) (b : EJ)
  | exit (id : Nat)
  | ret
  | hole
  deriving Inhabited
inductive JJ where
  | j (l : List Nat)
  | cl
  | cr
  | ch
abbrev F2C := CL → Nat → List AV → HS → (AV → HS → RT) → RT
inductive F2 where
  | fn (code : F2C) (still : Bool)
  | pur (code : F2C) (still : Bool) (memo : MC)
  | ext (e : EK) (still : Bool)
abbrev TB2 := N8 (N8 (N8 (N8 (Option F2))))
noncomputable section
def lkE (t : Nat) : EV → Option AV := List.rec (motive := fun _ => Option AV) none (fun p _ ih => Bool.rec (motive := fun _ => Option AV) ih (some p.2) (Nat.beq t p.1))
def xrE (ρ : EV) (t : Nat) : AV := Option.rec (motive := fun _ => AV) .undef (fun v => v) (lkE t ρ)
def xvE (ρ : EV) (x : SX) : AV := SX.rec (motive := fun _ => AV) (fun t => xrE ρ t) (fun v => v) x
def okR (ρ : EV) (t : Nat) : Bool := Bool.rec (motive := fun _ => Bool) false (Option.rec (motive := fun _ => Bool) false (fun _ => true) (lkE t ρ)) (Nat.ble t 511)
def okX (ρ : EV) (x : SX) : Bool := SX.rec (motive := fun _ => Bool) (fun t => okR ρ t) (fun _ => true) x
def okXs (ρ : EV) (l : List SX) : Bool := List.rec (motive := fun _ => Bool) true (fun x _ ih => Bool.rec (motive := fun _ => Bool) false ih (okX ρ x)) l
def okI (ρ : EV) (o : Option SX) : Bool := Option.rec (motive := fun _ => Bool) true (fun x => okX ρ x) o
def okP (ρ : EV) (l : List (Nat × Nat × SX)) : Bool := List.rec (motive := fun _ => Bool) true (fun p _ ih => Bool.rec (motive := fun _ => Bool) false ih (okX ρ p.2.2)) l
def xsE (ρ : EV) (l : List SX) : List AV := List.rec (motive := fun _ => List AV) [] (fun x _ ih => xvE ρ x :: ih) l
def csE (ρ : EV) (l : List SX) : List SX := List.rec (motive := fun _ => List SX) [] (fun x _ ih => .c (xvE ρ x) :: ih) l
def coE (ρ : EV) (o : Option SX) : Option SX := Option.rec (motive := fun _ => Option SX) none (fun x => some (.c (xvE ρ x))) o
abbrev IE := Nat → (Nat → RT) → RT
def eN : IE := fun d k => k d
def eX (v : AV) : IE := fun _ k => asInt v fun _ i => natOf i k
def oiE (ρ : EV) (o : Option SX) : IE := Option.rec (motive := fun _ => IE) eN (fun x => eX (xvE ρ x)) o
abbrev PE := List AV → (List AV → RT) → RT
def eNil : PE := fun cs k => k cs
def eCons (o s : Nat) (v : AV) (r : PE) : PE := fun cs k => partC v s o cs fun cs => r cs k
def fillE (ρ : EV) (l : List (Nat × Nat × SX)) : PE := List.rec (motive := fun _ => PE) eNil (fun p _ ih => eCons p.1 p.2.1 (xvE ρ p.2.2) ih) l
def un3 : RG := ⟨un2, un2, un2, un2, un2, un2, un2, un2⟩
def vPick (c a b : AV) : VK := fun K => asBool c fun c => Bool.rec (motive := fun _ => RT) (K b) (K a) c
def vBeq (neg : Bool) (a b : AV) : VK := fun K => asBool a fun a => asBool b fun b => tn neg K (eqB a b)
def vNil (neg : Bool) (k : NilK) (v : AV) : VK := fun K => isNilB v fun b k' => Bool.rec (motive := fun _ => RT) none (tn neg K b) (Nat.beq (kN k') (kN k))
def vIaN (v i : AV) (n s : Nat) : VK := fun K => asInt i fun _ w => natOf w fun i => iaN v i n s K
def vIaS (v i : AV) (s : Nat) : VK := fun K => asInt i fun _ w => natOf w fun i => iaS v i s K
def vIa (v i : AV) (n : Option Nat) (s : Nat) : VK := Option.rec (motive := fun _ => VK) (vIaS v i s) (fun n => vIaN v i n s) n
def vExt (v : AV) (i : Nat) : VK := fun K => asTup v fun l => nthC l i K
def vFld (v : AV) (o : Nat) (t : TK) : VK := fun K => asAgg v fun cs => t cs o K
def vCv (k : IntKind) (v : AV) : VK := fun K => asInt v fun _ n => wrapI k n K
def vChk (v : AV) : VK := fun K => isNilB v fun b _ => Bool.rec (motive := fun _ => RT) (K v) none b
def vLenS (v : AV) : VK := fun K => lenV v fun l => K (.int .i64 (.ofNat l))
def vLens (v : AV) : VK := fun K => asStr v fun t => forceN (lenN t) fun n => K (.int .i64 (.ofNat n))
def vIxs (v i : AV) : VK := fun K => asStr v fun t => asInt i fun _ w => natOf w fun i => nthU t i fun u => forceN u.toNat fun n => K (.int .u8 (.ofNat n))
def vBld (z : List AV) (f : PE) : VK := fun K => f z fun cs => K (.agg cs)
def vSlt (v : AV) (lo hi : IE) (s : Nat) : VK := fun K => sltA v un3 (fun _ => lo) (fun _ => hi) s K
def vTas (t : Nat) (ok : Bool) (v : AV) : VK := fun K => asIfc v fun u w => Bool.rec (motive := fun _ => RT) none (Bool.rec (motive := fun _ => RT) (K w) (K (.tup [w, .bool true])) ok) (Nat.beq u t)
def vGen (k : SK) : VK := fun K => Option.rec (motive := fun _ => RT) none (fun v => forceV v K) (svB (fun _ => none) k)
def zTbox (v : AV) : ZK := fun s K => cellsB v fun cs => Bool.rec (motive := fun _ => RT) none (mtick s fun _ s => K (.tptr cs 0) s) (onesB cs)
def zBsl (z : List AV) (s' n : Nat) (f : PE) : ZK := fun s K => f z fun cs => Bool.rec (motive := fun _ => RT) none (Bool.rec (motive := fun _ => RT) none (mtick s fun _ s => K (.tsl cs n) s) (onesB cs)) (Nat.beq (lenN cs) (Nat.mul n s'))
def zHbs (z : List AV) (s' n : Nat) (f : PE) : ZK := fun s K => f z fun cs => Bool.rec (motive := fun _ => RT) none (mnew (.cells cs) s fun id s => K (.sl id 0 n s') s) (onesB cs)
def zBox (esc : Bool) (v : AV) : ZK := fun s K => cellsB v fun cs => Bool.rec (motive := fun _ => RT) none (boxD esc cs s K) (onesB cs)
def zSt (p v : AV) (m : Nat) : ZK := fun s K => asPtr p fun id off => cellsB v fun vs => Bool.rec (motive := fun _ => RT) none (stoC id off vs s fun _ s => K .undef s) (Nat.beq (lenN vs) m)
def zAps (s' b : Nat) (x y : AV) : ZK := fun s K => asStr y fun t => bytesC t fun new => forceN (lenN t) fun n => appE s' b x new n s K
def zTree (h : ZK) : ZK := fun s K => h s fun v s => frzC v s K
def zApz (s' b : Nat) (z : List AV) (x y : AV) : ZK := fun s K => asInt y fun _ n => natOf n fun n => Bool.rec (motive := fun _ => RT) none (repC z n [] fun new => appE s' b x new n s K) (Nat.ble n 1073741824)
def zSla (x : AV) (n : Nat) (lo hi : IE) (s' : Nat) : ZK := fun s K => lo 0 fun l => hi n fun m => asPtr x fun id off => Bool.rec (motive := fun _ => RT) none (Bool.rec (motive := fun _ => RT) none (mcells id s fun cs s => Bool.rec (motive := fun _ => RT) none (forceN (Nat.add off (Nat.mul l s')) fun o => forceN (Nat.sub m l) fun len => K (.sl id o len s') s) (Nat.ble (Nat.add off (Nat.mul n s')) (lenN cs))) (Nat.ble m n)) (Nat.ble l m)
def zCvs (v : AV) : ZK := fun s K => asSl v fun id off len sz => Bool.rec (motive := fun _ => RT) none (Bool.rec (motive := fun _ => RT) none (mcells id s fun cs s => sliC cs off len fun _ => K (.sl id off len sz) s) (Nat.beq sz 1)) (Nat.ble 1 len)
def zCpy (s' : Nat) (x y : AV) : ZK := fun s K => asSl x fun id off len sz => Bool.rec (motive := fun _ => RT) none (Bool.rec (motive := fun _ => RT) none (srcC y s' s fun new n s => Bool.rec (motive := fun _ => RT) none (minC n len fun m => sliC new 0 (Nat.mul m s') fun vs => stoC id off vs s fun _ s => K (.int .i64 (.ofNat m)) s) (Nat.beq (lenN new) (Nat.mul n s'))) (Nat.ble 1 s')) (Nat.beq sz s')
def zMks (ro : Bool) (z : List AV) (s' b : Nat) (x y : AV) : ZK := fun s K => asInt x fun k n => asInt y fun k' m => Bool.rec (motive := fun _ => RT) none (Bool.rec (motive := fun _ => RT) none (natOf n fun n => natOf m fun m => Bool.rec (motive := fun _ => RT) none (Bool.rec (motive := fun _ => RT) none
  (repC z n [] fun cs => mkD ro cs n s' s K) (Nat.ble (Nat.mul n (Nat.succ b)) 1099511627776)) (Nat.beq n m)) (Nat.beq (kI k') 3)) (Nat.beq (kI k) 3)
def zS2b (ro : Bool) (x : AV) : ZK := fun s K => asStr x fun t => bytesC t fun l => forceN (lenN t) fun n => mkD ro l n 1 s K
def zMkm : ZK := fun s K => mnew (.map []) s fun id s => K (.map id) s
def zLku (q : MK) (z : AV) (m k : AV) (ok : Bool) : ZK := fun s K => keyK k q (mapE m s fun es s => findC k (fun _ v => Bool.rec (motive := fun _ => RT) (K v s) (K (.tup [v, .bool true]) s) ok) (Bool.rec (motive := fun _ => RT) (K z s) (K (.tup [z, .bool false]) s) ok) es 0)
def zMup (q : MK) (m k v : AV) : ZK := fun s K => asMap m fun id => keyK k q (mget id s fun o s => mapC o fun es => findC k (fun i _ => setM es i (k, v) fun es => mset id (.map es) s fun _ s => K .undef s) (addM (k, v) es fun es => mset id (.map es) s fun _ s => K .undef s) es 0)
def zClr (s' : Nat) (z : List AV) (x : AV) : ZK := fun s K => asSl x fun id off len sz => Bool.rec (motive := fun _ => RT) none (Nat.rec (motive := fun _ => RT) (K .undef s) (fun _ _ => repC z len [] fun new => stoC id off new s fun _ s => K .undef s) len) (Nat.beq s' sz)
def zInv (l : IT) (v : AV) (vs : List AV) (cl : CL) : ZK := fun s K => asIfc v fun t v => findT t (fun g h => Option.rec (motive := fun _ => RT) (cl (toD4 g) (v :: vs) s K) (fun m => ldA v (takeC m) s fun u s => cl (toD4 g) (u :: vs) s K) h) l
def zCallV (cl : CL) (x : AV) (vs : List AV) : ZK := fun s K => asFn x fun g a b => catC vs b fun vs => catC a vs fun vs => cl (toD4 g) vs s K
def callC2 (cl : CL) : AV → AV → List AV → ZK := AV.rec (motive_1 := fun _ => AV → List AV → HS → (AV → HS → RT) → RT) (motive_2 := fun _ => Unit) (fun _ => zCallV cl) (fun _ _ => zCallV cl) (fun _ => zCallV cl) (fun _ => zCallV cl) (fun _ _ => zCallV cl) (fun _ _ _ => zCallV cl) (fun _ _ _ _ => zCallV cl) (fun _ _ _ => zCallV cl) (fun _ => zCallV cl) (fun g a b _ _ => List.rec (motive := fun _ => AV → List AV → HS → (AV → HS → RT) → RT) (List.rec (motive := fun _ => AV → List AV → HS → (AV → HS → RT) → RT) (fun _ vs => cl (toD4 g) vs) (fun _ _ _ => zCallV cl) b) (fun _ _ _ => zCallV cl) a) (fun _ _ => zCallV cl) (fun _ _ => zCallV cl) (fun _ _ _ => zCallV cl) () (fun _ _ _ _ => ())
def callX (cl : CL) (x : SX) (v : AV) (vs : List AV) : ZK := SX.rec (motive := fun _ => ZK) (fun _ => zCallV cl v vs) (fun u => callC2 cl u v vs) x
def okK (ρ : EV) (k : SK) : Bool := SK.rec (motive := fun _ => Bool) (fun x => okX ρ x) (fun c a b => Bool.rec (motive := fun _ => Bool) false (Bool.rec (motive := fun _ => Bool) false (okX ρ b) (okX ρ a)) (okX ρ c)) (fun _ x y => Bool.rec (motive := fun _ => Bool) false (okX ρ y) (okX ρ x)) (fun _ x y => Bool.rec (motive := fun _ => Bool) false (okX ρ y) (okX ρ x)) (fun _ _ x => okX ρ x) (fun _ x => okX ρ x) (fun x _ => okX ρ x) (fun x i _ _ => Bool.rec (motive := fun _ => Bool) false (okX ρ i) (okX ρ x)) (fun x _ => okX ρ x) (fun x _ _ => okX ρ x) (fun x _ => okX ρ x) (fun x _ => okX ρ x) (fun x => okX ρ x) (fun _ x => okX ρ x) (fun x => okX ρ x) (fun x => okX ρ x) (fun _ ps => okP ρ ps) (fun _ a b => Bool.rec (motive := fun _ => Bool) false (okXs ρ b) (okXs ρ a)) (fun x lo hi _ => Bool.rec (motive := fun _ => Bool) false (Bool.rec (motive := fun _ => Bool) false (okI ρ hi) (okI ρ lo)) (okX ρ x)) (fun x lo hi => Bool.rec (motive := fun _ => Bool) false (Bool.rec (motive := fun _ => Bool) false (okI ρ hi) (okI ρ lo)) (okX ρ x)) (fun x => okX ρ x) (fun x => okX ρ x) (fun _ _ _ ps => okP ρ ps) (fun x a => Bool.rec (motive := fun _ => Bool) false (okXs ρ a) (okX ρ x)) (fun _ l => okXs ρ l) (true) (fun _ x => okX ρ x) (fun _ _ => true) (fun x v _ => Bool.rec (motive := fun _ => Bool) false (okX ρ v) (okX ρ x)) (fun _ _ x y => Bool.rec (motive := fun _ => Bool) false (okX ρ y) (okX ρ x)) (fun _ _ x y => Bool.rec (motive := fun _ => Bool) false (okX ρ y) (okX ρ x)) (fun _ _ x y => Bool.rec (motive := fun _ => Bool) false (okX ρ y) (okX ρ x)) (fun _ _ x y => Bool.rec (motive := fun _ => Bool) false (okX ρ y) (okX ρ x)) (fun _ _ _ x y => Bool.rec (motive := fun _ => Bool) false (okX ρ y) (okX ρ x)) (fun x _ lo hi _ => Bool.rec (motive := fun _ => Bool) false (Bool.rec (motive := fun _ => Bool) false (okI ρ hi) (okI ρ lo)) (okX ρ x)) (fun x => okX ρ x) (fun x i => Bool.rec (motive := fun _ => Bool) false (okX ρ i) (okX ρ x)) (fun x i _ _ _ => Bool.rec (motive := fun _ => Bool) false (okX ρ i) (okX ρ x)) (fun _ x y => Bool.rec (motive := fun _ => Bool) false (okX ρ y) (okX ρ x)) (fun _ _ _ ps => okP ρ ps) (fun _ _ _ _ x y => Bool.rec (motive := fun _ => Bool) false (okX ρ y) (okX ρ x)) (fun _ x => okX ρ x) (true) (fun _ _ x y _ => Bool.rec (motive := fun _ => Bool) false (okX ρ y) (okX ρ x)) (fun _ x y v => Bool.rec (motive := fun _ => Bool) false (Bool.rec (motive := fun _ => Bool) false (okX ρ v) (okX ρ y)) (okX ρ x)) (fun _ _ x y => Bool.rec (motive := fun _ => Bool) false (okX ρ y) (okX ρ x)) (fun _ x => okX ρ x) (fun _ _ x => okX ρ x) (fun _ x a => Bool.rec (motive := fun _ => Bool) false (okXs ρ a) (okX ρ x)) (fun _ _ x => okX ρ x) k
def regX (x : SX) : Nat := SX.rec (motive := fun _ => Nat) (fun t => t) (fun _ => 512) x
def remD (cl : CL) (op : BinOp) (t : Nat) (a b : AV) : DK3 := BinOp.rec (motive := fun _ => DK3) (.val (bAdd a b)) (.val (bSub a b)) (.val (bMul a b)) (.val (bQuo a b)) (.heap (cl .rem [a, b, .int .i64 (.ofNat t)])) (.val (bAnd a b)) (.val (bOr a b)) (.val (bXor a b)) (.val (bShl a b)) (.val (bShr a b)) (.val (bAndNot a b)) (.val (bEqF a b)) (.val (bEqT a b)) (.val (bLt a b)) (.val (bLe a b)) (.val (bGt a b)) (.val (bGe a b)) op
def askQ (ρ : EV) (n : Nat) : Bool := Option.rec (motive := fun _ => Bool) false (fun _ => true) (lkE (Nat.add 600 n) ρ)
def binD (cl : CL) (ρ : EV) (op : BinOp) (t : Nat) (a b : AV) : DK3 := Bool.rec (motive := fun _ => DK3) (remD cl op t a b) (.heap (cl .rem [a, b, .int .i64 (.ofNat t), .int .i64 (.ofNat (opN op))])) (askQ ρ (opN op))
def cvD (cl : CL) (ρ : EV) (k : IntKind) (t : Nat) (v : AV) : DK3 := Bool.rec (motive := fun _ => DK3) (.val (vCv k v)) (.heap (cl .rem [v, .int k (.ofNat 0), .int .i64 (.ofNat t), .int .i64 (.ofNat 20)])) (askQ ρ 20)
def mkQ (q : List Nat) : EV := List.rec (motive := fun _ => EV) [] (fun n _ ih => (Nat.add 600 n, .undef) :: ih) q
def kD0 (cl : CL) (ρ : EV) (k : SK) : DK3 := SK.rec (motive := fun _ => DK3) (fun x => .known (xvE ρ x)) (fun c a b => .val (vPick (xvE ρ c) (xvE ρ a) (xvE ρ b))) (fun op x y => binD cl ρ op (regX x) (xvE ρ x) (xvE ρ y)) (fun n x y => .val (vBeq n (xvE ρ x) (xvE ρ y))) (fun n k x => .val (vNil n k (xvE ρ x))) (fun o x => .val (vGen (.un o (.c (xvE ρ x))))) (fun x o => .val (fa1 (xvE ρ x) o)) (fun x i n s => .val (vIa (xvE ρ x) (xvE ρ i) n s)) (fun x m => .heap (ldA (xvE ρ x) (takeC m))) (fun x o m => .val (vFld (xvE ρ x) o (takeC m))) (fun x i => .val (vExt (xvE ρ x) i)) (fun x n => Option.rec (motive := fun _ => DK3) (.val (vLenS (xvE ρ x))) (fun n => .known (.int .i64 (.ofNat n))) n) (fun x => .val (vLens (xvE ρ x))) (fun k x => cvD cl ρ k (regX x) (xvE ρ x)) (fun x => .val (vGen (.ss (.c (xvE ρ x))))) (fun x => .val (vChk (xvE ρ x))) (fun z ps => .val (vBld z (fillE ρ ps))) (fun f a b => .val (vGen (.mkf f (csE ρ a) (csE ρ b)))) (fun x lo hi s => .val (vSlt (xvE ρ x) (oiE ρ lo) (oiE ρ hi) s)) (fun x lo hi => .val (vGen (.sls (.c (xvE ρ x)) (coE ρ lo) (coE ρ hi)))) (fun x => .heap (b2sA (xvE ρ x))) (fun x => .heap (zTbox (xvE ρ x))) (fun z s n ps => .heap (zBsl z s n (fillE ρ ps))) (fun x a => .heap (callX cl x (xvE ρ x) (xsE ρ a))) (fun m l => .val (vGen (.mnx m (csE ρ l)))) (.val (fun _ => none)) (fun e x => .heap (zBox e (xvE ρ x))) (fun e z => .heap (boxD e z)) (fun x v n => .heap (zSt (xvE ρ x) (xvE ρ v) n)) (fun s b x y => .heap (appB s b (xvE ρ x) (xvE ρ y))) (fun s b x y => .heap (zAps s b (xvE ρ x) (xvE ρ y))) (fun s b x y => .heap (zTree (appB s b (xvE ρ x) (xvE ρ y)))) (fun s b x y => .heap (zTree (zAps s b (xvE ρ x) (xvE ρ y)))) (fun s b z x y => .heap (zApz s b z (xvE ρ x) (xvE ρ y))) (fun x n lo hi s => .heap (zSla (xvE ρ x) n (oiE ρ lo) (oiE ρ hi) s)) (fun x => .heap (zCvs (xvE ρ x))) (fun x i => .val (vIxs (xvE ρ x) (xvE ρ i))) (fun x i n s g => .val (vGen (.ixa (.c (xvE ρ x)) (.c (xvE ρ i)) n s g))) (fun s x y => .heap (zCpy s (xvE ρ x) (xvE ρ y))) (fun z s n ps => .heap (zHbs z s n (fillE ρ ps))) (fun ro z s b x y => .heap (zMks ro z s b (xvE ρ x) (xvE ρ y))) (fun ro x => .heap (zS2b ro (xvE ρ x))) (.heap zMkm) (fun q z x y ok => .heap (zLku q z (xvE ρ x) (xvE ρ y) ok)) (fun q x y v => .heap (zMup q (xvE ρ x) (xvE ρ y) (xvE ρ v))) (fun n o x y => .val (vGen (.eqs n o (.c (xvE ρ x)) (.c (xvE ρ y))))) (fun t x => .known (.ifc t (xvE ρ x))) (fun t ok x => .val (vTas t ok (xvE ρ x))) (fun l x a => .heap (zInv l (xvE ρ x) (xsE ρ a) cl)) (fun s z x => .heap (zClr s z (xvE ρ x))) k
def kD (cl : CL) (ρ : EV) (k : SK) : DK3 := Bool.rec (motive := fun _ => DK3) (.val fun _ => none) (kD0 cl ρ k) (okK ρ k)
def bindE (d : Option Nat) (v : AV) (ρ : EV) : EV := Option.rec (motive := fun _ => EV) ρ (fun d => (d, v) :: ρ) d
def gK (g : AV) (w : Bool) (v : AV) (K : AV → RT) : RT := wantV g w (K v) (K .undef)
def gV (g : AV) (w : Bool) (h : VK) (K : AV → RT) : RT := wantV g w (h K) (K .undef)
def gH (g : AV) (w : Bool) (h : ZK) (s : HS) (K : AV → HS → RT) : RT := wantV g w (h s K) (K .undef s)
def stepE (cl : CL) (o : SO) (ρ : EV) (s : HS) (K : EV → HS → RT) : RT := SO.rec (motive := fun _ => RT) (fun dst g k => Option.rec (motive := fun _ => RT)
  (DK3.rec (motive := fun _ => RT) (fun v => K (bindE dst v ρ) s) (fun h => h fun v => K (bindE dst v ρ) s) (fun h => h s fun v s => K (bindE dst v ρ) s) (kD cl ρ k))
  (fun g => Bool.rec (motive := fun _ => RT) none (DK3.rec (motive := fun _ => RT) (fun u => gK (xrE ρ g.1) g.2 u fun v => K (bindE dst v ρ) s) (fun h => gV (xrE ρ g.1) g.2 h fun v => K (bindE dst v ρ) s) (fun h => gH (xrE ρ g.1) g.2 h s fun v s => K (bindE dst v ρ) s) (kD cl ρ k)) (okR ρ g.1)) g) o
abbrev OE := EV → HS → (EV → HS → RT) → RT
def opsE (cl : CL) (l : List SO) : OE := List.rec (motive := fun _ => OE) (fun ρ s K => K ρ s) (fun o _ ih ρ s K => stepE cl o ρ s fun ρ s => ih ρ s K) l
def zK (v : AV) : ZK := fun s K => K v s
def zV (h : VK) : ZK := fun s K => h fun v => K v s
def zG (g : AV) (w : Bool) (z : ZK) : ZK := fun s K => wantV g w (z s K) (K .undef s)
def dZ (d : DK3) : ZK := DK3.rec (motive := fun _ => ZK) zK zV (fun h => h) d
def stepZ (cl : CL) (o : SO) (ρ : EV) : ZK := SO.rec (motive := fun _ => ZK) (fun _ g k => Option.rec (motive := fun _ => ZK) (dZ (kD cl ρ k)) (fun g => Bool.rec (motive := fun _ => ZK) (fun _ _ => none) (zG (xrE ρ g.1) g.2 (dZ (kD cl ρ k))) (okR ρ g.1)) g) o
def qNoE : QA := fun _ e => e
def qLdE (v : AV) (m : Nat) : QA := fun k e => ptrQ v (fun id off => k id off m) e
def qGE (g : AV) (w : Bool) (q : QA) : QA := fun k e => wantV g w (q k e) e
def kQE (ρ : EV) (k : SK) : QA := SK.rec (motive := fun _ => QA) (fun _ => qNoE) (fun _ _ _ => qNoE) (fun _ _ _ => qNoE) (fun _ _ _ => qNoE) (fun _ _ _ => qNoE) (fun _ _ => qNoE) (fun _ _ => qNoE) (fun _ _ _ _ => qNoE) (fun x m => qLdE (xvE ρ x) (nOf m)) (fun _ _ _ => qNoE) (fun _ _ => qNoE) (fun _ _ => qNoE) (fun _ => qNoE) (fun _ _ => qNoE) (fun _ => qNoE) (fun _ => qNoE) (fun _ _ => qNoE) (fun _ _ _ => qNoE) (fun _ _ _ _ => qNoE) (fun _ _ _ => qNoE) (fun _ => qNoE) (fun _ => qNoE) (fun _ _ _ _ => qNoE) (fun _ _ => qNoE) (fun _ _ => qNoE) qNoE (fun _ _ => qNoE) (fun _ _ => qNoE) (fun _ _ _ => qNoE) (fun _ _ _ _ => qNoE) (fun _ _ _ _ => qNoE) (fun _ _ _ _ => qNoE) (fun _ _ _ _ => qNoE) (fun _ _ _ _ _ => qNoE) (fun _ _ _ _ _ => qNoE) (fun _ => qNoE) (fun _ _ => qNoE) (fun _ _ _ _ _ => qNoE) (fun _ _ _ => qNoE) (fun _ _ _ _ => qNoE) (fun _ _ _ _ _ _ => qNoE) (fun _ _ => qNoE) qNoE (fun _ _ _ _ _ => qNoE) (fun _ _ _ _ => qNoE) (fun _ _ _ _ => qNoE) (fun _ _ => qNoE) (fun _ _ _ => qNoE) (fun _ _ _ => qNoE) (fun _ _ _ => qNoE) k
def soQE (ρ : EV) (o : SO) : QA := SO.rec (motive := fun _ => QA) (fun _ g k => Option.rec (motive := fun _ => QA) (kQE ρ k) (fun g => qGE (xrE ρ g.1) g.2 (kQE ρ k)) g) o
def lgE (q : QA) (z : ZK) (s : HS) (K : AV → LE → HS → RT) : RT := HS.rec (motive := fun _ => RT) (fun h n bx thr rd wr mw => z ⟨h, n, bx, n, [], [], mw⟩ fun v s' => HS.rec (motive := fun _ => RT) (fun h' n' bx _ rd' wr' mw => mergeC rd' thr rd fun rd => mergeC wr' thr wr fun wr => K v ⟨rd', wr', n, n', q, h, h'⟩ ⟨h', n', bx, thr, rd, wr, mw⟩) s') s
abbrev LGE := EV → HS → (List LE → EV → HS → RT) → RT
def logE (cl : CL) (l : List SO) : LGE := List.rec (motive := fun _ => LGE) (fun ρ s K => K [] ρ s) (fun o _ ih ρ s K => lgE (soQE ρ o) (stepZ cl o ρ) s fun v e s => ih (bindE o.dst v ρ) s fun es ρ s => K (e :: es) ρ s) l
def calmE (ps : List (Nat × Nat)) (es : List LE) (K : HS → RT) (s : HS) : RT := Bool.rec (motive := fun _ => RT) (excC es (K s) ps) (K s) (calmB es ps)
def regE (cl : CL) (ps : List (Nat × Nat)) (l : List SO) : OE := fun ρ s K => List.rec (motive := fun _ => RT) (opsE cl l ρ s K) (fun _ _ _ => logE cl l ρ s fun es ρ s => calmE ps es (fun s => K ρ s) s) ps
def catN (a b : List Nat) : List Nat := List.rec (motive := fun _ => List Nat) b (fun x _ ih => x :: ih) a
def dstL (l : List SO) : List Nat := List.rec (motive := fun _ => List Nat) [] (fun o _ ih => Option.rec (motive := fun _ => List Nat) ih (fun d => d :: ih) o.dst) l
def asgE (c : EJ) : List Nat := EJ.rec (motive := fun _ => List Nat) [] (fun _ l => dstL l) (fun _ _ a b => catN a b) (fun _ _ _ _ a b => catN a b) (fun _ _ _ b => b) (fun _ _ b => b) (fun _ => []) [] [] c
def fallsE (c : EJ) : Bool := EJ.rec (motive := fun _ => Bool) true (fun _ _ => true) (fun _ _ a b => Bool.rec (motive := fun _ => Bool) false b a) (fun _ _ _ _ a b => Bool.rec (motive := fun _ => Bool) b true a) (fun _ _ _ _ => true) (fun _ _ _ => false) (fun _ => false) false false c
def lessE (a : List Nat) : EV → EV := List.rec (motive := fun _ => EV) [] (fun p _ ih => Bool.rec (motive := fun _ => EV) (p :: ih) ih (memB a p.1))
abbrev KJ := List AV → HS → RT
def jvE (ρ : EV) (j : List Nat) : List AV := List.rec (motive := fun _ => List AV) [] (fun t _ ih => xrE ρ t :: ih) j
def okJ (ρ : EV) (j : List Nat) : Bool := List.rec (motive := fun _ => Bool) true (fun t _ ih => Bool.rec (motive := fun _ => Bool) false ih (okR ρ t)) j
def goE (j : List Nat) (ρ : EV) (K : KJ) (s : HS) : RT := Bool.rec (motive := fun _ => RT) none (K (jvE ρ j) s) (okJ ρ j)
abbrev PO := List AV → EV → (EV → List AV → RT) → RT
def popsE (j : List Nat) : PO := List.rec (motive := fun _ => PO) (fun vs ρ f => f ρ vs) (fun t _ ih vs ρ f => pop vs fun v vs => ih vs ((t, v) :: ρ) f) j
def joinE (j asg : List Nat) (ρ : EV) (K : EV → HS → RT) : KJ := fun vs s => popsE j vs (lessE asg ρ) fun ρ _ => K ρ s
abbrev CX := List (Nat × List Nat × KJ)
def exitE (id : Nat) (cx : CX) (ρ : EV) (s : HS) : RT := List.rec (motive := fun _ => RT) none (fun p _ ih => Bool.rec (motive := fun _ => RT) ih (goE p.2.1 ρ p.2.2 s) (Nat.beq id p.1)) cx
def jn (K : KJ) (f : KJ → RT) : RT := f K
def cnd (v : AV) (a b : RT) : RT := asBool v fun c => Bool.rec (motive := fun _ => RT) b a c
def loopE (k : Nat) (b : KJ → KJ) : KJ := Nat.rec (motive := fun _ => KJ) (fun _ _ => none) (fun _ ih => b ih) k
def codeE (cl : CL) (k : Nat) (KR : EV → HS → RT) (c : EJ) : CX → OE := EJ.rec (motive := fun _ => CX → OE) (fun _ ρ s K => K ρ s) (fun ps l _ ρ s K => regE cl ps l ρ s K) (fun _ _ ia ib cx ρ s K => ia cx ρ s fun ρ s => ib cx ρ s K)
  (fun x j a b ia ib cx ρ s K => Bool.rec (motive := fun _ => RT) none (Bool.rec (motive := fun _ => RT) (cnd (xvE ρ x) (ia cx ρ s K) (ib cx ρ s K)) (jn (joinE j (catN (asgE a) (asgE b)) ρ K) fun Kj => cnd (xvE ρ x) (ia cx ρ s fun ρ s => goE j ρ Kj s) (ib cx ρ s fun ρ s => goE j ρ Kj s)) (Bool.rec (motive := fun _ => Bool) false (fallsE b) (fallsE a))) (okX ρ x))
  (fun id j b ib cx ρ s K => jn (joinE j (asgE b) ρ K) fun Kj => ib ((id, j, Kj) :: cx) ρ s fun ρ s => goE j ρ Kj s)
  (fun j b ib cx ρ s _ => goE j ρ (loopE k fun rc vs s => popsE j vs (lessE (asgE b) ρ) fun ρ _ => ib cx ρ s fun ρ s => goE j ρ rc s) s)
  (fun id cx ρ s _ => exitE id cx ρ s) (fun _ ρ s _ => KR ρ s) (fun _ _ _ _ => none) c
def okRs (ρ : EV) (l : List RSv) : Bool := List.rec (motive := fun _ => Bool) true (fun x _ ih => Bool.rec (motive := fun _ => Bool) false ih (RSv.rec (motive := fun _ => Bool) (fun t => okR ρ t) (fun t _ => okR ρ t) x)) l
def rXE (ρ : EV) (x : RSv) : ZK := RSv.rec (motive := fun _ => ZK) (fun t => zK (xrE ρ t)) (fun t m => ldA (xrE ρ t) (takeC m)) x
def rQE (ρ : EV) (l : List RSv) : HS → (List AV → HS → RT) → RT := List.rec (motive := fun _ => HS → (List AV → HS → RT) → RT) (fun s K => K [] s) (fun x _ ih s K => RSv.rec (motive := fun _ => RT) (fun t => ih s fun vs s => K (xrE ρ t :: vs) s) (fun t m => ldA (xrE ρ t) (takeC m) s fun v s => ih s fun vs s => K (v :: vs) s) x) l
def rsE (ρ : EV) (l : List RSv) (s : HS) (K : AV → HS → RT) : RT := List.rec (motive := fun _ => RT) (K (.tup []) s) (fun x r _ => List.rec (motive := fun _ => RT) (RSv.rec (motive := fun _ => RT) (fun t => K (xrE ρ t) s) (fun t m => ldA (xrE ρ t) (takeC m) s K) x) (fun _ _ _ => rQE ρ l s fun vs s => K (.tup vs) s) r) l
def rtE (l : List RSv) (fz : Bool) (K : AV → HS → RT) (ρ : EV) (s : HS) : RT := Bool.rec (motive := fun _ => RT) none (Bool.rec (motive := fun _ => RT) (rsE ρ l s K) (rsE ρ l s fun v s => frzN 1000 v s K) fz) (okRs ρ l)
def fnQ (q : List Nat) (j : List Nat) (c : EJ) (l : List RSv) (fz : Bool) : F2C := fun cl k vs s K => popsE j vs (mkQ q) fun ρ vs => endE vs (codeE cl k (rtE l fz K) c [] ρ s (rtE l fz K))
def aloneE (code : F2C) (cl : CL) (k : Nat) (vs : List AV) (s : HS) (K : AV → HS → RT) : RT := code cl k vs hs0 fun v _ => Bool.rec (motive := fun _ => RT) none (K v s) (treeB v)
def withE (code : F2C) (still : Bool) (cl : CL) (k : Nat) (vs : List AV) (s : HS) (K : AV → HS → RT) : RT := HS.rec (motive := fun _ => RT) (fun h n bx thr rd wr mw => code cl k vs ⟨h, n, [], thr, rd, wr, n⟩ fun v s1 => HS.rec (motive := fun _ => RT) (fun h1 n1 bx1 _ rd wr mw1 => ridsC n bx1 h1 fun h2 =>
  Bool.rec (motive := fun _ => RT) (Bool.rec (motive := fun _ => RT) (K v ⟨h2, n1, bx, thr, rd, wr, mw⟩) (Bool.rec (motive := fun _ => RT) (Bool.rec (motive := fun _ => RT) (K v ⟨h2, n1, bx, thr, rd, wr, mw⟩) (K v ⟨h, n1, bx, thr, rd, wr, mw⟩) (treeB v)) (K v ⟨h2, n1, bx, thr, rd, wr, mw⟩) (topB n h2)) still)
    (minC mw mw1 fun mw => K v ⟨h2, n1, bx, thr, rd, wr, mw⟩) (Nat.ble (Nat.succ mw1) n)) s1) s
def idxC (c : Nat) : List UInt8 → Nat → (Int → RT) → RT := List.rec (motive := fun _ => Nat → (Int → RT) → RT) (fun _ k => k (-1)) (fun b _ ih i k => Bool.rec (motive := fun _ => RT) (forceN (Nat.succ i) fun i => ih i k) (k (.ofNat i)) (Nat.beq b.toNat c))
def extC (e : EK) (vs : List AV) : ZK := fun s K => EK.rec (motive := fun _ => RT) (pop vs fun a vs => pop vs fun b vs => endE vs (asStr a fun t => asInt b fun k c => natOf c fun c => Bool.rec (motive := fun _ => RT) none (idxC (Nat.mod c 256) t 0 fun i => K (.int .i64 i) s) (Nat.beq (kI k) 4)))
  (pop vs fun a vs => endE vs (asIfc a fun t w => asMap w fun id => mget id s fun o s => mapC o fun es => mnew (.map es) s fun id s => K (.ifc t (.map id)) s)) e
def callF (e : F2) (cl : CL) (k : Nat) (vs : List AV) (s : HS) (K : AV → HS → RT) : RT := F2.rec (motive := fun _ => RT) (fun code still => withE code still cl k vs s K) (fun code still memo => memo vs (fun v => K v s) (Bool.rec (motive := fun _ => RT) (withE code still cl k vs s K) (aloneE code cl k vs s K) (treesB vs))) (fun e still => withE (fun _ _ vs s K => extC e vs s K) still cl k vs s K) e
def get4E (q : D4) (T : TB2) (k : F2 → RT) : RT := D4.rec (motive := fun _ => RT) (fun a b c d => a.s T fun T => b.s T fun T => c.s T fun T => d.s T (orN k)) none none q
def remQ (q : D4) (vs : List AV) (s : HS) (K : AV → HS → RT) (x : RT) : RT := D4.rec (motive := fun _ => RT) (fun _ _ _ _ => x) x (remV vs fun v => K v s) q
def callE (T : TB2) (k : Nat) : CL := Nat.rec (motive := fun _ => CL) (fun _ _ _ _ => none) (fun k ih q vs s K => remQ q vs s K (get4E q T fun e => callF e ih k vs s K)) k
def runE (k : Nat) (T : TB2) (f : Nat) (vs : List AV) : RT := callE T k (toD4 f) vs hs0 fun v _ => some v
abbrev ci (n : Nat) : AV := .int .i64 (.ofNat n)
abbrev cj (n : Nat) : AV := .int .i32 (.ofNat n)
abbrev cu (n : Nat) : AV := .int .u8 (.ofNat n)
abbrev ct : AV := .bool true
abbrev cf : AV := .bool false
def annJ : EC → List JJ → Option (EJ × List JJ)
  | .skip, l => some (.skip, l)
  | .reg ps o, l => some (.reg ps o, l)
  | .seq a b, l => match annJ a l with
    | some (a, l) => match annJ b l with
      | some (b, l) => some (.seq a b, l)
      | none => none
    | none => none
  | .cond x a b, l => match l with
    | .j j :: l => match annJ a l with
      | some (a, l) => match annJ b l with
        | some (b, l) => some (.cond x j a b, l)
        | none => none
      | none => none
    | .cl :: l => match annJ b l with
      | some (b, l) => some (.cond x [] .hole b, l)
      | none => none
    | .cr :: l => match annJ a l with
      | some (a, l) => some (.cond x [] a .hole, l)
      | none => none
    | .ch :: l => some (.hole, l)
    | [] => none
  | .block id b, l => match l with
    | .j j :: l => match annJ b l with
      | some (b, l) => some (.block id j b, l)
      | none => none
    | _ => none
  | .loop b, l => match l with
    | .j j :: l => match annJ b l with
      | some (b, l) => some (.loop j b, l)
      | none => none
    | _ => none
  | .exit id, l => some (.exit id, l)
  | .ret, l => some (.ret, l)
def feQ (P : Program) (A : Ann) (f np : Nat) (an : List JJ) (q : List Nat) : Option F2 := match P.funcs[f]? with
  | some fn => match fn.body.bind (ecC P A f), rsOf P fn.results.toList with
    | some c, some r => match annJ c an with
      | some (e, _) => if fn.name != "runtime.NumGoroutine" && dok fn.ntmps c && Nat.ble fn.ntmps 512 && Nat.ble np fn.ntmps then
          some (if A.pure f then .pur (fnQ q (List.range np) e r (A.fz f)) (A.still f) mNo else .fn (fnQ q (List.range np) e r (A.fz f)) (A.still f)) else none
      | none => none
    | _, _ => none
  | none => none
abbrev feE (P : Program) (A : Ann) (f np : Nat) (an : List JJ) : Option F2 := feQ P A f np an []
end
end Go.Abs
