/- Numbers that are not known: sums, products and comparisons answered from outside, at every depth. -/
import Derived.Test.YtpkplkccncfkgaaGreatAbsXd
namespace Go.Abs
noncomputable section
def natV (v : AV) : Nat := AV.rec (motive_1 := fun _ => Nat) (motive_2 := fun _ => Unit) (fun _ => 999) (fun _ n => Int.rec (motive := fun _ => Nat) (fun n => n) (fun _ => 999) n) (fun _ => 999) (fun _ => 999) (fun _ _ => 999) (fun _ _ _ => 999) (fun _ _ _ _ => 999) (fun _ _ _ => 999) (fun _ => 999) (fun _ _ _ _ _ => 999) (fun _ _ => 999) (fun _ _ => 999) (fun _ _ _ => 999) () (fun _ _ _ _ => ()) v
def fth0 : List AV → AV := List.rec (motive := fun _ => AV) .undef fun _ l _ => thd0 l
/- the questions go to o -/
def orAsk (o : OA) (cl : CL) : CL := fun q vs s K => D4.rec (motive := fun _ => RT) (fun _ _ _ _ => cl q vs s K) (cl q vs s K) (o vs s K) q
/- by itself -/
def askD : OA := fun vs s K => remV vs fun v => K v s
/- those of the number n go to o -/
def askN (n : Nat) (o o' : OA) : OA := fun vs s K => Bool.rec (motive := fun _ => RT) (o' vs s K) (o vs s K) (Nat.beq (natV (fth0 vs)) n)
/- a sum, a product of two numbers of one kind -/
def askF (n : Nat) (F : IntKind → Int → Int → Int) : OA := fun vs s K => pop vs fun a vs => pop vs fun b vs => pop vs fun _ vs => pop vs fun o vs => endE vs (asInt o fun _ i => natOf i fun m => asInt a fun k x => asInt b fun k' y =>
  Bool.rec (motive := fun _ => RT) none (Bool.rec (motive := fun _ => RT) none (K (.int k (F k x y)) s) (Nat.beq (kI k) (kI k'))) (Nat.beq m n))
/- calls, asked at every depth -/
def callAsk (o : OA) (T : TB2) (k : Nat) : CL := Nat.rec (motive := fun _ => CL) (fun _ _ _ _ => none) (fun k ih => orAsk o fun q vs s K => remQ q vs s K (get4E q T fun e => callF e ih k vs s K)) k
def runAsk (o : OA) (k : Nat) (T : TB2) (f : Nat) (vs : List AV) : RT := callAsk o T k (toD4 f) vs hs0 fun v _ => some v
/- what was asked, one behind the other -/
def chk (T : List AV → Bool) (qs : List (List AV)) : RT := List.rec (motive := fun _ => RT) (some (.bool true)) (fun q _ ih => Bool.rec (motive := fun _ => RT) none ih (T q)) qs
theorem chk_true {T : List AV → Bool} : ∀ {qs : List (List AV)}, (∀ q ∈ qs, T q = true) → chk T qs = some (.bool true)
  | [], _ => rfl
  | q :: qs, h => by
    show Bool.rec (motive := fun _ => RT) none (chk T qs) (T q) = _
    rw [h q (by simp)]
    exact chk_true fun q hq => h q (by simp [hq])

variable {P : Program} {A : Ann}
theorem orAsk_ok {o : OA} {cl : CL} (ho : ORok o) (hc : CLok P A cl) : CLok P A (orAsk o cl) := by
  refine ⟨fun r g vs s K h n hr x => hc.1 _ _ _ _ _ _ _ hr ?_, fun r vs s K x => ho _ _ _ _ x⟩
  unfold orAsk toD4 at x
  unfold toD4
  cases hb : Nat.ble g 4095 <;> (rw [hb] at x; exact x)
theorem askD_ok : ORok askD := fun _ _ _ _ x => x
theorem askN_ok {n : Nat} {o o' : OA} (h : ORok o) (h' : ORok o') : ORok (askN n o o') := by
  intro vs s K r x
  rcases br_b x with ⟨_, x⟩ | ⟨_, x⟩
  · exact h' _ _ _ _ x
  · exact h _ _ _ _ x
theorem callAsk_ok {o : OA} (ho : ORok o) {T : TB2} (hT : TBok2 P A T) : ∀ k, CLok P A (callAsk o T k)
  | 0 => ⟨fun r g vs s K h n hr e => (nn e).elim, fun r vs s K e => (nn e).elim⟩
  | k + 1 => orAsk_ok ho ⟨fun r g vs s K h n hr x => by
    replace x : remQ (toD4 g) vs s K (get4E (toD4 g) T fun e => callF e (callAsk o T k) k vs s K) = some r := x
    have x : get4E (toD4 g) T (fun e => callF e (callAsk o T k) k vs s K) = some r := by
      unfold toD4 at x ⊢
      cases hb : Nat.ble g 4095 <;> (rw [hb] at x; exact x)
    obtain ⟨e, he, x⟩ := hT _ _ _ x
    exact callF_ok he (callAsk_ok ho hT k) hr x, fun r vs s K x => x⟩
theorem runAsk_ok {o : OA} (ho : ORok o) {T : TB2} (hT : TBok2 P A T) {k g : Nat} {vs : List AV} {v : AV} (x : runAsk o k T g vs = some v) : ∃ k h' n' lg, callN P A k g vs (fun _ => none) 0 = some (v, h', n', lg) := by
  obtain ⟨w, h', n', lg, s1, ⟨k0, hk⟩, _, e⟩ := (callAsk_ok ho hT k).1 _ g vs hs0 (fun v _ => some v) (fun _ => none) 0 ⟨fun _ => rfl, trivial, rfl, Nat.le_refl _, Nat.le_refl _⟩ x
  have : w = v := by simpa using e
  subst this
  exact ⟨k0, h', n', lg, hk k0 (Nat.le_refl _)⟩

/- the right answers -/
def TQ (v : AV) (vs : List AV) : Bool := @decide (∀ K : AV → RT, remV vs K = K v) (Classical.propDecidable _)
theorem tq_ok (v : AV) : ORok (orP (TQ v) v) := by
  intro vs s K r e
  obtain ⟨hv, e⟩ := br_t e
  rw [@of_decide_eq_true _ (Classical.propDecidable _) hv]
  exact e
theorem tq_of {v : AV} {vs : List AV} (h : ∀ K : AV → RT, remV vs K = K v) : TQ v vs = true := @decide_eq_true _ (Classical.propDecidable _) h
theorem tq_ne {k : IntKind} {x y : Int} (t : AV) (h : x = y) : TQ (.bool false) [.int k x, .int k y, t, ci 12] = true := tq_of fun K => by
  subst h
  show Bool.rec (motive := fun _ => RT) none (tn true K (eqI x x)) (Nat.beq (kI k) (kI k)) = _
  rw [Nat.beq_refl]
  show tn true K (eqI x x) = _
  rw [tn_eq, eqI_eq]
  simp
theorem tq_ns {s : List UInt8} (t : AV) : TQ (.bool false) [.str s, .str s, t, ci 12] = true := tq_of fun K => by
  show tn true K (eqL s s) = _
  rw [tn_eq, eqL_eq]
  simp
theorem asNat_el {v : AV} {r : AV} {c : IntKind → Int → RT} (h : asInt v c = some r) : ∃ k n, v = .int k n ∧ c k n = some r := asInt_el h
theorem natOf_el' {i : Int} {c : Nat → RT} {r : AV} (h : natOf i c = some r) : ∃ m : Nat, i = .ofNat m ∧ c m = some r := by
  cases i with
  | ofNat m => exact ⟨m, rfl, h⟩
  | negSucc m => exact (nn h).elim
theorem askF_ok {n : Nat} {F : IntKind → Int → Int → Int} (h : ∀ k x y (K : AV → RT), binQ n (.int k x) (.int k y) K = K (.int k (F k x y))) (h20 : n ≠ 20) : ORok (askF n F) := by
  intro vs s K r e
  replace e := pop_el e
  obtain ⟨a, l1, rfl, e⟩ := e
  replace e := pop_el e
  obtain ⟨b, l2, rfl, e⟩ := e
  replace e := pop_el e
  obtain ⟨c, l3, rfl, e⟩ := e
  replace e := pop_el e
  obtain ⟨o, l4, rfl, e⟩ := e
  replace e := end_el e
  obtain ⟨rfl, e⟩ := e
  replace e := asInt_el e
  obtain ⟨k0, i, rfl, e⟩ := e
  replace e := natOf_el' e
  obtain ⟨m, rfl, e⟩ := e
  replace e := asInt_el e
  obtain ⟨k, x, rfl, e⟩ := e
  replace e := asInt_el e
  obtain ⟨k', y, rfl, e⟩ := e
  replace e := br_t e
  obtain ⟨h1, e⟩ := e
  replace e := br_t e
  obtain ⟨h2, e⟩ := e
  have hk := kI_inj (beq_eq h2)
  have hm := beq_eq h1
  subst hk
  subst hm
  show Bool.rec (motive := fun _ => RT) (binQ m (.int k x) (.int k y) fun v => K v s) (asInt (.int k y) fun k' _ => cvQ k' (.int k x) fun v => K v s) (Nat.beq m 20) = some r
  have : Nat.beq m 20 = false := by
    cases hb : Nat.beq m 20 with
    | false => rfl
    | true => exact absurd (beq_eq hb) h20
  rw [this]
  show binQ m (.int k x) (.int k y) (fun v => K v s) = some r
  rw [h]
  exact e
theorem slowB_of {op : BinOp} {a b v : AV} (h : bin2B op a b = some v) (K : AV → RT) : slowB op a b K = K v := by
  unfold slowB
  rw [h]
  exact forceV_eq _ _
theorem add_ok (k : IntKind) (x y : Int) (K : AV → RT) : binQ 0 (.int k x) (.int k y) K = K (.int k (k.wrap (x + y))) := by
  show Bool.rec (motive := fun _ => RT) none (onN .add jAdd k x y K) (Nat.beq (kI k) (kI k)) = _
  rw [Nat.beq_refl]
  have hs : ∀ a b : Int, slowB .add (.int k a) (.int k b) K = K (.int k (k.wrap (a + b))) := fun a b => slowB_of (by simp [bin2B]) K
  cases x with
  | ofNat x => cases y with
    | ofNat y => exact wrapN_eq k _ K
    | negSucc y => exact hs _ _
  | negSucc x => exact hs _ _
theorem mul_ok (k : IntKind) (x y : Int) (K : AV → RT) : binQ 2 (.int k x) (.int k y) K = K (.int k (k.wrap (x * y))) := by
  show Bool.rec (motive := fun _ => RT) none (onN .mul jMul k x y K) (Nat.beq (kI k) (kI k)) = _
  rw [Nat.beq_refl]
  have hs : ∀ a b : Int, slowB .mul (.int k a) (.int k b) K = K (.int k (k.wrap (a * b))) := fun a b => slowB_of (by simp [bin2B]) K
  cases x with
  | ofNat x => cases y with
    | ofNat y => exact wrapN_eq k _ K
    | negSucc y => exact hs _ _
  | negSucc x => exact hs _ _
theorem wrap_wrap (k : IntKind) (z : Int) : k.wrap (k.wrap z) = k.wrap z := by
  cases k <;> simp only [IntKind.wrap, IntKind.bits, IntKind.signed, Bool.true_and, Bool.false_and, Bool.false_eq_true, if_false] <;> (repeat' split) <;> (try simp only [decide_eq_true_eq, ge_iff_le, Int.not_le] at *) <;> omega
abbrev sumF : IntKind → Int → Int → Int := fun k x y => k.wrap (x + y)
abbrev mulF : IntKind → Int → Int → Int := fun k x y => k.wrap (x * y)
end
end Go.Abs
