/- The quick evaluator is sound: operations without an object of their own. -/
import Derived.Test.YtpkplkccncfkgaaGreatAbsEHa
namespace Go.Abs

section
variable {r : AV}

theorem slowB_el {op : BinOp} {a b : AV} {c : AV → RT} (h : slowB op a b c = some r) : ∃ v, bin2B op a b = some v ∧ c v = some r := by
  unfold slowB at h
  cases e : bin2B op a b with
  | none => rw [e] at h; exact (nn h).elim
  | some v =>
    rw [e] at h
    replace h : forceV v c = some r := h
    rw [forceV_eq] at h
    exact ⟨v, rfl, h⟩

def I2ok (op : BinOp) (f : I2) : Prop := ∀ (r : AV) k x y c, f k x y c = some r → ∃ v, bin2B op (.int k x) (.int k y) = some v ∧ c v = some r
def J2ok (op : BinOp) (f : J2) : Prop := ∀ (r : AV) k (x y : Nat) c, f k x y c = some r → ∃ v, bin2B op (.int k x) (.int k y) = some v ∧ c v = some r
def B2ok (op : BinOp) (f : B2) : Prop := ∀ (r : AV) a b c, f a b c = some r → ∃ v, bin2B op a b = some v ∧ c v = some r

theorem b2_ok {op : BinOp} {f : I2} (hf : I2ok op f) : B2ok op (b2 f) := by
  intro r a b c h
  unfold b2 at h
  replace h := asInt_el h
  obtain ⟨k, x, rfl, h⟩ := h
  replace h := asInt_el h
  obtain ⟨k', y, rfl, h⟩ := h
  replace h := br_t h
  obtain ⟨h1, h⟩ := h
  have := kI_inj (beq_eq h1)
  subst this
  exact hf r k x y c h

theorem onN_ok {op : BinOp} {g : J2} (hg : J2ok op g) : I2ok op (onN op g) := by
  intro r k x y c h
  cases x with
  | ofNat x => cases y with
    | ofNat y => exact hg r k x y c h
    | negSucc y => exact slowB_el h
  | negSucc x => exact slowB_el h

theorem jAdd_ok : J2ok .add jAdd := by
  intro r k x y c h
  unfold jAdd at h
  rw [wrapN_eq] at h
  exact ⟨_, by simp only [bin2B, if_true]; rfl, h⟩
theorem jMul_ok : J2ok .mul jMul := by
  intro r k x y c h
  unfold jMul at h
  rw [wrapN_eq] at h
  exact ⟨_, by simp only [bin2B, if_true]; rfl, h⟩
theorem jSub_ok : J2ok .sub jSub := by
  intro r k x y c h
  unfold jSub at h
  rcases br_b h with ⟨_, h⟩ | ⟨h1, h⟩
  · exact slowB_el h
  · rw [wrapN_eq] at h
    refine ⟨_, ?_, h⟩
    have : (Int.ofNat (Nat.sub x y)) = (x : Int) - (y : Int) := Int.ofNat_sub (ble_le h1)
    simp only [bin2B, if_true, this]
theorem jQuo_ok : J2ok .quo jQuo := by
  intro r k x y c h
  cases y with
  | zero => exact (nn h).elim
  | succ y =>
    replace h : wrapN k (Nat.div x (Nat.succ y)) c = some r := h
    rw [wrapN_eq] at h
    refine ⟨_, ?_, h⟩
    simp only [bin2B, if_true, ifB]
    rw [if_pos (by omega)]
    rfl
theorem jRem_ok : J2ok .rem jRem := by
  intro r k x y c h
  cases y with
  | zero => exact (nn h).elim
  | succ y =>
    replace h : forceN (Nat.mod x (Nat.succ y)) (fun m => c (.int k (.ofNat m))) = some r := h
    rw [forceN_eq] at h
    refine ⟨_, ?_, h⟩
    simp only [bin2B, if_true, ifB]
    rw [if_pos (by omega)]
    rfl

theorem maxN_pow (k : IntKind) : ∃ j, maxN k + 1 = 2 ^ j ∧ j ≤ k.bits := by
  cases k with
  | i8 => exact ⟨7, rfl, by decide⟩
  | i16 => exact ⟨15, rfl, by decide⟩
  | i32 => exact ⟨31, rfl, by decide⟩
  | i64 => exact ⟨63, rfl, by decide⟩
  | u8 => exact ⟨8, rfl, by decide⟩
  | u16 => exact ⟨16, rfl, by decide⟩
  | u32 => exact ⟨32, rfl, by decide⟩
  | u64 => exact ⟨64, rfl, by decide⟩
theorem bv_nat {k : IntKind} {x : Nat} (h : x ≤ maxN k) : (BitVec.ofInt k.bits (x : Int)).toNat = x := by
  obtain ⟨j, h1, h2⟩ := maxN_pow k
  have : 2 ^ j ≤ 2 ^ k.bits := Nat.pow_le_pow_right (by omega) h2
  rw [BitVec.ofInt_natCast, BitVec.toNat_ofNat]
  exact Nat.mod_eq_of_lt (by omega)
theorem jBit_ok {op : BinOp} {g : Nat → Nat → Nat} (hg : ∀ k (x y : Nat), x ≤ maxN k → y ≤ maxN k → bin2B op (.int k x) (.int k y) = some (.int k (.ofNat (g x y)))) : J2ok op (jBit op g) := by
  intro r k x y c h
  unfold jBit at h
  rcases br_b h with ⟨_, h⟩ | ⟨h1, h⟩
  · exact slowB_el h
  rcases br_b h with ⟨_, h⟩ | ⟨h2, h⟩
  · exact slowB_el h
  rw [forceN_eq] at h
  exact ⟨_, hg k x y (ble_le h1) (ble_le h2), h⟩
theorem and_ok : J2ok .and (jBit .and Nat.land) := jBit_ok fun k x y hx hy => by
  simp only [bin2B, if_true, BitVec.toNat_and, bv_nat hx, bv_nat hy]
  congr 2
  exact wrap_in (Nat.le_trans Nat.and_le_left hx)
theorem or_ok : J2ok .or (jBit .or Nat.lor) := jBit_ok fun k x y hx hy => by
  simp only [bin2B, if_true, BitVec.toNat_or, bv_nat hx, bv_nat hy]
  congr 2
  obtain ⟨j, h1, _⟩ := maxN_pow k
  have : x ||| y < 2 ^ j := Nat.or_lt_two_pow (by omega) (by omega)
  exact wrap_in (m := x ||| y) (by omega)
theorem xor_ok : J2ok .xor (jBit .xor Nat.xor) := jBit_ok fun k x y hx hy => by
  simp only [bin2B, if_true, BitVec.toNat_xor, bv_nat hx, bv_nat hy]
  congr 2
  obtain ⟨j, h1, _⟩ := maxN_pow k
  have : x ^^^ y < 2 ^ j := Nat.xor_lt_two_pow (by omega) (by omega)
  exact wrap_in (m := x ^^^ y) (by omega)

theorem leI_eq (a b : Int) : leI a b = decide (a ≤ b) := by
  cases a with
  | ofNat a => cases b with
    | ofNat b =>
      show Nat.ble a b = _
      cases h : Nat.ble a b with
      | true => have := ble_le h; exact (decide_eq_true (by exact Int.ofNat_le.2 this)).symm
      | false => have := ble_nle h; exact (decide_eq_false (fun e => this (Int.ofNat_le.1 e))).symm
    | negSucc b => show false = _; exact (decide_eq_false (by have := Int.negSucc_lt_zero b; have : (0 : Int) ≤ Int.ofNat a := Int.natCast_nonneg a; omega)).symm
  | negSucc a => cases b with
    | ofNat b => show true = _; exact (decide_eq_true (by have := Int.negSucc_lt_zero a; have : (0 : Int) ≤ Int.ofNat b := Int.natCast_nonneg b; omega)).symm
    | negSucc b =>
      show Nat.ble b a = _
      cases h : Nat.ble b a with
      | true => have := ble_le h; exact (decide_eq_true (by simp only [Int.negSucc_eq]; omega)).symm
      | false => have := ble_nle h; exact (decide_eq_false (by simp only [Int.negSucc_eq]; omega)).symm
theorem eqI_eq (a b : Int) : eqI a b = decide (a = b) := by
  cases a with
  | ofNat a => cases b with
    | ofNat b =>
      show Nat.beq a b = _
      cases h : Nat.beq a b with
      | true => have := beq_eq h; subst this; exact (decide_eq_true rfl).symm
      | false => have := beq_ne h; exact (decide_eq_false (fun e => this (Int.ofNat.inj e))).symm
    | negSucc b => exact (decide_eq_false (fun e => by cases e)).symm
  | negSucc a => cases b with
    | ofNat b => exact (decide_eq_false (fun e => by cases e)).symm
    | negSucc b =>
      show Nat.beq a b = _
      cases h : Nat.beq a b with
      | true => have := beq_eq h; subst this; exact (decide_eq_true rfl).symm
      | false => have := beq_ne h; exact (decide_eq_false (fun e => this (Int.negSucc.inj e))).symm
theorem tf_eq (c : AV → RT) (b : Bool) : tf c b = c (.bool b) := by cases b <;> rfl
theorem ft_eq (c : AV → RT) (b : Bool) : ft c b = c (.bool !b) := by cases b <;> rfl
theorem tn_eq (neg : Bool) (c : AV → RT) (b : Bool) : tn neg c b = c (.bool (if neg then !b else b)) := by cases neg <;> cases b <;> rfl
theorem iLe_ok : I2ok .leq iLe := fun r k x y c h => ⟨.bool (decide (x ≤ y)), by simp only [bin2B, if_true], by unfold iLe at h; rw [tf_eq, leI_eq] at h; exact h⟩
theorem iGe_ok : I2ok .geq iGe := fun r k x y c h => ⟨.bool (decide (y ≤ x)), by simp only [bin2B, if_true], by unfold iGe at h; rw [tf_eq, leI_eq] at h; exact h⟩
theorem iLt_ok : I2ok .lss iLt := fun r k x y c h => ⟨.bool (decide (x < y)), by simp only [bin2B, if_true], by
  unfold iLt at h; rw [ft_eq, leI_eq] at h
  have : decide (x < y) = !decide (y ≤ x) := by rw [← decide_not]; exact decide_eq_decide.2 (by omega)
  rw [this]; exact h⟩
theorem iGt_ok : I2ok .gtr iGt := fun r k x y c h => ⟨.bool (decide (y < x)), by simp only [bin2B, if_true], by
  unfold iGt at h; rw [ft_eq, leI_eq] at h
  have : decide (y < x) = !decide (x ≤ y) := by rw [← decide_not]; exact decide_eq_decide.2 (by omega)
  rw [this]; exact h⟩

theorem bEq_ok (neg : Bool) : B2ok (if neg then .neq else .eql) (bEq neg) := by
  intro r a b c h
  cases a with
  | int k x =>
    replace h : asInt b (fun k' y => Bool.rec (motive := fun _ => RT) none (tn neg c (eqI x y)) (Nat.beq (kI k) (kI k'))) = some r := h
    replace h := asInt_el h
    obtain ⟨k', y, rfl, h⟩ := h
    replace h := br_t h
    obtain ⟨h1, h⟩ := h
    have := kI_inj (beq_eq h1)
    subst this
    rw [tn_eq, eqI_eq] at h
    exact ⟨_, by cases neg <;> simp [bin2B], h⟩
  | str s =>
    replace h : asStr b (fun t => tn neg c (eqL s t)) = some r := h
    replace h := asStr_el h
    obtain ⟨t, rfl, h⟩ := h
    rw [tn_eq, eqL_eq] at h
    exact ⟨_, by cases neg <;> simp [bin2B], h⟩
  | _ => exact (nn h).elim
theorem bAdd_ok : B2ok .add bAdd := by
  intro r a b c h
  cases a with
  | int k x =>
    replace h : asInt b (fun k' y => Bool.rec (motive := fun _ => RT) none (onN .add jAdd k x y c) (Nat.beq (kI k) (kI k'))) = some r := h
    replace h := asInt_el h
    obtain ⟨k', y, rfl, h⟩ := h
    replace h := br_t h
    obtain ⟨h1, h⟩ := h
    have := kI_inj (beq_eq h1)
    subst this
    exact onN_ok jAdd_ok r k x y c h
  | str s =>
    replace h : asStr b (fun t => Bool.rec (motive := fun _ => RT) none (appL s t fun r => c (.str r)) (Nat.ble (Nat.add (lenN s) (lenN t)) 9223372036854775807)) = some r := h
    replace h := asStr_el h
    obtain ⟨t, rfl, h⟩ := h
    replace h := br_t h
    obtain ⟨h1, h⟩ := h
    have h1 := ble_le h1
    rw [lenN_eq, lenN_eq] at h1
    rw [appL_eq] at h
    refine ⟨_, ?_, h⟩
    simp only [bin2B, ifB]
    exact if_pos h1
  | _ => exact (nn h).elim
theorem bShl_ok : B2ok .shl bShl := by
  intro r a b c h
  unfold bShl at h
  replace h := asInt_el h
  obtain ⟨k, x, rfl, h⟩ := h
  replace h := asInt_el h
  obtain ⟨k', y, rfl, h⟩ := h
  cases y with
  | negSucc y => exact (nn h).elim
  | ofNat y => cases x with
    | negSucc x => exact slowB_el h
    | ofNat x =>
      replace h : shN k y (fun m => wrapN k (Nat.mul x (Nat.pow 2 m)) c) = some r := h
      unfold shN at h
      rw [minC_eq, wrapN_eq, bitN_eq] at h
      refine ⟨_, ?_, h⟩
      simp only [bin2B, ifB]
      rw [if_pos (show (0 : Int) ≤ Int.ofNat y from Int.natCast_nonneg y)]
      congr 3
theorem bShr_ok : B2ok .shr bShr := by
  intro r a b c h
  unfold bShr at h
  replace h := asInt_el h
  obtain ⟨k, x, rfl, h⟩ := h
  replace h := asInt_el h
  obtain ⟨k', y, rfl, h⟩ := h
  cases y with
  | negSucc y => exact (nn h).elim
  | ofNat y => cases x with
    | negSucc x => exact slowB_el h
    | ofNat x =>
      replace h : shN k y (fun m => forceN (Nat.div x (Nat.pow 2 m)) fun r => c (.int k (.ofNat r))) = some r := h
      unfold shN at h
      rw [minC_eq, forceN_eq, bitN_eq] at h
      refine ⟨_, ?_, h⟩
      simp only [bin2B, ifB]
      rw [if_pos (show (0 : Int) ≤ Int.ofNat y from Int.natCast_nonneg y)]
      congr 2
      show Int.fdiv (x : Int) (2 ^ (min y k.bits)) = ((x / 2 ^ (min y k.bits) : Nat) : Int)
      rw [Int.fdiv_eq_ediv_of_nonneg _ (by exact Int.le_of_lt (Int.pow_pos (by decide)))]
      push_cast
      rfl
theorem binC_ok : ∀ op, B2ok op (binC op)
  | .add => bAdd_ok
  | .sub => b2_ok (onN_ok jSub_ok)
  | .mul => b2_ok (onN_ok jMul_ok)
  | .quo => b2_ok (onN_ok jQuo_ok)
  | .rem => b2_ok (onN_ok jRem_ok)
  | .and => b2_ok (onN_ok and_ok)
  | .or => b2_ok (onN_ok or_ok)
  | .xor => b2_ok (onN_ok xor_ok)
  | .shl => bShl_ok
  | .shr => bShr_ok
  | .andNot => fun _ _ _ _ h => slowB_el h
  | .eql => bEq_ok false
  | .neq => bEq_ok true
  | .lss => b2_ok iLt_ok
  | .leq => b2_ok iLe_ok
  | .gtr => b2_ok iGt_ok
  | .geq => b2_ok iGe_ok

/- parts -/
theorem part_el {E : Lk} {x : SX} {v : AV} {o s : Nat} {cs : List AV} {l : List (Nat × Nat × SX)} {k : List AV → RT} (hx : ev E x = some v) (h : partC v s o cs k = some r) (_hk : ∀ cs', k cs' = some r → ∃ c2, fillS E cs' l = some c2 ∧ r = r) :
    ∃ cs', k cs' = some r ∧ fillS E cs ((o, s, x) :: l) = fillS E cs' l := by
  have fin : v.one = true ∨ (∃ vs, v = .tup vs) → (Bool.rec (motive := fun _ => RT) none (setC cs o v k) (Nat.beq s 1)) = some r → ∃ cs', k cs' = some r ∧ fillS E cs ((o, s, x) :: l) = fillS E cs' l := by
    intro hv h'
    replace h' := br_t h'
    obtain ⟨h1, h'⟩ := h'
    have := beq_eq h1
    subst this
    replace h' := setC_el h'
    obtain ⟨l', h2, h3⟩ := h'
    refine ⟨l', h3, ?_⟩
    simp only [fillS, hx]
    rcases hv with hv | ⟨vs, rfl⟩
    · cases v <;> first | (simp only [if_true, h2]; done) | cases hv
    · simp only [if_true, h2]
  cases v with
  | agg vs =>
    replace h : Bool.rec (motive := fun _ => RT) none (Bool.rec (motive := fun _ => RT) none (putC vs cs o k) (Nat.ble 1 s)) (Nat.beq (lenN vs) s) = some r := h
    replace h := br_t h
    obtain ⟨h1, h⟩ := h
    replace h := br_t h
    obtain ⟨h2, h⟩ := h
    have h1 := beq_eq h1
    rw [lenN_eq] at h1
    have h2 := ble_le h2
    replace h := putC_el h
    obtain ⟨l', h3, h4⟩ := h
    refine ⟨l', h4, ?_⟩
    simp only [fillS, hx]
    rw [if_pos ⟨h1, by omega⟩, h3]
  | tup vs => exact fin (.inr ⟨vs, rfl⟩) h
  | _ => exact fin (.inl rfl) h
theorem fillC_el {R : RG} : ∀ {l : List (Nat × Nat × SX)} {cs : List AV} {k : List AV → RT}, fillC l R cs k = some r → ∃ c2, fillS (R3 R) cs l = some c2 ∧ k c2 = some r
  | [], cs, k, h => ⟨cs, rfl, h⟩
  | (o, s, x) :: l, cs, k, h => by
    replace h : evC x R (fun v => partC v s o cs fun cs => fillC l R cs k) = some r := h
    replace h := evC_el h
    obtain ⟨v, h1, h2⟩ := h
    obtain ⟨cs', h3, h4⟩ := part_el (l := l) h1 h2 (fun cs' e => by obtain ⟨c2, a, _⟩ := fillC_el e; exact ⟨c2, a, rfl⟩)
    obtain ⟨c2, h5, h6⟩ := fillC_el h3
    exact ⟨c2, by rw [h4]; exact h5, h6⟩

theorem isNilB_el {v : AV} {c : Bool → NilK → RT} (h : isNilB v c = some r) : ∃ b k, isNilA v = some b ∧ kindOfA v = some k ∧ c b k = some r := by
  cases v with
  | nil k => cases k <;> first | exact ⟨_, _, rfl, rfl, h⟩ | exact (nn h).elim
  | _ => first | exact ⟨_, _, rfl, rfl, h⟩ | exact (nn h).elim
theorem lenV_el {v : AV} {c : Nat → RT} (h : lenV v c = some r) : ∃ n, lenOfA v = some n ∧ c n = some r := by
  cases v with
  | nil k => cases k <;> first | exact ⟨_, rfl, h⟩ | exact (nn h).elim
  | sl a b d e => exact ⟨_, rfl, h⟩
  | tsl a b => exact ⟨_, rfl, h⟩
  | _ => exact (nn h).elim

/- a handler that only reckons -/
def PlOk (k : SK) (hk : HK) : Prop := ∀ (r : AV) cl R s K, hk cl R s K = some r → ∃ v, svB (R3 R) k = some v ∧ K v s = some r

theorem pl_gen (k : SK) : PlOk k (hGen k) := by
  intro r cl R s K h
  unfold hGen at h
  cases e : svB (R3 R) k with
  | none => rw [e] at h; exact (nn h).elim
  | some v =>
    rw [e] at h
    replace h : forceV v (fun v => K v s) = some r := h
    rw [forceV_eq] at h
    exact ⟨v, rfl, h⟩
theorem pl_mv (x : SX) : PlOk (.mv x) (hMv (evC x)) := by
  intro r cl R s K h
  replace h := evC_el h
  obtain ⟨v, h1, h2⟩ := h
  exact ⟨v, by simp only [svB, h1], h2⟩
theorem pl_pick (c a b : SX) : PlOk (.pick c a b) (hPick (evC c) (evC a) (evC b)) := by
  intro r cl R s K h
  replace h := evC_el h
  obtain ⟨v, h1, h⟩ := h
  replace h := asBool_el h
  obtain ⟨p, rfl, h⟩ := h
  rcases br_b h with ⟨rfl, h⟩ | ⟨rfl, h⟩
  · replace h := evC_el h
    obtain ⟨w, h3, h4⟩ := h
    exact ⟨w, by simp only [svB, h1, h3], h4⟩
  · replace h := evC_el h
    obtain ⟨w, h3, h4⟩ := h
    exact ⟨w, by simp only [svB, h1, h3], h4⟩
theorem pl_bin (op : BinOp) (x y : SX) : PlOk (.bin op x y) (hB (binC op) (evC x) (evC y)) := by
  intro r cl R s K h
  replace h := evC_el h
  obtain ⟨a, h1, h⟩ := h
  replace h := evC_el h
  obtain ⟨b, h2, h⟩ := h
  obtain ⟨v, h3, h4⟩ := binC_ok op _ _ _ _ h
  exact ⟨v, by simp only [svB, h1, h2, h3], h4⟩
theorem eqB_eq (a b : Bool) : eqB a b = (a == b) := by cases a <;> cases b <;> rfl
theorem pl_beq (neg : Bool) (x y : SX) : PlOk (.beq neg x y) (hBeq neg (evC x) (evC y)) := by
  intro r cl R s K h
  replace h := evC_el h
  obtain ⟨a, h1, h⟩ := h
  replace h := evC_el h
  obtain ⟨b, h2, h⟩ := h
  replace h := asBool_el h
  obtain ⟨a, rfl, h⟩ := h
  replace h := asBool_el h
  obtain ⟨b, rfl, h⟩ := h
  rw [tn_eq, eqB_eq] at h
  exact ⟨_, by simp only [svB, h1, h2], h⟩
theorem pl_nil (neg : Bool) (k : NilK) (x : SX) : PlOk (.isnil neg k x) (hNil neg k (evC x)) := by
  intro r cl R s K h
  replace h := evC_el h
  obtain ⟨a, h1, h⟩ := h
  replace h := isNilB_el h
  obtain ⟨b, k', h2, h3, h⟩ := h
  replace h := br_t h
  obtain ⟨h4, h⟩ := h
  have := kN_inj (beq_eq h4)
  rw [tn_eq] at h
  exact ⟨_, by simp only [svB, h1, h2, h3, if_pos this], h⟩
theorem pl_fa (x : SX) (o : Nat) : PlOk (.fa x o) (hFa (evC x) o) := by
  intro r cl R s K h
  replace h := evC_el h
  obtain ⟨a, h1, h⟩ := h
  cases a with
  | ptr id k =>
    replace h : forceN (Nat.add k o) (fun o => K (.ptr id o) s) = some r := h
    rw [forceN_eq] at h
    exact ⟨_, by simp only [svB, h1]; rfl, h⟩
  | tptr cs k =>
    replace h : forceN (Nat.add k o) (fun o => K (.tptr cs o) s) = some r := h
    rw [forceN_eq] at h
    exact ⟨_, by simp only [svB, h1]; rfl, h⟩
  | _ => exact (nn h).elim
theorem pl_ia (x i : SX) (n : Option Nat) (s' : Nat) : PlOk (.ia x i n s') (hIa (evC x) (evC i) n s') := by
  intro r cl R s K h
  cases n with
  | none =>
    replace h := evC_el h
    obtain ⟨a, h1, h⟩ := h
    replace h := evC_el h
    obtain ⟨b, h2, h⟩ := h
    replace h := asInt_el h
    obtain ⟨k, w, rfl, h⟩ := h
    replace h := natOf_el h
    obtain ⟨m, rfl, h⟩ := h
    cases a with
    | sl id off len sz =>
      replace h : Bool.rec (motive := fun _ => RT) none (Bool.rec (motive := fun _ => RT) none (forceN (Nat.add off (Nat.mul m sz)) fun o => K (.ptr id o) s) (Nat.ble (Nat.succ m) len)) (Nat.beq s' sz) = some r := h
      replace h := br_t h
      obtain ⟨h3, h⟩ := h
      replace h := br_t h
      obtain ⟨h4, h⟩ := h
      rw [forceN_eq] at h
      have h3 := beq_eq h3
      have h4 := ble_le h4
      refine ⟨_, ?_, h⟩
      simp only [svB, h1, h2, ifB]
      rw [if_pos ⟨h3, by omega, by omega⟩]
      rfl
    | tsl cs len =>
      replace h : Bool.rec (motive := fun _ => RT) none (forceN (Nat.mul m s') fun o => K (.tptr cs o) s) (Nat.ble (Nat.succ m) len) = some r := h
      replace h := br_t h
      obtain ⟨h4, h⟩ := h
      rw [forceN_eq] at h
      have h4 := ble_le h4
      refine ⟨_, ?_, h⟩
      simp only [svB, h1, h2, ifB]
      rw [if_pos ⟨by omega, by omega⟩]
      rfl
    | _ => exact (nn h).elim
  | some n =>
    replace h := evC_el h
    obtain ⟨a, h1, h⟩ := h
    replace h := evC_el h
    obtain ⟨b, h2, h⟩ := h
    replace h := asInt_el h
    obtain ⟨k, w, rfl, h⟩ := h
    replace h := natOf_el h
    obtain ⟨m, rfl, h⟩ := h
    cases a with
    | ptr id k =>
      replace h : Bool.rec (motive := fun _ => RT) none (forceN (Nat.add k (Nat.mul m s')) fun o => K (.ptr id o) s) (Nat.ble (Nat.succ m) n) = some r := h
      replace h := br_t h
      obtain ⟨h4, h⟩ := h
      rw [forceN_eq] at h
      have h4 := ble_le h4
      refine ⟨_, ?_, h⟩
      simp only [svB, h1, h2, ifB]
      rw [if_pos ⟨by omega, by omega⟩]
      rfl
    | tptr cs k =>
      replace h : Bool.rec (motive := fun _ => RT) none (forceN (Nat.add k (Nat.mul m s')) fun o => K (.tptr cs o) s) (Nat.ble (Nat.succ m) n) = some r := h
      replace h := br_t h
      obtain ⟨h4, h⟩ := h
      rw [forceN_eq] at h
      have h4 := ble_le h4
      refine ⟨_, ?_, h⟩
      simp only [svB, h1, h2, ifB]
      rw [if_pos ⟨by omega, by omega⟩]
      rfl
    | _ => exact (nn h).elim
theorem pl_fld (x : SX) (o : Nat) (m : Option Nat) : PlOk (.fld x o m) (hFld (evC x) o (takeC m)) := by
  intro r cl R s K h
  replace h := evC_el h
  obtain ⟨a, h1, h⟩ := h
  replace h := asAgg_el h
  obtain ⟨cs, rfl, h⟩ := h
  replace h := takeC_el h
  obtain ⟨v, h2, h3⟩ := h
  refine ⟨v, ?_, h2⟩
  cases m with
  | none => have h3 : cs[o]? = some v := h3; simp only [svB, h1, h3]
  | some n => obtain ⟨l, h4, rfl⟩ := h3; simp only [svB, h1, h4]
theorem pl_ext (x : SX) (i : Nat) : PlOk (.ext x i) (hExt (evC x) i) := by
  intro r cl R s K h
  replace h := evC_el h
  obtain ⟨a, h1, h⟩ := h
  replace h := asTup_el h
  obtain ⟨cs, rfl, h⟩ := h
  replace h := nthC_el h
  obtain ⟨v, h2, h3⟩ := h
  exact ⟨v, by simp only [svB, h1, h2], h3⟩
theorem pl_mif (t : Nat) (x : SX) : PlOk (.mif t x) (hMif t (evC x)) := by
  intro r cl R s K h
  obtain ⟨a, h1, h⟩ := evC_el h
  exact ⟨_, by simp only [svB, h1], h⟩
theorem pl_tas (t : Nat) (ok : Bool) (x : SX) : PlOk (.tas t ok x) (hTas t ok (evC x)) := by
  intro r cl R s K h
  replace h := evC_el h
  obtain ⟨a, h1, h⟩ := h
  replace h := asIfc_el h
  obtain ⟨u, w, rfl, h⟩ := h
  obtain ⟨h2, h⟩ := br_t h
  have h2 := beq_eq h2
  cases ok with
  | true => exact ⟨_, by simp only [svB, h1, h2, if_true], h⟩
  | false => exact ⟨w, by simp [svB, h1, h2], h⟩
theorem pl_len (x : SX) (n : Option Nat) : PlOk (.len x n) (hLen (evC x) n) := by
  intro r cl R s K h
  cases n with
  | none =>
    replace h := evC_el h
    obtain ⟨a, h1, h⟩ := h
    replace h := lenV_el h
    obtain ⟨m, h2, h⟩ := h
    refine ⟨_, ?_, h⟩
    simp only [svB, h1]
    cases a with
    | nil k => cases k <;> first | (cases h2; rfl) | cases h2
    | sl a b d e => cases h2; rfl
    | tsl a b => cases h2; rfl
    | _ => cases h2
  | some n =>
    replace h := evC_el h
    obtain ⟨a, h1, h⟩ := h
    exact ⟨_, by simp only [svB, h1]; rfl, h⟩
theorem pl_lens (x : SX) : PlOk (.lens x) (hLens (evC x)) := by
  intro r cl R s K h
  replace h := evC_el h
  obtain ⟨a, h1, h⟩ := h
  replace h := asStr_el h
  obtain ⟨t, rfl, h⟩ := h
  rw [forceN_eq, lenN_eq] at h
  exact ⟨_, by simp only [svB, h1]; rfl, h⟩
theorem pl_cv (k : IntKind) (x : SX) : PlOk (.cv k x) (hCv k (evC x)) := by
  intro r cl R s K h
  replace h := evC_el h
  obtain ⟨a, h1, h⟩ := h
  replace h := asInt_el h
  obtain ⟨t, n, rfl, h⟩ := h
  rw [wrapI_eq] at h
  exact ⟨_, by simp only [svB, h1], h⟩
theorem pl_chk (x : SX) : PlOk (.chk x) (hChk (evC x)) := by
  intro r cl R s K h
  replace h := evC_el h
  obtain ⟨a, h1, h⟩ := h
  replace h := isNilB_el h
  obtain ⟨b, k, h2, _, h⟩ := h
  replace h := br_f h
  obtain ⟨rfl, h⟩ := h
  exact ⟨_, by simp only [svB, h1, h2], h⟩
theorem pl_bld (z : List AV) (ps : List (Nat × Nat × SX)) : PlOk (.bld z ps) (hBld z (fillC ps)) := by
  intro r cl R s K h
  replace h := fillC_el h
  obtain ⟨c2, h1, h2⟩ := h
  exact ⟨_, by simp only [svB, h1], h2⟩
theorem pl_ixs (x i : SX) : PlOk (.ixs x i) (hIxs (evC x) (evC i)) := by
  intro r cl R s K h
  replace h := evC_el h
  obtain ⟨a, h1, h⟩ := h
  replace h := evC_el h
  obtain ⟨b, h2, h⟩ := h
  replace h := asStr_el h
  obtain ⟨t, rfl, h⟩ := h
  replace h := asInt_el h
  obtain ⟨k, w, rfl, h⟩ := h
  replace h := natOf_el h
  obtain ⟨m, rfl, h⟩ := h
  replace h := nthU_el h
  obtain ⟨u, h3, h⟩ := h
  rw [forceN_eq] at h
  obtain ⟨hlt, h4⟩ := List.getElem?_eq_some_iff.1 h3
  refine ⟨_, ?_, h⟩
  simp only [svB, h1, h2, ifB, Int.toNat_natCast]
  rw [if_pos ⟨by omega, by omega⟩, List.getD_eq_getElem?_getD, h3]
  rfl
theorem pl_slt (x : SX) (lo hi : Option SX) (s' : Nat) : PlOk (.slt x lo hi s') (hSlt (evC x) (optI lo) (optI hi) s') := by
  intro r cl R s K h
  replace h := evC_el h
  obtain ⟨a, h1, h⟩ := h
  cases a with
  | nil k =>
    cases k with
    | sl =>
      replace h : optI lo R 0 (fun l => optI hi R 0 fun m => Nat.rec (motive := fun _ => RT) (Nat.rec (motive := fun _ => RT) (K (.nil .sl) s) (fun _ _ => none) m) (fun _ _ => none) l) = some r := h
      replace h := optI_el h
      obtain ⟨l, h2, h⟩ := h
      replace h := optI_el h
      obtain ⟨m, h3, h⟩ := h
      cases l with
      | succ l => exact (nn h).elim
      | zero => cases m with
        | succ m => exact (nn h).elim
        | zero =>
          refine ⟨_, ?_, h⟩
          simp only [svB, h1]
          have h2 : evI (R3 R) 0 lo = some ((0 : Nat) : Int) := h2
          rw [h2]
          have h3 : evI (R3 R) 0 hi = some ((0 : Nat) : Int) := h3
          rw [h3]
          simp [ifB]
    | _ => exact (nn h).elim
  | tsl cs len =>
    replace h : optI lo R 0 (fun l => optI hi R len fun m => Bool.rec (motive := fun _ => RT) none (Bool.rec (motive := fun _ => RT) none (Bool.rec (motive := fun _ => RT) none (sliC cs (Nat.mul l s') (Nat.mul (Nat.sub m l) s') fun r => forceN (Nat.sub m l) fun n => K (.tsl r n) s) (Nat.ble (Nat.mul m s') (lenN cs))) (Nat.ble m len)) (Nat.ble l m)) = some r := h
    replace h := optI_el h
    obtain ⟨l, h2, h⟩ := h
    replace h := optI_el h
    obtain ⟨m, h3, h⟩ := h
    replace h := br_t h
    obtain ⟨h4, h⟩ := h
    replace h := br_t h
    obtain ⟨h5, h⟩ := h
    replace h := br_t h
    obtain ⟨h6, h⟩ := h
    replace h := sliC_el h
    obtain ⟨c2, h7, h⟩ := h
    rw [forceN_eq] at h
    have h4 := ble_le h4
    have h5 := ble_le h5
    have h6 := ble_le h6
    refine ⟨_, ?_, h⟩
    have h2 : evI (R3 R) 0 lo = some (l : Int) := h2
    simp only [svB, h1, h2, h3, ifB, Int.toNat_natCast]
    rw [if_pos ⟨by omega, by omega, by omega⟩]
    have e : (cs.take (m * s')).drop (l * s') = c2 := by
      unfold sliceL at h7
      split at h7
      · simp only [Option.some.injEq] at h7
        rw [← h7, List.drop_take]
        congr 1
        exact (Nat.sub_mul m l s').symm
      · cases h7
    rw [e]
    rfl
  | sl id off len sz =>
    replace h : optI lo R 0 (fun l => optI hi R len fun m => Bool.rec (motive := fun _ => RT) none (Bool.rec (motive := fun _ => RT) none (Bool.rec (motive := fun _ => RT) none (forceN (Nat.add off (Nat.mul l sz)) fun o => forceN (Nat.sub m l) fun n => K (.sl id o n sz) s) (Nat.beq s' sz)) (Nat.ble m len)) (Nat.ble l m)) = some r := h
    replace h := optI_el h
    obtain ⟨l, h2, h⟩ := h
    replace h := optI_el h
    obtain ⟨m, h3, h⟩ := h
    replace h := br_t h
    obtain ⟨h4, h⟩ := h
    replace h := br_t h
    obtain ⟨h5, h⟩ := h
    replace h := br_t h
    obtain ⟨h6, h⟩ := h
    rw [forceN_eq, forceN_eq] at h
    have h4 := ble_le h4
    have h5 := ble_le h5
    have h6 := beq_eq h6
    refine ⟨_, ?_, h⟩
    have h2 : evI (R3 R) 0 lo = some (l : Int) := h2
    simp only [svB, h1, h2, h3, ifB, Int.toNat_natCast]
    rw [if_pos ⟨h6, by omega, by omega, by omega⟩]
    rfl
  | _ => exact (nn h).elim
end
end Go.Abs
