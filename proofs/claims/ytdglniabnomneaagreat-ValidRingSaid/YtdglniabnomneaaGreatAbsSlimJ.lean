/- Numbers and lists of numbers as values. -/
import Derived.Test.YtdglniabnomneaaGreatAbsSlimI
namespace Go.Abs

theorem w64 {n : Int} (h1 : -9223372036854775808 ≤ n) (h2 : n ≤ 9223372036854775807) : IntKind.wrap .i64 n = n := by
  simp [IntKind.wrap, IntKind.bits, IntKind.signed]
  omega
theorem w32 {n : Int} (h1 : -2147483648 ≤ n) (h2 : n ≤ 2147483647) : IntKind.wrap .i32 n = n := by
  simp [IntKind.wrap, IntKind.bits, IntKind.signed]
  omega
theorem wu8 {n : Int} (h1 : 0 ≤ n) (h2 : n ≤ 255) : IntKind.wrap .u8 n = n := by
  simp [IntKind.wrap, IntKind.bits, IntKind.signed]
  omega
theorem wu32 {n : Int} (h1 : 0 ≤ n) (h2 : n ≤ 4294967295) : IntKind.wrap .u32 n = n := by
  simp [IntKind.wrap, IntKind.bits, IntKind.signed]
  omega
theorem wu64 {n : Int} (h1 : 0 ≤ n) (h2 : n ≤ 18446744073709551615) : IntKind.wrap .u64 n = n := by
  simp [IntKind.wrap, IntKind.bits, IntKind.signed]
  omega

section
variable {P : Program} {A : Ann} {f nt : Nat} {E : Env} {bx : List Nat} {h : Heap} {Q : AX → Env → List Nat → Heap → Prop} {h0 : Heap} {q : Nat}
/- a number is written as it is wanted -/
theorem o_int {d : Nat} {k : SK} {r : List SO} {p : Prop} {i : IntKind} {e m : Int} (hlt : (decide (d < nt)) = true) (hv : sv (lk E) k = some (p, .int i e)) (hp : p) (he : e = m) (H : SOps P A f nt h0 (q - 1) r ((d, .int i m) :: E) bx h Q) :
    SOps P A f nt h0 q (⟨some d, none, k⟩ :: r) E bx h Q := by subst he; exact o_val hlt hv hp H
/- natural numbers as whole numbers -/
theorem o_addN {d a b : Nat} {x y : SX} {r : List SO} {k : IntKind} (hlt : (decide (d < nt)) = true) (hx : ev (lk E) x = some (.int k (a : Int))) (hy : ev (lk E) y = some (.int k (b : Int))) (hw : k.wrap ((a : Int) + b) = (a : Int) + b)
    (H : SOps P A f nt h0 (q - 1) r ((d, .int k ((a + b : Nat) : Int)) :: E) bx h Q) : SOps P A f nt h0 q (⟨some d, none, .bin .add x y⟩ :: r) E bx h Q :=
  o_val (p := True) (v := .int k ((a + b : Nat) : Int)) hlt (by simp only [sv, hx, hy, bin2, if_true, hw]; rfl) trivial H
theorem o_mulN {d a b : Nat} {x y : SX} {r : List SO} {k : IntKind} (hlt : (decide (d < nt)) = true) (hx : ev (lk E) x = some (.int k (a : Int))) (hy : ev (lk E) y = some (.int k (b : Int))) (hw : k.wrap ((a : Int) * b) = (a : Int) * b)
    (H : SOps P A f nt h0 (q - 1) r ((d, .int k ((a * b : Nat) : Int)) :: E) bx h Q) : SOps P A f nt h0 q (⟨some d, none, .bin .mul x y⟩ :: r) E bx h Q :=
  o_val (p := True) (v := .int k ((a * b : Nat) : Int)) hlt (by simp only [sv, hx, hy, bin2, if_true, hw]; rfl) trivial H
theorem o_subN {d a b : Nat} {x y : SX} {r : List SO} {k : IntKind} (hlt : (decide (d < nt)) = true) (hx : ev (lk E) x = some (.int k (a : Int))) (hy : ev (lk E) y = some (.int k (b : Int))) (hb : b ≤ a) (hw : k.wrap ((a : Int) - b) = (a : Int) - b)
    (H : SOps P A f nt h0 (q - 1) r ((d, .int k ((a - b : Nat) : Int)) :: E) bx h Q) : SOps P A f nt h0 q (⟨some d, none, .bin .sub x y⟩ :: r) E bx h Q :=
  o_val (p := True) (v := .int k ((a - b : Nat) : Int)) hlt (by simp only [sv, hx, hy, bin2, if_true, hw]; rw [← Int.ofNat_sub hb]) trivial H
theorem o_quoN {d a b : Nat} {x y : SX} {r : List SO} {k : IntKind} (hlt : (decide (d < nt)) = true) (hx : ev (lk E) x = some (.int k (a : Int))) (hy : ev (lk E) y = some (.int k (b : Int))) (hb : b ≠ 0) (hw : k.wrap ((a / b : Nat) : Int) = ((a / b : Nat) : Int))
    (H : SOps P A f nt h0 (q - 1) r ((d, .int k ((a / b : Nat) : Int)) :: E) bx h Q) : SOps P A f nt h0 q (⟨some d, none, .bin .quo x y⟩ :: r) E bx h Q :=
  o_val (p := (b : Int) ≠ 0) (v := .int k ((a / b : Nat) : Int)) hlt (by simp only [sv, hx, hy, bin2, if_true]; rw [← Int.ofNat_tdiv, hw]) (by omega) H
theorem o_remN {d a b : Nat} {x y : SX} {r : List SO} {k : IntKind} (hlt : (decide (d < nt)) = true) (hx : ev (lk E) x = some (.int k (a : Int))) (hy : ev (lk E) y = some (.int k (b : Int))) (hb : b ≠ 0)
    (H : SOps P A f nt h0 (q - 1) r ((d, .int k ((a % b : Nat) : Int)) :: E) bx h Q) : SOps P A f nt h0 q (⟨some d, none, .bin .rem x y⟩ :: r) E bx h Q :=
  o_val (p := (b : Int) ≠ 0) (v := .int k ((a % b : Nat) : Int)) hlt (by simp only [sv, hx, hy, bin2, if_true]; rw [← Int.ofNat_tmod]) (by omega) H
theorem o_cvN {d a : Nat} {x : SX} {r : List SO} {k k' : IntKind} (hlt : (decide (d < nt)) = true) (hx : ev (lk E) x = some (.int k' (a : Int))) (hw : k.wrap (a : Int) = (a : Int))
    (H : SOps P A f nt h0 (q - 1) r ((d, .int k (a : Int)) :: E) bx h Q) : SOps P A f nt h0 q (⟨some d, none, .cv k x⟩ :: r) E bx h Q :=
  o_val (p := True) (v := .int k (a : Int)) hlt (by simp only [sv, hx, hw]) trivial H
theorem o_shrN {d a b : Nat} {x y : SX} {r : List SO} {k k' : IntKind} (hlt : (decide (d < nt)) = true) (hx : ev (lk E) x = some (.int k (a : Int))) (hy : ev (lk E) y = some (.int k' (b : Int))) (hb : b ≤ k.bits)
    (H : SOps P A f nt h0 (q - 1) r ((d, .int k ((a / 2 ^ b : Nat) : Int)) :: E) bx h Q) : SOps P A f nt h0 q (⟨some d, none, .bin .shr x y⟩ :: r) E bx h Q :=
  o_val (p := (0 : Int) ≤ b) (v := .int k ((a / 2 ^ b : Nat) : Int)) hlt (by
    simp only [sv, hx, hy, bin2, Int.toNat_natCast, Nat.min_eq_left hb]
    congr 3
    rw [Int.fdiv_eq_ediv_of_nonneg _ (by exact_mod_cast Nat.zero_le _)]
    norm_cast) (by omega) H

/- what is put beside: from here on only this is known -/
def jq {σ : Type} (env : σ → Env) (HI : σ → Heap → Prop) (bx0 : List Nat) (Q : AX → Env → List Nat → Heap → Prop) : AX → Env → List Nat → Heap → Prop := fun x E bx h => match x with
  | .norm => ∃ s, Sub (env s) E ∧ bx = bx0 ∧ HI s h
  | e => Q e E bx h
theorem s_join {a b : SC} {σ : Type} (env : σ → Env) (HI : σ → Heap → Prop) (H1 : SRun P A f nt a E bx h (jq env HI bx Q)) (H2 : ∀ s h', HI s h' → SRun P A f nt b (env s) bx h' Q) : SRun P A f nt (.seq a b) E bx h Q := by
  apply s_seq
  intro c0 rg hc hs
  refine (H1 c0 rg hc hs).mono ?_
  rintro x fr h' ⟨E', hs', q⟩
  cases x with
  | norm =>
    obtain ⟨s, w1, w2, w3⟩ := q
    refine ⟨E', hs', ?_⟩
    show SRun P A f nt b E' fr.boxes h' Q
    rw [w2]
    exact fun c0 rg hc hg => H2 s h' w3 c0 rg hc (fun t v e => hg t v (w1 t v e))
  | exit i => exact ⟨E', hs', q⟩
  | ret => exact ⟨E', hs', q⟩

theorem slq_exit {σ : Type} {env : σ → Env} {HI : σ → Heap → Prop} {m : σ → Nat} {s : σ} {bx0 : List Nat} {i : Nat} (H : Q (.exit i) E bx h) : slq env HI m s bx0 Q (.exit i) E bx h := H
theorem slq_ret {σ : Type} {env : σ → Env} {HI : σ → Heap → Prop} {m : σ → Nat} {s : σ} {bx0 : List Nat} (H : Q .ret E bx h) : slq env HI m s bx0 Q .ret E bx h := H
theorem jq_exit {σ : Type} {env : σ → Env} {HI : σ → Heap → Prop} {bx0 : List Nat} {i : Nat} (H : Q (.exit i) E bx h) : jq env HI bx0 Q (.exit i) E bx h := H
theorem jq_ret {σ : Type} {env : σ → Env} {HI : σ → Heap → Prop} {bx0 : List Nat} (H : Q .ret E bx h) : jq env HI bx0 Q .ret E bx h := H

/- a store of one cell -/
theorem o_st1 {dst : Option Nat} {x y : SX} {r : List SO} {id off : Nat} {v : AV} {cs : List AV} (hq : q = 0) (hd : dstOk' nt dst = true) (hx : ev (lk E) x = some (.ptr id off)) (hy : ev (lk E) y = some v) (ho : v.one = true)
    (hid : h id = some (.cells cs)) (hlt : off < cs.length) (H : SOps P A f nt h0 0 r (undefE dst E) bx (upd h id (some (.cells (cs.set off v)))) Q) : SOps P A f nt h0 q (⟨dst, none, .st x y 1⟩ :: r) E bx h Q := by
  have hc : v.cells = [v] := by cases v <;> first | rfl | cases ho
  exact o_st (v := v) hq hd hx hy (by rw [hc]; rfl) (by rw [hc]; simp [ho]) hid (by rw [hc]; exact splice_one hlt) H

/- a value is written as it is wanted -/
theorem o_as {d : Nat} {k : SK} {r : List SO} {p : Prop} {v w : AV} (hlt : (decide (d < nt)) = true) (hv : sv (lk E) k = some (p, v)) (hp : p) (he : v = w) (H : SOps P A f nt h0 (q - 1) r ((d, w) :: E) bx h Q) :
    SOps P A f nt h0 q (⟨some d, none, k⟩ :: r) E bx h Q := by subst he; exact o_val hlt hv hp H
end

/- numbers of a kind -/
def nums (k : IntKind) (l : List Int) : List AV := l.map (.int k)
theorem nums_len {k : IntKind} {l : List Int} : (nums k l).length = l.length := by simp [nums]
theorem nums_get {k : IntKind} {l : List Int} {i : Nat} (hi : i < l.length) : (nums k l)[i]? = some (.int k l[i]) := by simp [nums, hi]
theorem nums_take {k : IntKind} {l : List Int} {i : Nat} : (nums k l).take i = nums k (l.take i) := by simp [nums, List.map_take]
theorem nums_drop {k : IntKind} {l : List Int} {i : Nat} : (nums k l).drop i = nums k (l.drop i) := by simp [nums, List.map_drop]
theorem nums_append {k : IntKind} {l m : List Int} : nums k l ++ nums k m = nums k (l ++ m) := by simp [nums]
theorem nums_one {k : IntKind} {l : List Int} : (nums k l).all AV.one = true := by simp [nums, AV.one]
theorem nums_atom {k : IntKind} {l : List Int} : (nums k l).all AV.atom = true := by simp [nums, AV.atom]
theorem nums_trees {k : IntKind} : ∀ {l : List Int}, AV.trees (nums k l) = true
  | [] => rfl
  | a :: l => by
    have := nums_trees (k := k) (l := l)
    simpa [nums, AV.trees, AV.tree] using this

/- a slice of numbers that is a tree -/
def NSl (k : IntKind) (v : AV) (l : List Int) : Prop := TSl 1 v (nums k l) l.length

theorem NSl.cut {k : IntKind} {v w : AV} {l : List Int} {a b : Nat} (_ : NSl k v l) (hb : b ≤ l.length) (H : TSl 1 w (((nums k l).take (b * 1)).drop (a * 1)) (b - a)) : NSl k w ((l.take b).drop a) := by
  unfold NSl
  rw [Nat.mul_one, Nat.mul_one, nums_take, nums_drop] at H
  have : ((l.take b).drop a).length = b - a := by simp; omega
  rw [this]
  exact H

end Go.Abs
