import Derived.Test.YtmnnmgfjlokmkaaGreatAbsSim
open Go.RowKit (Below)
namespace Go.Abs
theorem over_self {h h' : Heap} {n n' : Nat} {lg : Log} (st : Step h n h' n' lg) : over h h' n n' lg.2 = h' := by
 funext id
 unfold over
 by_cases hc : id ∈ lg.2 ∨ (n ≤ id ∧ id < n')
 ·rw [if_pos hc]
 ·rw [if_neg hc]
  exact (st.same id (fun h => hc (.inl h)) (fun h => hc (.inr h))).symm
section
variable {P : Program} {A : Ann} {call : Nat → List AV → AM AV} {B : Nat} {w0 : Anchor} {nt f : Nat}
theorem runOps_sim (hc : CallSim P A call) (hl : ∀ f vs, Local (call f vs)) (hB : B ≤ w0.w.heap.size) {ops : Array Oper} {Q : Exit → Act → World → Prop} : ∀ (l : List Oper) (k : Nat), ops.toList.drop k = l → ∀ {fr fr' : Fr} {h h' : Heap} {n n' : Nat} {lg : Log} {μ : Mu} {M : Mem} {w : World} {a : Act},
  Fresh h n → runOps call P A f nt ops l fr h n = some (fr', h', n', lg) → SR B w0 μ M h w → GlobOK A M → (∀ id, n ≤ id → id < n' → μ id = none) → RegR μ M nt fr.regs a →
  (∀ a' w' μ' M', SR B w0 μ' M' h' w' → μ.le μ' → M.le M' → (∀ id, ¬(n ≤ id ∧ id < n') → μ' id = μ id) → RegR μ' M' nt fr'.regs a' → Q .normal a' w') →
  wpOps P ops Q (List.range' k l.length) a w
 | [], k, hk, fr, fr', h, h', n, n', lg, μ, M, w, a, hf, e, sr, hg, hfree, rr, hQ => by
  obtain ⟨rfl, rfl, rfl⟩ := pure_some e
  exact hQ a w μ M sr (.refl _) (.refl _) (fun _ _ => rfl) rr
 | o :: l, k, hk, fr, fr', h, h', n, n', lg, μ, M, w, a, hf, e, sr, hg, hfree, rr, hQ => by
  unfold runOps at e
  obtain ⟨fr1, h1, n1, l1, l2, e1, e2, rfl⟩ := bind_some e
  obtain ⟨st1, _⟩ := local_stepA P A f nt hl ops o fr h n fr1 h1 n1 l1 hf e1
  obtain ⟨st2, _⟩ := local_runOps P A f nt hl ops l fr1 h1 n1 fr' h' n' l2 st1.fresh e2
  obtain ⟨v, hd⟩ := stepA_done e1
  have hle1 := st1.le
  have hle2 := st2.le
  have hk' : ops.toList.drop (k + 1) = l := by
   rw [← List.drop_drop, hk]
   rfl
  have ho : ops[k]? = some o := by
   have : (ops.toList.drop k)[0]? = some o := by rw [hk]; rfl
   rw [List.getElem?_drop] at this
   simpa using this
  rw [List.length_cons, List.range'_succ, wpOps_cons]
  refine hd.sim hc hl hB hf ho (fun _ _ => rfl) (fun _ _ => rfl) sr hg (fun id h1 h2 => hfree id h1 (by omega)) rr ?_
  intro a' w' μ' M' s1 s2 s3 s4 s5
  rw [over_self st1] at s1
  rw [← hd.regs] at s5
  refine runOps_sim hc hl hB l (k + 1) hk' st1.fresh e2 s1 (hg.mono s3) (fun id g1 g2 => by rw [s4 id (by omega)]; exact hfree id (by omega) g2) s5 ?_
  intro a2 w2 μ2 M2 t1 t2 t3 t4 t5
  exact hQ a2 w2 μ2 M2 t1 (s2.trans t2) (s3.trans t3) (fun id hid => by rw [t4 id (by omega), s4 id (by omega)]) t5
structure Rec where
 o : Oper
 fr : Fr
 h : Heap
 n : Nat
 fr' : Fr
 h' : Heap
 n' : Nat
 lg : Log
 v : AV
def Rec.ok (call : Nat → List AV → AM AV) (P : Program) (A : Ann) (f nt : Nat) (ops : Array Oper) (r : Rec) : Prop :=
 OpDone call P A f nt ops r.o r.fr r.h r.n r.fr' r.h' r.n' r.lg r.v ∧ Fresh r.h r.n ∧ Step r.h r.n r.h' r.n' r.lg
inductive Chain (call : Nat → List AV → AM AV) (P : Program) (A : Ann) (f nt : Nat) (ops : Array Oper) : List Rec → Fr → Heap → Nat → Fr → Heap → Nat → Prop where
 | nil (fr h n) : Chain call P A f nt ops [] fr h n fr h n
 | cons (r rs fr2 h2 n2) : r.ok call P A f nt ops → Chain call P A f nt ops rs r.fr' r.h' r.n' fr2 h2 n2 → Chain call P A f nt ops (r :: rs) r.fr r.h r.n fr2 h2 n2
theorem runLog_chain (hl : ∀ f vs, Local (call f vs)) {ops : Array Oper} : ∀ {l : List Oper} {fr fr' : Fr} {h h' : Heap} {n n' : Nat} {lgs : List LogN}, Fresh h n → runLog call P A f nt ops l fr h n = some (fr', h', n', lgs) →
  ∃ rs : List Rec, Chain call P A f nt ops rs fr h n fr' h' n' ∧ rs.map (·.o) = l ∧ rs.map (fun r => (r.lg, r.n, r.n')) = lgs
 | [], fr, fr', h, h', n, n', lgs, hf, e => by
  simp only [runLog, Option.some.injEq, Prod.mk.injEq] at e
  obtain ⟨rfl, rfl, rfl, rfl⟩ := e
  exact ⟨[], .nil _ _ _, rfl, rfl⟩
 | o :: l, fr, fr', h, h', n, n', lgs, hf, e => by
  unfold runLog at e
  cases e1 : stepA call P A f nt ops o fr h n with
  | none => rw [e1] at e; cases e
  | some x =>
   obtain ⟨fr1, h1, n1, l1⟩ := x
   rw [e1] at e
   simp only at e
   cases e2 : runLog call P A f nt ops l fr1 h1 n1 with
   | none => rw [e2] at e; cases e
   | some y =>
    obtain ⟨fr2, h2, n2, ls⟩ := y
    rw [e2] at e
    simp only [Option.some.injEq, Prod.mk.injEq] at e
    obtain ⟨rfl, rfl, rfl, rfl⟩ := e
    obtain ⟨st1, _⟩ := local_stepA P A f nt hl ops o fr h n fr1 h1 n1 l1 hf e1
    obtain ⟨v, hd⟩ := stepA_done e1
    obtain ⟨rs, c1, c2, c3⟩ := runLog_chain hl st1.fresh e2
    exact ⟨⟨o, fr, h, n, fr1, h1, n1, l1, v⟩ :: rs, .cons ⟨o, fr, h, n, fr1, h1, n1, l1, v⟩ rs _ _ _ ⟨hd, hf, st1⟩ c1, by simp [c2], by simp [c3]⟩
abbrev RS := (Nat → AV) × Heap
def Rec.apply (r : Rec) (s : RS) : RS := (putR r.o.dst r.v s.1, over s.2 r.h' r.n r.n' r.lg.2)
def foldSt (p : Nat → Bool) : Nat → List Rec → RS → RS
 | _, [], s => s
 | i, r :: rs, s => foldSt p (i + 1) rs (if p i then r.apply s else s)
def Rec.wReg (r : Rec) (t : Nat) : Prop := r.o.dst = some t
def Rec.wId (r : Rec) (id : Nat) : Prop := id ∈ r.lg.2 ∨ (r.n ≤ id ∧ id < r.n')
theorem apply_reg_ne {r : Rec} {s : RS} {t : Nat} (h : ¬ r.wReg t) : (r.apply s).1 t = s.1 t := by
 unfold Rec.apply putR
 unfold Rec.wReg at h
 cases hd : r.o.dst with
 | none => rfl
 | some d =>
  rw [hd] at h
  simp only [upd]
  rw [if_neg (fun e => h (by rw [e]))]
theorem apply_reg_eq {r : Rec} {s : RS} {t : Nat} (h : r.wReg t) : (r.apply s).1 t = r.v := by
 unfold Rec.apply putR
 unfold Rec.wReg at h
 rw [h]
 simp [upd]
theorem apply_id_ne {r : Rec} {s : RS} {id : Nat} (h : ¬ r.wId id) : (r.apply s).2 id = s.2 id := by
 unfold Rec.apply over
 exact if_neg h
theorem apply_id_eq {r : Rec} {s : RS} {id : Nat} (h : r.wId id) : (r.apply s).2 id = r.h' id := by
 unfold Rec.apply over
 exact if_pos h
theorem fold_reg {t : Nat} {p q : Nat → Bool} : ∀ (rs : List Rec) (i : Nat) (s u : RS), s.1 t = u.1 t → (∀ (k : Nat) r, rs[k]? = some r → r.wReg t → p (i + k) = q (i + k)) → (foldSt p i rs s).1 t = (foldSt q i rs u).1 t
 | [], _, _, _, h, _ => h
 | r :: rs, i, s, u, h, hpq => by
  unfold foldSt
  refine fold_reg rs (i + 1) _ _ ?_ (fun k r hk hw => by have := hpq (k + 1) r (by simpa using hk) hw; rwa [show i + (k + 1) = i + 1 + k by omega] at this)
  by_cases hw : r.wReg t
  ·have := hpq 0 r rfl hw
   simp only [Nat.add_zero] at this
   rw [this]
   split
   ·rw [apply_reg_eq hw, apply_reg_eq hw]
   ·exact h
  ·have e1 : (if p i then r.apply s else s).1 t = s.1 t := by split; exact apply_reg_ne hw; rfl
   have e2 : (if q i then r.apply u else u).1 t = u.1 t := by split; exact apply_reg_ne hw; rfl
   rw [e1, e2, h]
theorem fold_id {id : Nat} {p q : Nat → Bool} : ∀ (rs : List Rec) (i : Nat) (s u : RS), s.2 id = u.2 id → (∀ (k : Nat) r, rs[k]? = some r → r.wId id → p (i + k) = q (i + k)) → (foldSt p i rs s).2 id = (foldSt q i rs u).2 id
 | [], _, _, _, h, _ => h
 | r :: rs, i, s, u, h, hpq => by
  unfold foldSt
  refine fold_id rs (i + 1) _ _ ?_ (fun k r hk hw => by have := hpq (k + 1) r (by simpa using hk) hw; rwa [show i + (k + 1) = i + 1 + k by omega] at this)
  by_cases hw : r.wId id
  ·have := hpq 0 r rfl hw
   simp only [Nat.add_zero] at this
   rw [this]
   split
   ·rw [apply_id_eq hw, apply_id_eq hw]
   ·exact h
  ·have e1 : (if p i then r.apply s else s).2 id = s.2 id := by split; exact apply_id_ne hw; rfl
   have e2 : (if q i then r.apply u else u).2 id = u.2 id := by split; exact apply_id_ne hw; rfl
   rw [e1, e2, h]
theorem fold_reg_last {t : Nat} {p : Nat → Bool} : ∀ (rs : List Rec) (i k : Nat) (r : Rec) (s : RS), rs[k]? = some r → p (i + k) = true → r.wReg t → (∀ (m : Nat) r', rs[m]? = some r' → k < m → p (i + m) = true → ¬ r'.wReg t) → (foldSt p i rs s).1 t = r.v
 | [], _, _, _, _, h, _, _, _ => by simp at h
 | r0 :: rs, i, 0, r, s, h, hp, hw, hlast => by
  simp only [List.getElem?_cons_zero, Option.some.injEq] at h
  subst h
  unfold foldSt
  simp only [Nat.add_zero] at hp
  rw [hp]
  simp only [if_true]
  rw [fold_reg (q := fun _ => false) (t := t) rs (i + 1) (r0.apply s) (r0.apply s) rfl (fun k r hk hw' => by
   cases hpk : p (i + 1 + k) with
   | false => rfl
   | true => exact absurd hw' (hlast (k + 1) r (by simpa using hk) (by omega) (by rw [← hpk]; congr 1; omega)))]
  have : ∀ (rs : List Rec) (i : Nat) (s : RS), foldSt (fun _ => false) i rs s = s := by
   intro rs
   induction rs with
   | nil => intro i s; rfl
   | cons r rs ih => intro i s; unfold foldSt; simp only [Bool.false_eq_true, if_false]; exact ih _ _
  rw [this]
  exact apply_reg_eq hw
 | r0 :: rs, i, k + 1, r, s, h, hp, hw, hlast => by
  unfold foldSt
  exact fold_reg_last rs (i + 1) k r _ (by simpa using h) (by rw [← hp]; congr 1; omega) hw (fun m r' hm hlt hpm => hlast (m + 1) r' (by simpa using hm) (by omega) (by rw [← hpm]; congr 1; omega))
theorem fold_id_last {id : Nat} {p : Nat → Bool} : ∀ (rs : List Rec) (i k : Nat) (r : Rec) (s : RS), rs[k]? = some r → p (i + k) = true → r.wId id → (∀ (m : Nat) r', rs[m]? = some r' → k < m → p (i + m) = true → ¬ r'.wId id) → (foldSt p i rs s).2 id = r.h' id
 | [], _, _, _, _, h, _, _, _ => by simp at h
 | r0 :: rs, i, 0, r, s, h, hp, hw, hlast => by
  simp only [List.getElem?_cons_zero, Option.some.injEq] at h
  subst h
  unfold foldSt
  simp only [Nat.add_zero] at hp
  rw [hp]
  simp only [if_true]
  rw [fold_id (q := fun _ => false) (id := id) rs (i + 1) (r0.apply s) (r0.apply s) rfl (fun k r hk hw' => by
   cases hpk : p (i + 1 + k) with
   | false => rfl
   | true => exact absurd hw' (hlast (k + 1) r (by simpa using hk) (by omega) (by rw [← hpk]; congr 1; omega)))]
  have : ∀ (rs : List Rec) (i : Nat) (s : RS), foldSt (fun _ => false) i rs s = s := by
   intro rs
   induction rs with
   | nil => intro i s; rfl
   | cons r rs ih => intro i s; unfold foldSt; simp only [Bool.false_eq_true, if_false]; exact ih _ _
  rw [this]
  exact apply_id_eq hw
 | r0 :: rs, i, k + 1, r, s, h, hp, hw, hlast => by
  unfold foldSt
  exact fold_id_last rs (i + 1) k r _ (by simpa using h) (by rw [← hp]; congr 1; omega) hw (fun m r' hm hlt hpm => hlast (m + 1) r' (by simpa using hm) (by omega) (by rw [← hpm]; congr 1; omega))
theorem fold_add {p : Nat → Bool} {j : Nat} {rs : List Rec} {r : Rec} {s : RS} (hj : rs[j]? = some r) (hpj : p j = false)
  (hreg : ∀ (m : Nat) r' t, rs[m]? = some r' → j < m → p m = true → r.wReg t → ¬ r'.wReg t) (hid : ∀ (m : Nat) r' id, rs[m]? = some r' → j < m → p m = true → r.wId id → ¬ r'.wId id) :
  foldSt (fun i => p i || i == j) 0 rs s = r.apply (foldSt p 0 rs s) := by
 apply Prod.ext
 ·funext t
  by_cases hw : r.wReg t
  ·rw [apply_reg_eq hw, fold_reg_last rs 0 j r s hj (by simp) hw]
   intro m r' hm hlt hpm
   simp only [Nat.zero_add, Bool.or_eq_true, beq_iff_eq] at hpm
   exact hreg m r' t hm hlt (hpm.resolve_right (by omega)) hw
  ·rw [apply_reg_ne hw]
   refine fold_reg rs 0 s s rfl (fun k r' hk hw' => ?_)
   simp only [Nat.zero_add]
   by_cases e : k = j
   ·subst e
    rw [hj] at hk
    cases hk
    exact absurd hw' hw
   ·simp [e]
 ·funext id
  by_cases hw : r.wId id
  ·rw [apply_id_eq hw, fold_id_last rs 0 j r s hj (by simp) hw]
   intro m r' hm hlt hpm
   simp only [Nat.zero_add, Bool.or_eq_true, beq_iff_eq] at hpm
   exact hid m r' id hm hlt (hpm.resolve_right (by omega)) hw
  ·rw [apply_id_ne hw]
   refine fold_id rs 0 s s rfl (fun k r' hk hw' => ?_)
   simp only [Nat.zero_add]
   by_cases e : k = j
   ·subst e
    rw [hj] at hk
    cases hk
    exact absurd hw' hw
   ·simp [e]
theorem Rec.ok.applies {ops : Array Oper} {r : Rec} (h : r.ok call P A f nt ops) : r.apply (r.fr.regs, r.h) = (r.fr'.regs, r.h') := by
 unfold Rec.apply
 rw [h.1.regs, over_self h.2.2]
theorem chain_fold {ops : Array Oper} {rs : List Rec} {fr fr' : Fr} {h h' : Heap} {n n' : Nat} (c : Chain call P A f nt ops rs fr h n fr' h' n') :
  ∀ i, foldSt (fun _ => true) i rs (fr.regs, h) = (fr'.regs, h') := by
 induction c with
 | nil => intro i; rfl
 | cons r rs fr2 h2 n2 hok _ ih =>
  intro i
  unfold foldSt
  simp only [if_true]
  rw [hok.applies]
  exact ih _
theorem chain_at {ops : Array Oper} {rs : List Rec} {fr fr' : Fr} {h h' : Heap} {n n' : Nat} (c : Chain call P A f nt ops rs fr h n fr' h' n') :
  ∀ (i j : Nat) (r : Rec), rs[j]? = some r → foldSt (fun k => decide (k < i + j)) i rs (fr.regs, h) = (r.fr.regs, r.h) ∧ r.ok call P A f nt ops ∧ n ≤ r.n ∧ r.n' ≤ n' := by
 have hle : ∀ {rs : List Rec} {fr fr' : Fr} {h h' : Heap} {n n' : Nat}, Chain call P A f nt ops rs fr h n fr' h' n' → n ≤ n' := by
  intro rs fr fr' h h' n n' c
  induction c with
  | nil => exact Nat.le_refl _
  | cons r rs fr2 h2 n2 hok _ ih => exact Nat.le_trans hok.2.2.le ih
 have none : ∀ (rs : List Rec) (i m : Nat) (s : RS), m ≤ i → foldSt (fun k => decide (k < m)) i rs s = s := by
  intro rs
  induction rs with
  | nil => intro i m s _; rfl
  | cons r rs ih =>
   intro i m s hm
   unfold foldSt
   rw [if_neg (by simp only [decide_eq_true_eq]; omega)]
   exact ih _ _ _ (by omega)
 induction c with
 | nil => intro i j r hr; simp at hr
 | cons r0 rs fr2 h2 n2 hok hc ih =>
  intro i j r hr
  cases j with
  | zero =>
   simp only [List.getElem?_cons_zero, Option.some.injEq] at hr
   subst hr
   exact ⟨none _ _ _ _ (by omega), hok, Nat.le_refl _, hle hc⟩
  | succ j =>
   obtain ⟨k1, k2, k3, k4⟩ := ih (i + 1) j r (by simpa using hr)
   refine ⟨?_, k2, Nat.le_trans hok.2.2.le k3, k4⟩
   unfold foldSt
   rw [if_pos (by simp only [decide_eq_true_eq]; omega), hok.applies, show i + (j + 1) = i + 1 + j by omega]
   exact k1
theorem chain_ranges {ops : Array Oper} {rs : List Rec} {fr fr' : Fr} {h h' : Heap} {n n' : Nat} (c : Chain call P A f nt ops rs fr h n fr' h' n') :
  ∀ (i j : Nat) (r q : Rec), rs[i]? = some r → rs[j]? = some q → i < j → r.n' ≤ q.n := by
 induction c with
 | nil => intro i j r q hr; simp at hr
 | cons r0 rs fr2 h2 n2 hok hc ih =>
  intro i j r q hr hq hij
  cases j with
  | zero => omega
  | succ j =>
   cases i with
   | zero =>
    simp only [List.getElem?_cons_zero, Option.some.injEq] at hr
    subst hr
    exact (chain_at hc 0 j q (by simpa using hq)).2.2.1
   | succ i => exact ih i j r q (by simpa using hr) (by simpa using hq) (by omega)
end
end Go.Abs
