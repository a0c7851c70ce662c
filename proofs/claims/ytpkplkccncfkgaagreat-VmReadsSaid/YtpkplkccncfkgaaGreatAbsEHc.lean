/- The quick evaluator is sound: the heap, and what each step leaves. -/
import Derived.Test.YtpkplkccncfkgaaGreatAbsEHb
namespace Go.Abs

/- the heap as a list, newest first -/
def HL.look : HL → Nat → Option AObj
  | .nil, _ => none
  | .cons j o r, id => if id = j then some o else r.look id
def HL.ok : Nat → HL → Prop
  | _, .nil => True
  | n, .cons j _ r => j < n ∧ HL.ok j r

section
variable {r : AV}

theorem HL.ok_le : ∀ {H : HL} {n m : Nat}, H.ok n → n ≤ m → H.ok m
  | .nil, _, _, _, _ => trivial
  | .cons _j _o _t, _n, _m, h, hl => ⟨Nat.lt_of_lt_of_le h.1 hl, h.2⟩
theorem HL.look_ge : ∀ {H : HL} {n id : Nat}, H.ok n → n ≤ id → H.look id = none
  | .nil, _, _, _, _ => rfl
  | .cons j o t, n, id, h, hl => by
    have h1 : j < n := h.1
    simp only [HL.look]
    rw [if_neg (by omega)]
    exact HL.look_ge h.2 (by omega)
theorem HL.get_el : ∀ {H : HL} {id : Nat} {k : AObj → RT}, H.get id k = some r → ∃ o, H.look id = some o ∧ k o = some r
  | .nil, _, _, h => (nn h).elim
  | .cons j o t, id, k, h => by
    replace h : Bool.rec (motive := fun _ => RT) (t.get id k) (k o) (Nat.beq id j) = some r := h
    replace h := br_b h
    rcases h with ⟨h1, h⟩ | ⟨h1, h⟩
    · obtain ⟨o', h2, h3⟩ := HL.get_el h
      exact ⟨o', by simp only [HL.look]; rw [if_neg (beq_ne h1)]; exact h2, h3⟩
    · exact ⟨o, by simp only [HL.look]; rw [if_pos (beq_eq h1)], h⟩
theorem HL.set_el : ∀ {H : HL} {n id : Nat} {x : AObj} {k : HL → RT}, H.ok n → H.set id x k = some r → ∃ H', H.look id ≠ none ∧ H'.ok n ∧ (∀ i, H'.look i = upd H.look id (some x) i) ∧ k H' = some r
  | .nil, _, _, _, _, _, h => (nn h).elim
  | .cons j o t, n, id, x, k, ho, h => by
    replace h : Bool.rec (motive := fun _ => RT) (t.set id x fun r => k (.cons j o r)) (k (.cons j x t)) (Nat.beq id j) = some r := h
    replace h := br_b h
    rcases h with ⟨h1, h⟩ | ⟨h1, h⟩
    · have hne := beq_ne h1
      obtain ⟨t', h2, h3, h4, h5⟩ := HL.set_el ho.2 h
      refine ⟨.cons j o t', by simp only [HL.look]; rw [if_neg hne]; exact h2, ⟨ho.1, h3⟩, fun i => ?_, h5⟩
      have := h4 i
      unfold upd at this ⊢
      simp only [HL.look]
      by_cases hi : i = id
      · rw [if_pos hi] at this ⊢
        rw [if_neg (by omega)]
        exact this
      · rw [if_neg hi] at this ⊢
        split
        · rfl
        · exact this
    · have := beq_eq h1
      subst this
      refine ⟨.cons id x t, by simp [HL.look], ho, fun i => ?_, h⟩
      unfold upd
      simp only [HL.look]
      split <;> rfl
theorem HL.del_el : ∀ {H : HL} {n id : Nat} {k : HL → RT}, H.ok n → H.del id k = some r → ∃ H', H.look id ≠ none ∧ H'.ok n ∧ (∀ i, H'.look i = upd H.look id none i) ∧ k H' = some r
  | .nil, _, _, _, _, h => (nn h).elim
  | .cons j o t, n, id, k, ho, h => by
    replace h : Bool.rec (motive := fun _ => RT) (t.del id fun r => k (.cons j o r)) (k t) (Nat.beq id j) = some r := h
    replace h := br_b h
    rcases h with ⟨h1, h⟩ | ⟨h1, h⟩
    · have hne := beq_ne h1
      obtain ⟨t', h2, h3, h4, h5⟩ := HL.del_el ho.2 h
      refine ⟨.cons j o t', by simp only [HL.look]; rw [if_neg hne]; exact h2, ⟨ho.1, h3⟩, fun i => ?_, h5⟩
      have := h4 i
      unfold upd at this ⊢
      simp only [HL.look]
      by_cases hi : i = id
      · rw [if_pos hi] at this ⊢
        rw [if_neg (by omega)]
        exact this
      · rw [if_neg hi] at this ⊢
        split
        · rfl
        · exact this
    · have := beq_eq h1
      subst this
      have hlt : id < n := ho.1
      refine ⟨t, by simp [HL.look], HL.ok_le ho.2 (by omega), fun i => ?_, h⟩
      unfold upd
      simp only [HL.look]
      by_cases hi : i = id
      · rw [if_pos hi, hi]
        exact HL.look_ge ho.2 (Nat.le_refl _)
      · rw [if_neg hi, if_neg hi]
theorem HL.rid_el : ∀ {H : HL} {n id : Nat} {k : HL → RT}, H.ok n → H.rid id k = some r → ∃ H' : HL, H'.ok n ∧ (∀ i, H'.look i = upd H.look id none i) ∧ k H' = some r
  | .nil, _, id, _, ho, h => ⟨.nil, trivial, fun i => by unfold upd; simp [HL.look], h⟩
  | .cons j o t, n, id, k, ho, h => by
    replace h : Bool.rec (motive := fun _ => RT) (Bool.rec (motive := fun _ => RT) (k (.cons j o t)) (t.rid id fun r => k (.cons j o r)) (Nat.ble id j)) (k t) (Nat.beq id j) = some r := h
    have hlt : j < n := ho.1
    replace h := br_b h
    rcases h with ⟨h1, h⟩ | ⟨h1, h⟩
    · have hne := beq_ne h1
      replace h := br_b h
      rcases h with ⟨h6, h⟩ | ⟨h6, h⟩
      · have := ble_nle h6
        refine ⟨.cons j o t, ho, fun i => ?_, h⟩
        unfold upd
        split
        · rename_i e
          subst e
          simp only [HL.look]
          rw [if_neg hne]
          exact HL.look_ge ho.2 (by omega)
        · rfl
      · obtain ⟨t', h3, h4, h5⟩ := HL.rid_el ho.2 h
        refine ⟨.cons j o t', ⟨ho.1, h3⟩, fun i => ?_, h5⟩
        have := h4 i
        unfold upd at this ⊢
        simp only [HL.look]
        by_cases hi : i = id
        · rw [if_pos hi] at this ⊢
          rw [if_neg (by omega)]
          exact this
        · rw [if_neg hi] at this ⊢
          split
          · rfl
          · exact this
    · have := beq_eq h1
      subst this
      refine ⟨t, HL.ok_le ho.2 (by omega), fun i => ?_, h⟩
      unfold upd
      simp only [HL.look]
      by_cases hi : i = id
      · rw [if_pos hi, hi]
        exact HL.look_ge ho.2 (Nat.le_refl _)
      · rw [if_neg hi, if_neg hi]
theorem HL.ids_el {n0 : Nat} : ∀ {l : List Nat} {H : HL} {n : Nat} {k : HL → RT}, H.ok n → ridsC n0 l H k = some r → ∃ H' : HL, H'.ok n ∧ (∀ i, H'.look i = if i ∈ l then none else H.look i) ∧ (∀ i ∈ l, n0 ≤ i) ∧ k H' = some r
  | [], H, n, k, ho, h => ⟨H, ho, fun i => by simp, by simp, h⟩
  | a :: l, H, n, k, ho, h => by
    replace h : Bool.rec (motive := fun _ => RT) none (H.rid a fun h => ridsC n0 l h k) (Nat.ble n0 a) = some r := h
    replace h := br_t h
    obtain ⟨h1, h⟩ := h
    obtain ⟨H1, h2, h3, h⟩ := HL.rid_el ho h
    obtain ⟨H2, h4, h5, h6, h⟩ := HL.ids_el h2 h
    refine ⟨H2, h4, fun i => ?_, ?_, h⟩
    · rw [h5 i, h3 i]
      unfold upd
      by_cases hi : i = a
      · simp [hi]
      · simp [hi]
    · intro i hi
      rcases List.mem_cons.1 hi with rfl | hi
      · exact ble_le h1
      · exact h6 i hi

theorem memB_el : ∀ {l : List Nat} {i : Nat}, memB l i = true → i ∈ l
  | [], _, h => by cases h
  | a :: l, i, h => by
    replace h : Bool.rec (motive := fun _ => Bool) (memB l i) true (Nat.beq i a) = true := h
    cases e : Nat.beq i a with
    | true => rw [beq_eq e]; simp
    | false => rw [e] at h; exact List.mem_cons_of_mem _ (memB_el h)
theorem memB_no : ∀ {l : List Nat} {i : Nat}, memB l i = false → i ∉ l
  | [], _, h => by simp
  | a :: l, i, h => by
    replace h : Bool.rec (motive := fun _ => Bool) (memB l i) true (Nat.beq i a) = false := h
    cases e : Nat.beq i a with
    | true => rw [e] at h; cases h
    | false =>
      rw [e] at h
      have := memB_no h
      simp [beq_ne e, this]
theorem insC_el {id thr : Nat} {l : List Nat} {k : List Nat → RT} (h : insC id thr l k = some r) : ∃ l', (∀ x ∈ l, x ∈ l') ∧ (id < thr → id ∈ l') ∧ k l' = some r := by
  unfold insC at h
  replace h := br_b h
  rcases h with ⟨h1, h⟩ | ⟨h1, h⟩
  · have := ble_nle h1
    exact ⟨l, fun _ hx => hx, fun hl => absurd hl (by omega), h⟩
  · replace h := br_b h
    rcases h with ⟨h2, h⟩ | ⟨h2, h⟩
    · exact ⟨id :: l, fun _ hx => List.mem_cons_of_mem _ hx, fun _ => by simp, h⟩
    · exact ⟨l, fun _ hx => hx, fun _ => memB_el h2, h⟩
theorem mergeC_el : ∀ {l : List Nat} {thr : Nat} {m : List Nat} {k : List Nat → RT}, mergeC l thr m k = some r → ∃ m', (∀ x ∈ m, x ∈ m') ∧ (∀ x ∈ l, x < thr → x ∈ m') ∧ k m' = some r
  | [], thr, m, k, h => ⟨m, fun _ hx => hx, by simp, h⟩
  | a :: l, thr, m, k, h => by
    replace h : insC a thr m (fun m => mergeC l thr m k) = some r := h
    replace h := insC_el h
    obtain ⟨m1, h1, h2, h⟩ := h
    replace h := mergeC_el h
    obtain ⟨m2, h3, h4, h⟩ := h
    refine ⟨m2, fun x hx => h3 x (h1 x hx), fun x hx hl => ?_, h⟩
    rcases List.mem_cons.1 hx with rfl | hx
    · exact h3 _ (h2 hl)
    · exact h4 x hx hl

/- the evaluator's state against the machine's -/
structure Rel (s : HS) (h : Heap) (n : Nat) : Prop where
  look : ∀ id, s.h.look id = h id
  ok : s.h.ok n
  num : s.n = n
  mw : s.mw ≤ n
  thr : s.thr ≤ n

theorem Rel.fresh {s : HS} {h : Heap} {n : Nat} (hr : Rel s h n) : Fresh h n := fun id hl => by rw [← hr.look]; exact HL.look_ge hr.ok hl
theorem Rel.lt {s : HS} {h : Heap} {n id : Nat} (hr : Rel s h n) (hi : h id ≠ none) : id < n := by
  by_cases hl : n ≤ id
  · exact absurd (hr.fresh id hl) hi
  · omega

/- what a step leaves -/
structure Nx (s : HS) (h : Heap) (n : Nat) (lg : Log) (s' : HS) (h' : Heap) (n' : Nat) : Prop where
  rel : Rel s' h' n'
  le : n ≤ n'
  bx : s'.bx = s.bx
  thr : s'.thr = s.thr
  rd : ∀ id, id ∈ s.rd ∨ (id < s.thr ∧ id ∈ lg.1) → id ∈ s'.rd
  wr : ∀ id, id ∈ s.wr ∨ (id < s.thr ∧ id ∈ lg.2) → id ∈ s'.wr
  own : ∀ id, id ∈ lg.1 ∨ id ∈ lg.2 → id < n'
  mw : ∀ id ∈ lg.2, s'.mw ≤ id
  mw2 : s'.mw = s.mw ∨ s'.mw ∈ lg.2
  mwle : s'.mw ≤ s.mw
  frame : ∀ id, id < n → id ∉ lg.2 → h' id = h id

theorem Nx.refl {s : HS} {h : Heap} {n : Nat} (hr : Rel s h n) : Nx s h n ([], []) s h n :=
  ⟨hr, Nat.le_refl _, rfl, rfl, by simp, by simp, by simp, by simp, .inl rfl, Nat.le_refl _, fun _ _ _ => rfl⟩
theorem Nx.trans {s s1 s2 : HS} {h h1 h2 : Heap} {n n1 n2 : Nat} {l1 l2 : Log} (a : Nx s h n l1 s1 h1 n1) (b : Nx s1 h1 n1 l2 s2 h2 n2) : Nx s h n (l1.1 ++ l2.1, l1.2 ++ l2.2) s2 h2 n2 := by
  refine ⟨b.rel, Nat.le_trans a.le b.le, b.bx.trans a.bx, b.thr.trans a.thr, ?_, ?_, ?_, ?_, ?_, Nat.le_trans b.mwle a.mwle, ?_⟩
  · rintro id (hi | ⟨hl, hi⟩)
    · exact b.rd id (.inl (a.rd id (.inl hi)))
    · rcases List.mem_append.1 hi with hi | hi
      · exact b.rd id (.inl (a.rd id (.inr ⟨hl, hi⟩)))
      · exact b.rd id (.inr ⟨by rw [a.thr]; exact hl, hi⟩)
  · rintro id (hi | ⟨hl, hi⟩)
    · exact b.wr id (.inl (a.wr id (.inl hi)))
    · rcases List.mem_append.1 hi with hi | hi
      · exact b.wr id (.inl (a.wr id (.inr ⟨hl, hi⟩)))
      · exact b.wr id (.inr ⟨by rw [a.thr]; exact hl, hi⟩)
  · rintro id (hi | hi) <;> rcases List.mem_append.1 hi with hi | hi
    · exact Nat.lt_of_lt_of_le (a.own id (.inl hi)) b.le
    · exact b.own id (.inl hi)
    · exact Nat.lt_of_lt_of_le (a.own id (.inr hi)) b.le
    · exact b.own id (.inr hi)
  · intro id hi
    rcases List.mem_append.1 hi with hi | hi
    · exact Nat.le_trans b.mwle (a.mw id hi)
    · exact b.mw id hi
  · rcases b.mw2 with e | e
    · rcases a.mw2 with e2 | e2
      · exact .inl (e.trans e2)
      · exact .inr (by rw [e]; exact List.mem_append_left _ e2)
    · exact .inr (List.mem_append_right _ e)
  · intro id hl hi
    simp only [List.mem_append, not_or] at hi
    rw [b.frame id (Nat.lt_of_lt_of_le hl a.le) hi.2, a.frame id hl hi.1]
/- what its own objects told is not told on -/
theorem Nx.hush {s s' : HS} {h h' : Heap} {n n' : Nat} {lg : Log} (a : Nx s h n lg s' h' n') (hm : s.mw ≤ n) : Nx s h n (lg.1.filter (· < n), lg.2.filter (· < n)) s' h' n' := by
  refine ⟨a.rel, a.le, a.bx, a.thr, ?_, ?_, ?_, ?_, ?_, a.mwle, ?_⟩
  · rintro id (hi | ⟨hl, hi⟩)
    · exact a.rd id (.inl hi)
    · exact a.rd id (.inr ⟨hl, (List.mem_filter.1 hi).1⟩)
  · rintro id (hi | ⟨hl, hi⟩)
    · exact a.wr id (.inl hi)
    · exact a.wr id (.inr ⟨hl, (List.mem_filter.1 hi).1⟩)
  · rintro id (hi | hi)
    · exact a.own id (.inl (List.mem_filter.1 hi).1)
    · exact a.own id (.inr (List.mem_filter.1 hi).1)
  · exact fun id hi => a.mw id (List.mem_filter.1 hi).1
  · rcases a.mw2 with e | e
    · exact .inl e
    · by_cases hl : s'.mw < n
      · exact .inr (List.mem_filter.2 ⟨e, by simpa using hl⟩)
      · exact .inl (by have := a.mwle; omega)
  · intro id hl hi
    exact a.frame id hl fun hc => hi (List.mem_filter.2 ⟨hc, by simpa using hl⟩)

/- the steps over the heap -/
theorem mget_el {s : HS} {h : Heap} {n id : Nat} {K : AObj → HS → RT} (hr : Rel s h n) (e : mget id s K = some r) : ∃ o s1, h id = some o ∧ Nx s h n ([id], []) s1 h n ∧ K o s1 = some r := by
  obtain ⟨H, m, bx, thr, rd, wr, mw⟩ := s
  replace e : H.get id (fun o => insC id thr rd fun rd => K o ⟨H, m, bx, thr, rd, wr, mw⟩) = some r := e
  obtain ⟨o, h1, e⟩ := HL.get_el e
  obtain ⟨l, h2, h3, e⟩ := insC_el e
  have h1' : h id = some o := by rw [← hr.look]; exact h1
  refine ⟨o, ⟨H, m, bx, thr, l, wr, mw⟩, h1', ⟨⟨hr.look, hr.ok, hr.num, hr.mw, hr.thr⟩, Nat.le_refl _, rfl, rfl, ?_, by simp, ?_, by simp, .inl rfl, Nat.le_refl _, fun _ _ _ => rfl⟩, e⟩
  · rintro i (hi | ⟨hl, hi⟩)
    · exact h2 i hi
    · simp only [List.mem_singleton] at hi
      subst hi
      exact h3 hl
  · rintro i (hi | hi)
    · simp only [List.mem_singleton] at hi
      subst hi
      exact hr.lt (by rw [h1']; simp)
    · simp at hi
theorem mcells_el {s : HS} {h : Heap} {n id : Nat} {K : List AV → HS → RT} (hr : Rel s h n) (e : mcells id s K = some r) : ∃ cs s1, h id = some (.cells cs) ∧ Nx s h n ([id], []) s1 h n ∧ K cs s1 = some r := by
  obtain ⟨o, s1, h1, h2, e⟩ := mget_el hr e
  cases o with
  | cells cs => exact ⟨cs, s1, h1, h2, e⟩
  | map es => exact (nn e).elim
theorem wr_nx {s : HS} {h : Heap} {n id : Nat} {x : Option AObj} {H' : HL} {wr : List Nat} (hr : Rel s h n) (h1 : s.h.look id ≠ none) (h2 : H'.ok n) (h3 : ∀ i, H'.look i = upd s.h.look id x i) (h4 : ∀ y ∈ s.wr, y ∈ wr) (h5 : id < s.thr → id ∈ wr) :
    Nx s h n ([], [id]) ⟨H', s.n, s.bx, s.thr, s.rd, wr, min id s.mw⟩ (upd h id x) n := by
  have hlt : id < n := hr.lt (by rw [← hr.look]; exact h1)
  refine ⟨⟨fun i => ?_, h2, hr.num, ?_, hr.thr⟩, Nat.le_refl _, rfl, rfl, by simp, ?_, ?_, ?_, ?_, Nat.min_le_right _ _, ?_⟩
  · rw [h3 i]
    unfold upd
    rw [hr.look]
  · have := hr.mw
    exact Nat.le_trans (Nat.min_le_right _ _) this
  · rintro i (hi | ⟨hl, hi⟩)
    · exact h4 i hi
    · simp only [List.mem_singleton] at hi
      subst hi
      exact h5 hl
  · rintro i (hi | hi)
    · simp at hi
    · simp only [List.mem_singleton] at hi
      omega
  · intro i hi
    simp only [List.mem_singleton] at hi
    subst hi
    exact Nat.min_le_left _ _
  · by_cases hc : id ≤ s.mw
    · right; simp only [List.mem_singleton]; exact Nat.min_eq_left hc
    · left; exact Nat.min_eq_right (by omega)
  · intro i _ hi
    simp only [List.mem_singleton] at hi
    unfold upd
    rw [if_neg hi]
theorem mset_el {s : HS} {h : Heap} {n id : Nat} {x : AObj} {K : Unit → HS → RT} (hr : Rel s h n) (e : mset id x s K = some r) : ∃ s1, h id ≠ none ∧ Nx s h n ([], [id]) s1 (upd h id (some x)) n ∧ K () s1 = some r := by
  obtain ⟨H, m, bx, thr, rd, wr, mw⟩ := s
  replace e : H.set id x (fun H => insC id thr wr fun wr => minC id mw fun mw => K () ⟨H, m, bx, thr, rd, wr, mw⟩) = some r := e
  obtain ⟨H', h1, h2, h3, e⟩ := HL.set_el hr.ok e
  obtain ⟨l, h4, h5, e⟩ := insC_el e
  rw [minC_eq] at e
  exact ⟨_, by rw [← hr.look]; exact h1, wr_nx hr h1 h2 h3 h4 h5, e⟩
theorem mkill_el {s : HS} {h : Heap} {n id : Nat} {K : Unit → HS → RT} (hr : Rel s h n) (e : mkill id s K = some r) : ∃ s1, h id ≠ none ∧ Nx s h n ([], [id]) s1 (upd h id none) n ∧ K () s1 = some r := by
  obtain ⟨H, m, bx, thr, rd, wr, mw⟩ := s
  replace e : H.del id (fun H => insC id thr wr fun wr => minC id mw fun mw => K () ⟨H, m, bx, thr, rd, wr, mw⟩) = some r := e
  obtain ⟨H', h1, h2, h3, e⟩ := HL.del_el hr.ok e
  obtain ⟨l, h4, h5, e⟩ := insC_el e
  rw [minC_eq] at e
  exact ⟨_, by rw [← hr.look]; exact h1, wr_nx hr h1 h2 h3 h4 h5, e⟩
theorem mnew_el {s : HS} {h : Heap} {n : Nat} {x : AObj} {K : Nat → HS → RT} (hr : Rel s h n) (e : mnew x s K = some r) : ∃ s1, Nx s h n ([], []) s1 (upd h n (some x)) (n + 1) ∧ K n s1 = some r := by
  obtain ⟨H, m, bx, thr, rd, wr, mw⟩ := s
  replace e : forceN (Nat.succ m) (fun n' => K m ⟨.cons m x H, n', bx, thr, rd, wr, mw⟩) = some r := e
  rw [forceN_eq] at e
  have hm : m = n := hr.num
  subst hm
  refine ⟨⟨.cons m x H, m + 1, bx, thr, rd, wr, mw⟩, ⟨⟨fun i => ?_, ⟨Nat.lt_succ_self _, hr.ok⟩, rfl, ?_, Nat.le_trans hr.thr (Nat.le_succ _)⟩, Nat.le_succ _, rfl, rfl, by simp, by simp, by simp, by simp, .inl rfl, Nat.le_refl _, ?_⟩, e⟩
  · unfold upd
    simp only [HL.look]
    split
    · rfl
    · exact hr.look i
  · have : mw ≤ m := hr.mw
    show mw ≤ m + 1
    omega
  · intro i hi _
    unfold upd
    rw [if_neg (by omega)]
theorem mtick_el {s : HS} {h : Heap} {n : Nat} {K : Unit → HS → RT} (hr : Rel s h n) (e : mtick s K = some r) : ∃ s1, Nx s h n ([], []) s1 h (n + 1) ∧ K () s1 = some r := by
  obtain ⟨H, m, bx, thr, rd, wr, mw⟩ := s
  replace e : forceN (Nat.succ m) (fun n' => K () ⟨H, n', bx, thr, rd, wr, mw⟩) = some r := e
  rw [forceN_eq] at e
  have hm : m = n := hr.num
  subst hm
  refine ⟨⟨H, m + 1, bx, thr, rd, wr, mw⟩, ⟨⟨hr.look, HL.ok_le hr.ok (Nat.le_succ _), rfl, ?_, Nat.le_trans hr.thr (Nat.le_succ _)⟩, Nat.le_succ _, rfl, rfl, by simp, by simp, by simp, by simp, .inl rfl, Nat.le_refl _, fun _ _ _ => rfl⟩, e⟩
  have : mw ≤ m := hr.mw
  show mw ≤ m + 1
  omega
end
end Go.Abs
