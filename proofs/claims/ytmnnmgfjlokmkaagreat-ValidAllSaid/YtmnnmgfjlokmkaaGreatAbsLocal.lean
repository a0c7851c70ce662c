import Derived.Test.YtmnnmgfjlokmkaaGreatAbsCore
namespace Go.Abs
def Fresh (h : Heap) (n : Nat) : Prop := ∀ id, n ≤ id → h id = none
def over (g h' : Heap) (n n' : Nat) (w : List Nat) : Heap := fun id => if id ∈ w ∨ (n ≤ id ∧ id < n') then h' id else g id
structure Step (h : Heap) (n : Nat) (h' : Heap) (n' : Nat) (lg : Log) : Prop where
  le : n ≤ n'
  fresh : Fresh h' n'
  lt : ∀ id, id ∈ lg.1 ∨ id ∈ lg.2 → id < n'
  same : ∀ id, id ∉ lg.2 → ¬(n ≤ id ∧ id < n') → h' id = h id
  live : ∀ id, id ∈ lg.1 ∨ id ∈ lg.2 → id < n → h id ≠ none
def Agree (g h : Heap) (n n' : Nat) (lg : Log) : Prop := ∀ id, id ∈ lg.1 ∨ id ∈ lg.2 ∨ (n ≤ id ∧ id < n') → g id = h id
def Local {α : Type} (m : AM α) : Prop := ∀ h n r h' n' lg, Fresh h n → m h n = some (r, h', n', lg) →
  Step h n h' n' lg ∧ ∀ g, Agree g h n n' lg → m g n = some (r, over g h' n n' lg.2, n', lg)
theorem over_nil (g h : Heap) (n : Nat) : over g h n n [] = g := by
  funext id
  simp only [over, List.not_mem_nil, false_or]
  exact if_neg (by omega)
theorem Local.pure {α : Type} (a : α) : Local (AM.pure a) := by
  intro h n r h' n' lg hf he
  simp only [AM.pure, Option.some.injEq, Prod.mk.injEq] at he
  obtain ⟨rfl, rfl, rfl, rfl⟩ := he
  refine ⟨⟨Nat.le_refl _, hf, by simp, by simp, by simp⟩, fun g _ => ?_⟩
  simp only [AM.pure, over_nil]
theorem Local.fail {α : Type} : Local (AM.fail : AM α) := by
  intro h n r h' n' lg _ he
  simp [AM.fail] at he
theorem Local.lift {α : Type} (a : Option α) : Local (AM.lift a) := by
  cases a with
  | none => exact Local.fail
  | some a => exact Local.pure a
theorem Step.trans {h h1 h2 : Heap} {n n1 n2 : Nat} {l1 l2 : Log} (a : Step h n h1 n1 l1) (b : Step h1 n1 h2 n2 l2) :
    Step h n h2 n2 (l1.1 ++ l2.1, l1.2 ++ l2.2) := by
  refine ⟨Nat.le_trans a.le b.le, b.fresh, ?_, ?_, ?_⟩
  rotate_left 2
  · have key : ∀ id, id ∈ l2.1 ∨ id ∈ l2.2 → id < n → h id ≠ none := by
      intro id hid hlt
      have h2 := b.live id hid (Nat.lt_of_lt_of_le hlt a.le)
      by_cases hw : id ∈ l1.2
      · exact a.live id (.inr hw) hlt
      · rwa [a.same id hw (by omega)] at h2
    intro id hid hlt
    simp only [List.mem_append] at hid
    rcases hid with (h | h) | (h | h)
    · exact a.live id (.inl h) hlt
    · exact key id (.inl h) hlt
    · exact a.live id (.inr h) hlt
    · exact key id (.inr h) hlt
  · intro id hid
    simp only [List.mem_append] at hid
    rcases hid with (h | h) | (h | h)
    · exact Nat.lt_of_lt_of_le (a.lt id (.inl h)) b.le
    · exact b.lt id (.inl h)
    · exact Nat.lt_of_lt_of_le (a.lt id (.inr h)) b.le
    · exact b.lt id (.inr h)
  · intro id hid hn
    simp only [List.mem_append, not_or] at hid
    have hle := a.le
    have hle2 := b.le
    rw [b.same id hid.2 (by omega), a.same id hid.1 (by omega)]
theorem Local.bind {α β : Type} {m : AM α} {f : α → AM β} (hm : Local m) (hf : ∀ a, Local (f a)) : Local (AM.bind m f) := by
  intro h n r h' n' lg hfr he
  unfold AM.bind at he
  split at he
  · cases he
  · rename_i a h1 n1 l1 e1
    split at he
    · cases he
    · rename_i b h2 n2 l2 e2
      simp only [Option.some.injEq, Prod.mk.injEq] at he
      obtain ⟨rfl, rfl, rfl, rfl⟩ := he
      obtain ⟨s1, t1⟩ := hm h n a h1 n1 l1 hfr e1
      obtain ⟨s2, t2⟩ := hf a h1 n1 b h2 n2 l2 s1.fresh e2
      refine ⟨s1.trans s2, fun g hg => ?_⟩
      have hle := s1.le
      have hle2 := s2.le
      have g1 : Agree g h n n1 l1 := fun id hid => hg id (by
        simp only [List.mem_append]
        rcases hid with h | h | h
        · exact .inl (.inl h)
        · exact .inr (.inl (.inl h))
        · exact .inr (.inr (by omega)))
      have e1' := t1 g g1
      have g2 : Agree (over g h1 n n1 l1.2) h1 n1 n2 l2 := by
        intro id hid
        unfold over
        by_cases hc : id ∈ l1.2 ∨ (n ≤ id ∧ id < n1)
        · rw [if_pos hc]
        · rw [if_neg hc]
          rw [hg id (by
            simp only [List.mem_append]
            rcases hid with h | h | h
            · exact .inl (.inr h)
            · exact .inr (.inl (.inr h))
            · exact .inr (.inr (by omega)))]
          exact (s1.same id (fun h => hc (.inl h)) (fun h => hc (.inr h))).symm
      have e2' := t2 _ g2
      unfold AM.bind
      rw [e1']
      simp only [e2']
      congr 3
      funext id
      unfold over
      simp only [List.mem_append]
      by_cases c2 : id ∈ l2.2 ∨ (n1 ≤ id ∧ id < n2)
      · rw [if_pos c2, if_pos (by rcases c2 with h | h; exact .inl (.inr h); exact .inr (by omega))]
      · rw [if_neg c2]
        have hs := s2.same id (fun h => c2 (.inl h)) (fun h => c2 (.inr h))
        by_cases c1 : id ∈ l1.2 ∨ (n ≤ id ∧ id < n1)
        · rw [if_pos c1, if_pos (by rcases c1 with h | h; exact .inl (.inl h); exact .inr (by omega)), hs]
        · rw [if_neg c1, if_neg]
          rintro ((h | h) | h)
          · exact c1 (.inl h)
          · exact c2 (.inl h)
          · by_cases hlt : id < n1
            · exact c1 (.inr (by omega))
            · exact c2 (.inr (by omega))
theorem Local.get (id : Nat) : Local (AM.get id) := by
  intro h n r h' n' lg hf he
  unfold AM.get at he
  split at he
  · rename_i o ho
    simp only [Option.some.injEq, Prod.mk.injEq] at he
    obtain ⟨rfl, rfl, rfl, rfl⟩ := he
    have hlt : id < n := by
      rcases Nat.lt_or_ge id n with h | h
      · exact h
      · rw [hf id h] at ho; cases ho
    refine ⟨⟨Nat.le_refl _, hf, by simpa using hlt, by simp, by simp [ho]⟩, fun g hg => ?_⟩
    unfold AM.get
    rw [hg id (by simp), ho]
    simp only [over_nil]
  · cases he
theorem Local.set (id : Nat) (o : AObj) : Local (AM.set id o) := by
  intro h n r h' n' lg hf he
  unfold AM.set at he
  split at he
  · rename_i o1 ho
    simp only [Option.some.injEq, Prod.mk.injEq] at he
    obtain ⟨_, rfl, rfl, rfl⟩ := he
    have hlt : id < n := by
      rcases Nat.lt_or_ge id n with h | h
      · exact h
      · rw [hf id h] at ho; cases ho
    refine ⟨⟨Nat.le_refl _, ?_, by simpa using hlt, ?_, by simp [ho]⟩, fun g hg => ?_⟩
    · intro j hj
      unfold upd
      rw [if_neg (by omega)]
      exact hf j hj
    · intro j hj _
      unfold upd
      rw [if_neg (by simpa using hj)]
    · unfold AM.set
      rw [hg id (by simp), ho]
      simp only [Option.some.injEq, Prod.mk.injEq, true_and, and_true]
      funext j
      unfold over upd
      by_cases hj : j = id
      · simp [hj]
      · rw [if_neg hj, if_neg]
        simp [hj]
  · cases he
theorem Local.kill (id : Nat) : Local (AM.kill id) := by
  intro h n r h' n' lg hf he
  unfold AM.kill at he
  split at he
  · rename_i o1 ho
    simp only [Option.some.injEq, Prod.mk.injEq] at he
    obtain ⟨_, rfl, rfl, rfl⟩ := he
    have hlt : id < n := by
      rcases Nat.lt_or_ge id n with h | h
      · exact h
      · rw [hf id h] at ho; cases ho
    refine ⟨⟨Nat.le_refl _, ?_, by simpa using hlt, ?_, by simp [ho]⟩, fun g hg => ?_⟩
    · intro j hj
      unfold upd
      rw [if_neg (by omega)]
      exact hf j hj
    · intro j hj _
      unfold upd
      rw [if_neg (by simpa using hj)]
    · unfold AM.kill
      rw [hg id (by simp), ho]
      simp only [Option.some.injEq, Prod.mk.injEq, true_and, and_true]
      funext j
      unfold over upd
      by_cases hj : j = id
      · simp [hj]
      · rw [if_neg hj, if_neg]
        simp [hj]
  · cases he
theorem Local.new (o : AObj) : Local (AM.new o) := by
  intro h n r h' n' lg hf he
  simp only [AM.new, Option.some.injEq, Prod.mk.injEq] at he
  obtain ⟨rfl, rfl, rfl, rfl⟩ := he
  refine ⟨⟨by omega, ?_, by simp, ?_, by simp⟩, fun g hg => ?_⟩
  · intro j hj
    unfold upd
    rw [if_neg (by omega)]
    exact hf j (by omega)
  · intro j _ hj
    unfold upd
    rw [if_neg (by omega)]
  · simp only [AM.new, Option.some.injEq, Prod.mk.injEq, true_and, and_true]
    funext j
    unfold over upd
    by_cases hj : j = n
    · rw [if_pos hj, if_pos (by right; omega), if_pos hj]
    · rw [if_neg hj, if_neg]
      simp
      omega
theorem Local.ite {α : Type} {c : Prop} [Decidable c] {a b : AM α} (ha : Local a) (hb : Local b) : Local (if c then a else b) := by
  split
  · exact ha
  · exact hb
theorem local_cellsAt (p : AV) (n : Nat) : Local (cellsAt p n) := by
  unfold cellsAt
  split
  · refine Local.bind (Local.get _) fun o => ?_
    split
    · exact Local.lift _
    · exact Local.fail
  · exact Local.lift _
  · exact Local.fail
theorem local_loadT (P : Program) (t : TypeId) (p : AV) : Local (loadT P t p) :=
  Local.bind (Local.lift _) fun _ => Local.bind (Local.lift _) fun _ => Local.bind (local_cellsAt _ _) fun _ => Local.lift _
theorem local_storeAtA (p : AV) (vs : List AV) : Local (storeAtA p vs) := by
  unfold storeAtA
  split
  · refine Local.bind (Local.get _) fun o => ?_
    split
    · exact Local.bind (Local.lift _) fun _ => Local.set _ _
    · exact Local.fail
  · exact Local.fail
theorem local_storeT (P : Program) (t : TypeId) (p v : AV) : Local (storeT P t p v) :=
  Local.bind (Local.lift _) fun _ => Local.ite (Local.bind (local_storeAtA _ _) fun _ => Local.pure _) Local.fail
theorem local_buildSliceA (P : Program) (t : TypeId) (len : Nat) (ps : List (Nat × AV)) : Local (buildSliceA P t len ps) :=
  Local.bind (Local.lift _) fun _ => Local.bind (Local.lift _) fun _ => Local.bind (Local.lift _) fun _ =>
    Local.ite (Local.bind (Local.lift _) fun _ => Local.ite (Local.bind (Local.new _) fun _ => Local.pure _) Local.fail) Local.fail
theorem local_sliceA (P : Program) (t : TypeId) (x : AV) (lo hi : Option AV) : Local (sliceA P t x lo hi) := by
  unfold sliceA
  split
  · refine Local.bind (Local.get _) fun o => ?_
    split
    · exact Local.ite (Local.pure _) Local.fail
    · exact Local.fail
  · split
    · exact Local.pure _
    · exact Local.fail
  · split
    · exact Local.pure _
    · exact Local.fail
  · split
    · exact Local.ite (Local.pure _) Local.fail
    · exact Local.fail
  · split
    · exact Local.pure _
    · exact Local.fail
  · exact Local.fail
theorem local_convertA (P : Program) (s d : TypeId) (x : AV) : Local (convertA P s d x) := by
  unfold convertA
  split
  · exact Local.lift _
  · exact Local.pure _
  · exact Local.ite (Local.bind (Local.new _) fun _ => Local.pure _) Local.fail
  · exact Local.ite (Local.pure _) Local.fail
  · exact Local.ite (Local.bind (local_cellsAt _ _) fun _ => Local.lift _) Local.fail
  · exact Local.ite (Local.bind (Local.lift _) fun _ => Local.lift _) Local.fail
  · exact Local.ite (Local.bind (local_cellsAt _ _) fun _ => Local.pure _) Local.fail
  · exact Local.fail
theorem local_lenA (P : Program) (t : TypeId) (x : AV) : Local (lenA P t x) := by
  unfold lenA
  split <;> try exact Local.pure _
  · refine Local.bind (Local.get _) fun o => ?_
    split
    · exact Local.pure _
    · exact Local.fail
  · exact Local.fail
theorem local_srcA (s : Nat) (x : AV) : Local (srcA s x) := by
  unfold srcA
  split
  · exact Local.pure _
  · exact Local.pure _
  · exact Local.ite (Local.bind (local_cellsAt _ _) fun _ => Local.pure _) Local.fail
  · exact Local.bind (Local.lift _) fun _ => Local.pure _
  · exact Local.fail
theorem local_appendTo (s : Nat) (b : AV) (new : List AV) (n : Nat) : Local (appendTo s b new n) := by
  unfold appendTo
  refine Local.ite (Local.pure _) ?_
  split
  · exact Local.bind (Local.new _) fun _ => Local.pure _
  · exact Local.ite (Local.bind (local_cellsAt _ _) fun _ => Local.bind (Local.kill _) fun _ => Local.bind (Local.new _) fun _ => Local.pure _) Local.fail
  · exact Local.fail
theorem local_appendA (P : Program) (ts : List TypeId) (x y : AV) : Local (appendA P ts x y) := by
  unfold appendA
  split
  · refine Local.bind (Local.lift _) fun _ => Local.bind (Local.lift _) fun _ => Local.bind (Local.lift _) fun _ => Local.bind (Local.lift _) fun _ =>
      Local.ite (Local.bind ?_ fun src => ?_) Local.fail
    · split
      · exact Local.ite (Local.pure _) Local.fail
      · exact local_srcA _ _
      · exact local_srcA _ _
      · exact Local.fail
    · split
      · exact Local.ite (local_appendTo _ _ _ _) Local.fail
      · exact Local.fail
  · exact Local.fail
theorem local_copyA (P : Program) (ts : List TypeId) (x y : AV) : Local (copyA P ts x y) := by
  unfold copyA
  split
  · refine Local.bind (Local.lift _) fun _ => Local.bind (Local.lift _) fun _ => ?_
    split
    · exact Local.ite (Local.bind (local_srcA _ _) fun src => Local.ite (Local.bind (local_storeAtA _ _) fun _ => Local.pure _) Local.fail) Local.fail
    · exact Local.fail
  · exact Local.fail
theorem local_makeSliceA (P : Program) (t : TypeId) (l c : AV) : Local (makeSliceA P t l c) :=
  Local.bind (Local.lift _) fun _ => Local.bind (Local.lift _) fun _ => Local.bind (Local.lift _) fun _ => Local.bind (Local.lift _) fun _ =>
    Local.bind (Local.lift _) fun _ => Local.bind (Local.lift _) fun _ => Local.ite (Local.bind (Local.new _) fun _ => Local.pure _) Local.fail
theorem local_lookupA (P : Program) (t : TypeId) (x k : AV) (ok : Bool) : Local (lookupA P t x k ok) := by
  unfold lookupA
  split
  · refine Local.ite (Local.bind ?_ fun es => ?_) Local.fail
    · split
      · exact Local.pure _
      · refine Local.bind (Local.get _) fun o => ?_
        split
        · exact Local.pure _
        · exact Local.fail
      · exact Local.fail
    · split
      · exact Local.pure _
      · exact Local.pure _
      · exact Local.fail
  · exact Local.fail
theorem local_mapUpdateA (P : Program) (t : TypeId) (x k v : AV) : Local (mapUpdateA P t x k v) := by
  unfold mapUpdateA
  split
  · refine Local.ite (Local.bind (Local.get _) fun o => ?_) Local.fail
    split
    · split
      · exact Local.bind (Local.set _ _) fun _ => Local.pure _
      · exact Local.bind (Local.set _ _) fun _ => Local.pure _
      · exact Local.fail
    · exact Local.fail
  · exact Local.fail
theorem local_clearA (P : Program) (ts : List TypeId) (x : AV) : Local (clearA P ts x) := by
  unfold clearA
  split
  · exact Local.bind (Local.lift _) fun _ => Local.bind (Local.lift _) fun _ => Local.bind (Local.lift _) fun _ => Local.ite (Local.ite (Local.pure _) (Local.bind (local_storeAtA _ _) fun _ => Local.pure _)) Local.fail
  · exact Local.fail
theorem local_extA (e : EK) (vs : List AV) : Local (extA e vs) := by
  unfold extA
  split
  · exact Local.pure _
  · refine Local.bind (Local.get _) fun o => ?_
    split
    · exact Local.bind (Local.new _) fun _ => Local.pure _
    · exact Local.fail
  · exact Local.fail
theorem local_builtinA (P : Program) (b : Builtin) (vs : List AV) (ts : List TypeId) : Local (builtinA P b vs ts) := by
  unfold builtinA
  split
  · split
    · exact local_lenA _ _ _
    · exact Local.fail
  · split
    · exact local_appendA _ _ _ _
    · exact Local.fail
  · split
    · exact local_copyA _ _ _ _
    · exact Local.fail
  · exact Local.lift _
  · exact Local.lift _
  · split
    · exact local_clearA _ _ _
    · exact Local.fail
  · exact Local.fail
theorem local_opM (P : Program) (ev : Operand → Option AV) (o : Op) : Local (opM P ev o) := by
  unfold opM
  split
  · exact Local.lift _
  · exact Local.lift _
  · split
    · exact Local.lift _
    · exact Local.fail
  · exact Local.bind (Local.lift _) fun _ => Local.ite (Local.bind (Local.new _) fun _ => Local.pure _) Local.fail
  · exact Local.bind (Local.lift _) fun _ => Local.ite (Local.bind (Local.new _) fun _ => Local.pure _) Local.fail
  · exact Local.bind (Local.lift _) fun _ => Local.lift _
  · exact Local.bind (Local.lift _) fun _ => local_buildSliceA _ _ _ _
  · exact Local.bind (Local.lift _) fun _ => local_loadT _ _ _
  · exact Local.bind (Local.lift _) fun _ => Local.bind (Local.lift _) fun _ => local_storeT _ _ _ _
  · split
    · split
      · exact Local.pure _
      · exact Local.fail
    · exact Local.fail
  · exact Local.bind (Local.lift _) fun _ => Local.bind (Local.lift _) fun _ => Local.lift _
  · exact Local.bind (Local.lift _) fun _ => Local.lift _
  · exact Local.bind (Local.lift _) fun _ => local_convertA _ _ _ _
  · split
    · exact Local.bind (Local.lift _) fun _ => Local.bind (Local.lift _) fun _ => Local.pure _
    · exact Local.fail
  · exact Local.bind (Local.lift _) fun _ => Local.bind (Local.lift _) fun _ => local_makeSliceA _ _ _ _
  · split
    · exact Local.bind (Local.new _) fun _ => Local.pure _
    · exact Local.fail
  · exact Local.bind (Local.lift _) fun _ => Local.bind (Local.lift _) fun _ => Local.bind (Local.lift _) fun _ => local_sliceA _ _ _ _ _
  · exact Local.bind (Local.lift _) fun _ => Local.lift _
  · exact Local.bind (Local.lift _) fun _ => Local.lift _
  · exact Local.bind (Local.lift _) fun _ => Local.bind (Local.lift _) fun _ => Local.lift _
  · exact Local.bind (Local.lift _) fun _ => Local.bind (Local.lift _) fun _ => Local.lift _
  · exact Local.bind (Local.lift _) fun _ => Local.bind (Local.lift _) fun _ => local_lookupA _ _ _ _ _
  · exact Local.bind (Local.lift _) fun _ => Local.bind (Local.lift _) fun _ => Local.bind (Local.lift _) fun _ => local_mapUpdateA _ _ _ _ _
  · exact Local.bind (Local.lift _) fun _ => Local.bind (Local.lift _) fun _ => Local.bind (Local.lift _) fun _ => local_mapUpdateA _ _ _ _ _
  · split
    · exact Local.lift _
    · exact Local.fail
  · exact Local.bind (Local.lift _) fun _ => Local.lift _
  · exact Local.bind (Local.lift _) fun _ => Local.lift _
  · split
    · exact Local.bind (Local.lift _) fun _ => local_builtinA _ _ _ _
    · exact Local.fail
  · exact Local.fail
end Go.Abs
