/- What a law's arguments are. -/
import Derived.Test.YtdglniabnomneaaGreatAbsLaw
import Derived.Test.YtdglniabnomneaaGreatAbsSlimM
namespace Go.Abs

section
variable {P : Program} {k : Nat}

theorem ty_int {t : TypeId} {i : IntKind} {a : AV} (ht : P.underlying t = some (.int i)) (h : TyV P (k + 1) t a) : ∃ n, a = .int i n ∧ (Lit.int i n).wf = true := by
  simp only [TyV, ht, TyC] at h
  obtain ⟨n, e, w⟩ := h
  exact ⟨n, by simpa using e, w⟩
theorem ty_bool {t : TypeId} {a : AV} (ht : P.underlying t = some .bool) (h : TyV P (k + 1) t a) : ∃ b, a = .bool b := by
  simp only [TyV, ht, TyC] at h
  obtain ⟨n, e⟩ := h
  exact ⟨n, by simpa using e⟩
theorem ty_str {t : TypeId} {a : AV} (ht : P.underlying t = some .string) (h : TyV P (k + 1) t a) : ∃ s : List UInt8, a = .str s ∧ s.length ≤ maxLen := by
  simp only [TyV, ht, TyC] at h
  obtain ⟨n, e, w⟩ := h
  exact ⟨n, by simpa using e, w⟩
theorem tyc_nums {t e : TypeId} {i : IntKind} {cs : List AV} (ht : P.underlying t = some (.slice e)) (he : P.underlying e = some (.int i)) (hc : P.cellsOf e = 1) (h : TyC P (k + 2) t cs) :
    ∃ a ns, cs = [a] ∧ NSl i a ns ∧ ns.length ≤ maxLen ∧ ∀ n ∈ ns, (Lit.int i n).wf = true := by
  simp only [TyC, ht, he, hc] at h
  rcases h with rfl | ⟨ls, rfl, hl, hls⟩
  · exact ⟨_, [], rfl, .nil, Nat.zero_le _, by simp⟩
  · have : ∃ ns : List Int, ls.flatten = nums i ns ∧ ns.length = ls.length ∧ ∀ n ∈ ns, (Lit.int i n).wf = true := by
      clear hl
      induction ls with
      | nil => exact ⟨[], rfl, rfl, by simp⟩
      | cons l ls ih =>
        obtain ⟨ns, h1, h2, h3⟩ := ih (fun l hl => hls l (by simp [hl]))
        obtain ⟨_, n, rfl, hw⟩ := hls l (by simp)
        refine ⟨n :: ns, by simp [h1, nums], by simp [h2], ?_⟩
        intro m hm
        rcases List.mem_cons.1 hm with rfl | hm
        · exact hw
        · exact h3 m hm
    obtain ⟨ns, h1, h2, h3⟩ := this
    refine ⟨_, ns, rfl, ?_, by omega, h3⟩
    unfold NSl
    rw [h1, ← h2]
    exact .tsl _ _ (by simp [nums])
theorem ty_nums {t e : TypeId} {i : IntKind} {a : AV} (ht : P.underlying t = some (.slice e)) (he : P.underlying e = some (.int i)) (hc : P.cellsOf e = 1) (h : TyV P (k + 2) t a) : ∃ ns, NSl i a ns ∧ ns.length ≤ maxLen ∧ ∀ n ∈ ns, (Lit.int i n).wf = true := by
  have h' : TyC P (k + 2) t [a] := by
    unfold TyV at h
    rw [ht] at h
    exact h
  obtain ⟨b, ns, e, h1, h2⟩ := tyc_nums ht he hc h'
  simp only [List.cons.injEq, and_true] at e
  subst e
  exact ⟨ns, h1, h2⟩

theorem tyc_int {t : TypeId} {i : IntKind} {cs : List AV} (ht : P.underlying t = some (.int i)) (h : TyC P (k + 1) t cs) : ∃ n, cs = [.int i n] ∧ (Lit.int i n).wf = true := by
  unfold TyC at h
  rw [ht] at h
  exact h
theorem tyc_bool {t : TypeId} {cs : List AV} (ht : P.underlying t = some .bool) (h : TyC P (k + 1) t cs) : ∃ b, cs = [.bool b] := by
  unfold TyC at h
  rw [ht] at h
  exact h
theorem tyc_str {t : TypeId} {cs : List AV} (ht : P.underlying t = some .string) (h : TyC P (k + 1) t cs) : ∃ s : List UInt8, cs = [.str s] ∧ s.length ≤ maxLen := by
  unfold TyC at h
  rw [ht] at h
  exact h
theorem tyc_struct {t : TypeId} {fs : Array Field} {cs : List AV} (ht : P.underlying t = some (.struct fs)) (h : TyC P (k + 1) t cs) : cs.length = P.cellsOf t ∧ ∀ f ∈ fs.toList, TyC P k f.type ((cs.drop f.offset).take (P.cellsOf f.type)) := by
  unfold TyC at h
  rw [ht] at h
  exact h
theorem tyc_array {t e : TypeId} {n : Nat} {cs : List AV} (ht : P.underlying t = some (.array n e)) (h : TyC P (k + 1) t cs) : cs.length = P.cellsOf t ∧ ∀ i ∈ List.range n, TyC P k e ((cs.drop (i * P.cellsOf e)).take (P.cellsOf e)) := by
  unfold TyC at h
  rw [ht] at h
  exact h
theorem tyc_slice {t e : TypeId} {cs : List AV} (ht : P.underlying t = some (.slice e)) (h : TyC P (k + 1) t cs) : cs = [.nil .sl] ∨ ∃ ls : List (List AV), cs = [.tsl ls.flatten ls.length] ∧ ls.length ≤ maxLen ∧ ∀ l ∈ ls, l.length = P.cellsOf e ∧ TyC P k e l := by
  unfold TyC at h
  rw [ht] at h
  exact h
theorem ty_struct {t : TypeId} {fs : Array Field} {a : AV} (ht : P.underlying t = some (.struct fs)) (h : TyV P k t a) : ∃ cs, a = .agg cs ∧ TyC P k t cs := by
  unfold TyV at h
  rw [ht] at h
  exact h

theorem run_of_pure {A : Ann} {f : Nat} {as : List AV} (h : PureC P A f as (.bool true)) : ∃ n h' n' lg, callN P A n f as (fun _ => none) 0 = some (.bool true, h', n', lg) := by
  obtain ⟨k, n', e⟩ := h hp0 0 (fun _ _ => rfl)
  exact ⟨k, hp0, n', _, e⟩
end
end Go.Abs
