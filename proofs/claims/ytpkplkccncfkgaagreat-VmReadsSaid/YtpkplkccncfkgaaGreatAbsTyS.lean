/- What a law's plain arguments are: numbers, texts, truths. -/
import Derived.Test.YtpkplkccncfkgaaGreatAbsLaw
namespace Go.Abs

section
variable {P : Program} {k : Nat}

theorem ty_int {t : TypeId} {i : IntKind} {a : AV} (ht : P.underlying t = some (.int i)) (h : TyV P (k + 1) t a) : ∃ n, a = .int i n ∧ (Lit.int i n).wf = true := by
  simp only [TyV, ht, TyC] at h
  obtain ⟨n, e, w⟩ := h
  exact ⟨n, by simpa using e, w⟩
theorem ty_bool {t : TypeId} {a : AV} (ht : P.underlying t = some .bool) (h : TyV P (k + 1) t a) : ∃ b, a = .bool b := by
  simp only [TyV, ht, TyC] at h
  obtain ⟨n, e⟩ := h
  exact ⟨n, by simpa using e⟩
theorem ty_str {t : TypeId} {a : AV} (ht : P.underlying t = some .string) (h : TyV P (k + 1) t a) : ∃ s : List UInt8, a = .str s ∧ s.length ≤ maxLen := by
  simp only [TyV, ht, TyC] at h
  obtain ⟨n, e, w⟩ := h
  exact ⟨n, by simpa using e, w⟩
/- a list's elements -/
theorem ty_bools {t e : TypeId} {a : AV} (ht : P.underlying t = some (.slice e)) (he : P.underlying e = some .bool) (h : TyV P (k + 2) t a) : a = .nil .sl ∨ ∃ bs : List Bool, a = .tsl (bs.map .bool) bs.length := by
  simp only [TyV, ht, TyC, he] at h
  rcases h with h | ⟨ls, h, hl, hls⟩
  · exact .inl (by simpa using h)
  · refine .inr ?_
    have : ∃ bs : List Bool, ls.flatten = bs.map .bool ∧ bs.length = ls.length := by
      clear h hl
      induction ls with
      | nil => exact ⟨[], rfl, rfl⟩
      | cons l ls ih =>
        obtain ⟨bs, h1, h2⟩ := ih (fun l hl => hls l (by simp [hl]))
        obtain ⟨_, b, rfl⟩ := hls l (by simp)
        exact ⟨b :: bs, by simp [h1], by simp [h2]⟩
    obtain ⟨bs, h1, h2⟩ := this
    refine ⟨bs, ?_⟩
    have h : a = .tsl ls.flatten ls.length := by simpa using h
    rw [h, h1, h2]
theorem ty_ints {t e : TypeId} {i : IntKind} {a : AV} (ht : P.underlying t = some (.slice e)) (he : P.underlying e = some (.int i)) (h : TyV P (k + 2) t a) : a = .nil .sl ∨ ∃ ns : List Int, a = .tsl (ns.map (.int i)) ns.length ∧ ∀ n ∈ ns, (Lit.int i n).wf = true := by
  simp only [TyV, ht, TyC, he] at h
  rcases h with h | ⟨ls, h, hl, hls⟩
  · exact .inl (by simpa using h)
  · refine .inr ?_
    have : ∃ ns : List Int, ls.flatten = ns.map (.int i) ∧ ns.length = ls.length ∧ ∀ n ∈ ns, (Lit.int i n).wf = true := by
      clear h hl
      induction ls with
      | nil => exact ⟨[], rfl, rfl, by simp⟩
      | cons l ls ih =>
        obtain ⟨ns, h1, h2, h3⟩ := ih (fun l hl => hls l (by simp [hl]))
        obtain ⟨_, n, rfl, hn⟩ := hls l (by simp)
        refine ⟨n :: ns, by simp [h1], by simp [h2], fun m hm => ?_⟩
        rcases List.mem_cons.1 hm with rfl | hm
        · exact hn
        · exact h3 m hm
    obtain ⟨ns, h1, h2, h3⟩ := this
    refine ⟨ns, ?_, h3⟩
    have h : a = .tsl ls.flatten ls.length := by simpa using h
    rw [h, h1, h2]
end
end Go.Abs
