/- What a law's plain arguments are: numbers, texts, truths. -/
import Derived.Test.YtinkmbejinemaaaGreatAbsLaw
namespace Go.Abs

section
variable {P : Program} {k : Nat}

theorem ty_int {t : TypeId} {i : IntKind} {a : AV} (ht : P.underlying t = some (.int i)) (h : TyV P (k + 1) t a) : ∃ n, a = .int i n ∧ (Lit.int i n).wf = true := by
  simp only [TyV, ht, TyC] at h
  obtain ⟨n, e, w⟩ := h
  exact ⟨n, by simpa using e, w⟩
theorem ty_bool {t : TypeId} {a : AV} (ht : P.underlying t = some .bool) (h : TyV P (k + 1) t a) : ∃ b, a = .bool b := by
  simp only [TyV, ht, TyC] at h
  obtain ⟨n, e⟩ := h
  exact ⟨n, by simpa using e⟩
theorem ty_str {t : TypeId} {a : AV} (ht : P.underlying t = some .string) (h : TyV P (k + 1) t a) : ∃ s : List UInt8, a = .str s ∧ s.length ≤ maxLen := by
  simp only [TyV, ht, TyC] at h
  obtain ⟨n, e, w⟩ := h
  exact ⟨n, by simpa using e, w⟩
end
end Go.Abs
