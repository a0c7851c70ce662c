import Derived.Test.YtmnnmgfjlokmkaaGreatAbsLaw
import Derived.Test.YtmnnmgfjlokmkaaGreatAbsTac
section
namespace Go.Abs
section
variable {P : Program} {k : Nat}
theorem ty_int {t : TypeId} {i : IntKind} {a : AV} (ht : P.underlying t = some (.int i)) (h : TyV P (k + 1) t a) : ∃ n, a = .int i n ∧ (Lit.int i n).wf = true := by
 simp only [TyV, ht, TyC] at h
 obtain ⟨n, e, w⟩ := h
 exact ⟨n, by simpa using e, w⟩
end
end Go.Abs
end
section
namespace Go.Abs
section
variable {P : Program} {k : Nat}
theorem tyc_int {t : TypeId} {i : IntKind} {cs : List AV} (ht : P.underlying t = some (.int i)) (h : TyC P (k + 1) t cs) : ∃ n, cs = [.int i n] ∧ (Lit.int i n).wf = true := by
 unfold TyC at h
 rw [ht] at h
 exact h
theorem tyc_slice {t e : TypeId} {cs : List AV} (ht : P.underlying t = some (.slice e)) (h : TyC P (k + 1) t cs) : cs = [.nil .sl] ∨ ∃ ls : List (List AV), cs = [.tsl ls.flatten ls.length] ∧ ls.length ≤ maxLen ∧ ∀ l ∈ ls, l.length = P.cellsOf e ∧ TyC P k e l := by
 unfold TyC at h
 rw [ht] at h
 exact h
end
end Go.Abs
end
