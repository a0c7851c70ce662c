import Derived.Test.YtmnnmgfjlokmkaaGreatAbsLaw
import Derived.Test.YtmnnmgfjlokmkaaGreatAbsTac
section
namespace Go.Abs
section
variable {P : Program} {k : Nat}
theorem ty_int {t : TypeId} {i : IntKind} {a : AV} (ht : P.underlying t = some (.int i)) (h : TyV P (k + 1) t a) : ∃ n, a = .int i n ∧ (Lit.int i n).wf = true := by
 simp only [TyV, ht, TyC] at h
 obtain ⟨n, e, w⟩ := h
 exact ⟨n, by simpa using e, w⟩
end
end Go.Abs
end
section
namespace Go.Abs
end Go.Abs
end
