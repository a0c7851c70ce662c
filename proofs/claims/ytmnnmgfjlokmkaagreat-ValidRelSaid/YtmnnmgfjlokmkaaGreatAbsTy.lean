import Derived.Test.YtmnnmgfjlokmkaaGreatAbsLaw
import Derived.Test.YtmnnmgfjlokmkaaGreatAbsTac
section
namespace Go.Abs
end Go.Abs
end
section
namespace Go.Abs
section
variable {P : Program} {k : Nat}
theorem tyc_int {t : TypeId} {i : IntKind} {cs : List AV} (ht : P.underlying t = some (.int i)) (h : TyC P (k + 1) t cs) : ∃ n, cs = [.int i n] ∧ (Lit.int i n).wf = true := by
 unfold TyC at h
 rw [ht] at h
 exact h
theorem tyc_slice {t e : TypeId} {cs : List AV} (ht : P.underlying t = some (.slice e)) (h : TyC P (k + 1) t cs) : cs = [.nil .sl] ∨ ∃ ls : List (List AV), cs = [.tsl ls.flatten ls.length] ∧ ls.length ≤ maxLen ∧ ∀ l ∈ ls, l.length = P.cellsOf e ∧ TyC P k e l := by
 unfold TyC at h
 rw [ht] at h
 exact h
end
end Go.Abs
end
