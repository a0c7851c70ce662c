import Derived.Test.YtmnnmgfjlokmkaaGreatAbsLaw
import Derived.Test.YtmnnmgfjlokmkaaGreatAbsTac
section
namespace Go.Abs
section
variable {P : Program} {k : Nat}
theorem ty_int {t : TypeId} {i : IntKind} {a : AV} (ht : P.underlying t = some (.int i)) (h : TyV P (k + 1) t a) : ∃ n, a = .int i n ∧ (Lit.int i n).wf = true := by
 simp only [TyV, ht, TyC] at h
 obtain ⟨n, e, w⟩ := h
 exact ⟨n, by simpa using e, w⟩
end
end Go.Abs
end
section
namespace Go.Abs
section
variable {P : Program} {k : Nat}
theorem tyc_int {t : TypeId} {i : IntKind} {cs : List AV} (ht : P.underlying t = some (.int i)) (h : TyC P (k + 1) t cs) : ∃ n, cs = [.int i n] ∧ (Lit.int i n).wf = true := by
 unfold TyC at h
 rw [ht] at h
 exact h
theorem tyc_bool {t : TypeId} {cs : List AV} (ht : P.underlying t = some .bool) (h : TyC P (k + 1) t cs) : ∃ b, cs = [.bool b] := by
 unfold TyC at h
 rw [ht] at h
 exact h
theorem tyc_str {t : TypeId} {cs : List AV} (ht : P.underlying t = some .string) (h : TyC P (k + 1) t cs) : ∃ s : List UInt8, cs = [.str s] ∧ s.length ≤ maxLen := by
 unfold TyC at h
 rw [ht] at h
 exact h
theorem tyc_struct {t : TypeId} {fs : Array Field} {cs : List AV} (ht : P.underlying t = some (.struct fs)) (h : TyC P (k + 1) t cs) : cs.length = P.cellsOf t ∧ ∀ f ∈ fs.toList, TyC P k f.type ((cs.drop f.offset).take (P.cellsOf f.type)) := by
 unfold TyC at h
 rw [ht] at h
 exact h
theorem tyc_array {t e : TypeId} {n : Nat} {cs : List AV} (ht : P.underlying t = some (.array n e)) (h : TyC P (k + 1) t cs) : cs.length = P.cellsOf t ∧ ∀ i ∈ List.range n, TyC P k e ((cs.drop (i * P.cellsOf e)).take (P.cellsOf e)) := by
 unfold TyC at h
 rw [ht] at h
 exact h
theorem tyc_slice {t e : TypeId} {cs : List AV} (ht : P.underlying t = some (.slice e)) (h : TyC P (k + 1) t cs) : cs = [.nil .sl] ∨ ∃ ls : List (List AV), cs = [.tsl ls.flatten ls.length] ∧ ls.length ≤ maxLen ∧ ∀ l ∈ ls, l.length = P.cellsOf e ∧ TyC P k e l := by
 unfold TyC at h
 rw [ht] at h
 exact h
theorem ty_struct {t : TypeId} {fs : Array Field} {a : AV} (ht : P.underlying t = some (.struct fs)) (h : TyV P k t a) : ∃ cs, a = .agg cs ∧ TyC P k t cs := by
 unfold TyV at h
 rw [ht] at h
 exact h
end
end Go.Abs
end
