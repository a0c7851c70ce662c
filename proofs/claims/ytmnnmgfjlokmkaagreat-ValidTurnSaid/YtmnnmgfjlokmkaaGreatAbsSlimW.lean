import Derived.Test.YtmnnmgfjlokmkaaGreatAbsSlimV
namespace Go.Abs
theorem setL_eq : ∀ {cs : List AV} {o : Nat} {v : AV} {r : List AV}, setL cs o v = some r → o < cs.length ∧ r = cs.set o v
 | [], _, _, _, h => by simp [setL] at h
 | a :: l, 0, v, r, h => by simp only [setL, Option.some.injEq] at h; subst h; simp
 | a :: l, i + 1, v, r, h => by
  simp only [setL] at h
  split at h
  ·rename_i r' h'
   simp only [Option.some.injEq] at h
   subst h
   obtain ⟨h1, rfl⟩ := setL_eq h'
   simp [h1]
  ·cases h
theorem splice_one {cs : List AV} {o : Nat} {v : AV} (h : o < cs.length) : spliceL cs o [v] = some (cs.set o v) := by
 unfold spliceL
 simp only [List.length_singleton]
 rw [if_pos (by omega)]
 rw [List.set_eq_take_append_cons_drop, if_pos h]
 simp
theorem putL_eq : ∀ {vs cs : List AV} {o : Nat} {r : List AV}, putL cs o vs = some r → (vs = [] ∧ r = cs) ∨ spliceL cs o vs = some r
 | [], cs, o, r, h => by simp only [putL, Option.some.injEq] at h; exact .inl ⟨rfl, h.symm⟩
 | v :: vs, cs, o, r, h => by
  simp only [putL] at h
  split at h
  ·rename_i r1 h1
   obtain ⟨ho, rfl⟩ := setL_eq h1
   right
   rcases putL_eq h with ⟨rfl, rfl⟩ | h2
   ·exact splice_one ho
   ·unfold spliceL at h2 ⊢
    split at h2
    ·rename_i hl
     simp only [List.length_set] at hl
     simp only [List.length_cons]
     rw [if_pos (by omega)]
     simp only [Option.some.injEq] at h2 ⊢
     rw [← h2]
     have e1 : (cs.set o v).take (o + 1) = cs.take o ++ [v] := by
      rw [List.set_eq_take_append_cons_drop, if_pos ho, List.take_append]
      simp [Nat.min_eq_left (Nat.le_of_lt ho)]
      exact List.take_of_length_le (by simp; omega)
     have e2 : (cs.set o v).drop (o + 1 + vs.length) = cs.drop (o + (vs.length + 1)) := by
      rw [List.drop_set_of_lt (by omega)]
      congr 1
      omega
     rw [e1, e2]
     simp
    ·cases h2
  ·cases h
section
variable {P : Program} {A : Ann} {f : Nat} {E : Lk} {rg : Nat → AV} {h : Heap}
theorem fillS_sound {place : Nat → Option (Nat × Nat)} (hs : Sat E rg) : ∀ {l : List (Nat × Operand)} {ps : List (Nat × Nat × SX)} {cs r : List AV}, slParts A place l = some ps → fillS E cs ps = some r →
  ∃ vs, evParts (evalA A rg) l = some vs ∧ fillA place cs vs = some r
 | [], ps, cs, r, hp, hf => by
  simp only [slParts, Option.some.injEq] at hp
  subst hp
  simp only [fillS, Option.some.injEq] at hf
  subst hf
  exact ⟨[], rfl, rfl⟩
 | (i, x) :: l, ps, cs, r, hp, hf => by
  simp only [slParts] at hp
  split at hp
  ·rename_i o s a r' h1 h2 h3
   simp only [Option.some.injEq] at hp
   subst hp
   simp only [fillS] at hf
   split at hf
   ·cases hf
   ·rename_i v hv
    have hx := ev_sound hs h2 hv
    have one : ∀ w : AV, w = v → (∀ vs, w ≠ .agg vs) → (if s = 1 then (match setL cs o w with | some cs => fillS E cs r' | none => none) else none) = some r → ∃ vs, evParts (evalA A rg) ((i, x) :: l) = some vs ∧ fillA place cs vs = some r := by
     clear hf
     intro w hw hna hg
     subst hw
     split at hg
     ·rename_i hs1
      split at hg
      ·rename_i cs1 hc
       obtain ⟨ho, rfl⟩ := setL_eq hc
       obtain ⟨vs, e1, e2⟩ := fillS_sound hs h3 hg
       have hcells : w.cells = [w] := by
        cases w <;> first | rfl | exact absurd rfl (hna _)
       refine ⟨(i, w) :: vs, by simp [evParts, hx, e1], ?_⟩
       simp only [fillA, h1, hcells, List.length_singleton, hs1, if_true, splice_one ho]
       exact e2
      ·cases hg
     ·cases hg
    cases v with
    | agg vs =>
     simp only at hf
     split at hf
     ·rename_i hl
      split at hf
      ·rename_i cs1 hc
       obtain ⟨us, e1, e2⟩ := fillS_sound hs h3 hf
       refine ⟨(i, .agg vs) :: us, by simp [evParts, hx, e1], ?_⟩
       rcases putL_eq hc with ⟨rfl, rfl⟩ | hc
       ·have := hl.2
        simp at hl
        omega
       ·simp only [fillA, h1, AV.cells, hl.1, if_true, hc]
        exact e2
      ·cases hf
     ·cases hf
    | _ => exact one _ rfl (by simp) hf
  ·cases hp
theorem slXs_sound (hs : Sat E rg) : ∀ {l : List Operand} {ys : List SX} {vs : List AV}, slXs A l = some ys → evS E ys = some vs → evs (evalA A rg) l = some vs
 | [], ys, vs, h1, h2 => by
  simp only [slXs, Option.some.injEq] at h1
  subst h1
  simpa [evS, evs] using h2
 | x :: l, ys, vs, h1, h2 => by
  simp only [slXs] at h1
  split at h1
  ·rename_i a r ha hr
   simp only [Option.some.injEq] at h1
   subst h1
   simp only [evS] at h2
   split at h2
   ·rename_i v us hv hu
    simp only [Option.some.injEq] at h2
    subst h2
    simp [evs, ev_sound hs ha hv, slXs_sound hs hr hu]
   ·cases h2
  ·cases h1
end
end Go.Abs
