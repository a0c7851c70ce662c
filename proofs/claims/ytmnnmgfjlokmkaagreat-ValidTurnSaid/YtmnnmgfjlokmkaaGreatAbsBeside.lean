import Derived.Test.YtmnnmgfjlokmkaaGreatAbsOwn
namespace Go.Abs
theorem upd_swap {h : Heap} {i j : Nat} {a b : Option AObj} (hij : i ≠ j) : upd (upd h i a) j b = upd (upd h j b) i a := by
 funext k
 unfold upd
 by_cases h1 : k = j
 ·subst h1
  simp [Ne.symm hij]
 ·simp [h1]
theorem hset_in {hb : Heap} {i : Nat} {o : AObj} : ∀ {L : List (Nat × AObj)}, hset hb L i = none → hset (upd hb i (some o)) L = upd (hset hb L) i (some o) ∧ (Dis hb L → Dis (upd hb i (some o)) L)
 | [], _ => ⟨rfl, fun _ => trivial⟩
 | (j, p) :: L, h => by
  have hij : i ≠ j := fun e => by
   subst e
   rw [show hset hb ((i, p) :: L) i = some p from upd_same] at h
   cases h
  have h2 : hset hb L i = none := by rwa [show hset hb ((j, p) :: L) i = hset hb L i from upd_ne hij] at h
  obtain ⟨e1, e2⟩ := hset_in (o := o) h2
  refine ⟨?_, fun hD => ⟨?_, e2 hD.2⟩⟩
  ·show upd (hset (upd hb i (some o)) L) j (some p) = upd (upd (hset hb L) j (some p)) i (some o)
   rw [e1, upd_swap hij]
  ·rw [e1, upd_ne (Ne.symm hij)]
   exact hD.1
theorem hset_none {hb : Heap} {i : Nat} : ∀ {L : List (Nat × AObj)}, hset hb L i = none → hb i = none
 | [], h => h
 | (j, p) :: L, h => by
  by_cases hij : i = j
  ·subst hij
   rw [show hset hb ((i, p) :: L) i = some p from upd_same] at h
   cases h
  ·exact hset_none (L := L) (by rwa [show hset hb ((j, p) :: L) i = hset hb L i from upd_ne hij] at h)
section
variable {P : Program} {A : Ann} {f nt : Nat} {E : Env} {bx : List Nat} {G : Heap} {L : List (Nat × AObj)} {Q : AX → Env → List Nat → Heap → Prop} {h0 : Heap} {q : Nat}
theorem o_hbsG {d : Nat} {z cs : List AV} {s n : Nat} {ps : List (Nat × Nat × SX)} {r : List SO} (hD : Dis G L) (hlt : (decide (d < nt)) = true) (hf : fillS (lk E) z ps = some cs) (ho : cs.all AV.one = true)
  (H : ∀ i, G i = none → Dis (upd G i (some (.cells cs))) L → SOps P A f nt h0 (q - 1) r ((d, .sl i 0 n s) :: E) bx (hset (upd G i (some (.cells cs))) L) Q) : SOps P A f nt h0 q (⟨some d, none, .hbs z s n ps⟩ :: r) E bx (hset G L) Q :=
 o_hbs hlt hf ho fun i hi => by
  obtain ⟨e1, e2⟩ := hset_in (o := .cells cs) hi
  rw [← e1]
  exact H i (hset_none hi) (e2 hD)
end
end Go.Abs
