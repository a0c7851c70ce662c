import Derived.Test.YtmnnmgfjlokmkaaGreatAbsOwn
namespace Go.Abs
theorem upd_swap {h : Heap} {i j : Nat} {a b : Option AObj} (hij : i ≠ j) : upd (upd h i a) j b = upd (upd h j b) i a := by
  funext k
  unfold upd
  by_cases h1 : k = j
  · subst h1
    simp [Ne.symm hij]
  · simp [h1]
theorem hset_in {hb : Heap} {i : Nat} {o : AObj} : ∀ {L : List (Nat × AObj)}, hset hb L i = none → hset (upd hb i (some o)) L = upd (hset hb L) i (some o) ∧ (Dis hb L → Dis (upd hb i (some o)) L)
  | [], _ => ⟨rfl, fun _ => trivial⟩
  | (j, p) :: L, h => by
    have hij : i ≠ j := fun e => by
      subst e
      rw [show hset hb ((i, p) :: L) i = some p from upd_same] at h
      cases h
    have h2 : hset hb L i = none := by rwa [show hset hb ((j, p) :: L) i = hset hb L i from upd_ne hij] at h
    obtain ⟨e1, e2⟩ := hset_in (o := o) h2
    refine ⟨?_, fun hD => ⟨?_, e2 hD.2⟩⟩
    · show upd (hset (upd hb i (some o)) L) j (some p) = upd (upd (hset hb L) j (some p)) i (some o)
      rw [e1, upd_swap hij]
    · rw [e1, upd_ne (Ne.symm hij)]
      exact hD.1
theorem hset_none {hb : Heap} {i : Nat} : ∀ {L : List (Nat × AObj)}, hset hb L i = none → hb i = none
  | [], h => h
  | (j, p) :: L, h => by
    by_cases hij : i = j
    · subst hij
      rw [show hset hb ((i, p) :: L) i = some p from upd_same] at h
      cases h
    · exact hset_none (L := L) (by rwa [show hset hb ((j, p) :: L) i = hset hb L i from upd_ne hij] at h)
theorem dis_none {hb : Heap} : ∀ {L : List (Nat × AObj)}, Dis hb L → ∀ x ∈ L, hb x.1 = none
  | [], _, _, h => nomatch h
  | (j, p) :: L, hD, x, h => by
    rcases List.mem_cons.1 h with rfl | h
    · exact hset_none hD.1
    · exact dis_none hD.2 x h
theorem hset_front {hb : Heap} {x : Nat × AObj} : ∀ {L : List (Nat × AObj)} {k : Nat}, Dis hb L → L[k]? = some x → hset hb L = hset hb (x :: L.eraseIdx k) ∧ Dis hb (x :: L.eraseIdx k)
  | [], _, _, h => by simp at h
  | y :: L, 0, hD, h => by
    simp only [List.getElem?_cons_zero, Option.some.injEq] at h
    subst h
    exact ⟨rfl, hD⟩
  | (j, p) :: L, k + 1, hD, h => by
    obtain ⟨i, o⟩ := x
    have h' : L[k]? = some (i, o) := by simpa using h
    obtain ⟨e1, e2⟩ := hset_front hD.2 h'
    have hij : i ≠ j := fun e => by
      subst e
      have := hset_get hD.2 h'
      rw [hD.1] at this
      cases this
    have hj : hset hb (L.eraseIdx k) j = none := by
      have := hD.1
      rw [e1] at this
      rwa [show hset hb ((i, o) :: L.eraseIdx k) j = hset hb (L.eraseIdx k) j from upd_ne (Ne.symm hij)] at this
    refine ⟨?_, ?_, hj, e2.2⟩
    · show upd (hset hb L) j (some p) = upd (upd (hset hb (L.eraseIdx k)) j (some p)) i (some o)
      rw [e1]
      exact upd_swap hij
    · show hset hb ((j, p) :: L.eraseIdx k) i = none
      rw [show hset hb ((j, p) :: L.eraseIdx k) i = hset hb (L.eraseIdx k) i from upd_ne hij]
      exact e2.1
section
variable {P : Program} {A : Ann} {f nt : Nat} {E : Env} {bx : List Nat} {G : Heap} {L : List (Nat × AObj)} {Q : AX → Env → List Nat → Heap → Prop} {h0 : Heap} {q : Nat}
theorem o_hbsG {d : Nat} {z cs : List AV} {s n : Nat} {ps : List (Nat × Nat × SX)} {r : List SO} (hD : Dis G L) (hlt : (decide (d < nt)) = true) (hf : fillS (lk E) z ps = some cs) (ho : cs.all AV.one = true)
    (H : ∀ i, G i = none → Dis (upd G i (some (.cells cs))) L → SOps P A f nt h0 (q - 1) r ((d, .sl i 0 n s) :: E) bx (hset (upd G i (some (.cells cs))) L) Q) : SOps P A f nt h0 q (⟨some d, none, .hbs z s n ps⟩ :: r) E bx (hset G L) Q :=
  o_hbs hlt hf ho fun i hi => by
    obtain ⟨e1, e2⟩ := hset_in (o := .cells cs) hi
    rw [← e1]
    exact H i (hset_none hi) (e2 hD)
theorem o_appB {d s b : Nat} {x y : SX} {r : List SO} {vx vy : AV} {old new : List AV} {l n : Nat} (hq : q = 0) (hlt : (decide (d < nt)) = true) (hx : ev (lk E) x = some vx) (hy : ev (lk E) y = some vy) (L' : List (Nat × AObj)) (hL : (vx = .nil .sl ∧ old = [] ∧ l = 0 ∧ L = L') ∨ ∃ i, vx = .sl i 0 l s ∧ old.length = l * s ∧ hset G L = hset G ((i, .cells old) :: L') ∧ Dis G ((i, .cells old) :: L')) (hD : Dis G L)
    (hsrc : srcOf s (hset G L) vy = some (new, n)) (hlen : new.length = n * s) (h1 : 0 < n) (hone : new.all AV.one = true) (hbd : (l + n) * (b + 1) ≤ 2 ^ 44)
    (H : ∀ i, Dis G ((i, .cells (old ++ new)) :: L') → SOps P A f nt h0 0 r ((d, .sl i 0 (l + n) s) :: E) bx (hset G ((i, .cells (old ++ new)) :: L')) Q) : SOps P A f nt h0 q (⟨some d, none, .app s b x y⟩ :: r) E bx (hset G L) Q := by
  subst hq
  have key : HasSl (hset G L') s vx old l (hset G L) ∧ Dis G L' := by
    rcases hL with ⟨rfl, rfl, rfl, rfl⟩ | ⟨i, rfl, hl, e, hD'⟩
    · exact ⟨.nil, hD⟩
    · rw [e]
      exact ⟨.sl i _ _ hD'.1 hl, hD'.2⟩
  refine o_app hlt hx hy key.1 hsrc hlen hone hbd (.inl rfl) (fun h => by omega) fun v h1' hv => ?_
  rcases hv.dis key.2 with ⟨_, _, h3, _⟩ | ⟨i, rfl, _, rfl, hD2⟩
  · omega
  · exact H i hD2
end
end Go.Abs
