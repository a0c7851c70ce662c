import Derived.Test.YtmnnmgfjlokmkaaGreatAbsOpsA
import Derived.Laws.AppendOwn
open Go.RowKit (Below)
namespace Go.Abs
def Step1 (P : Program) (B : Nat) (w0 : Anchor) (μ : Mu) (M : Mem) (n n' : Nat) (h' : Heap) (w : World) (v : AV) (s : Sem Next) : Prop :=
  ∃ μ' w' nx cv, s.run P w = .ok nx w' ∧ (nx = .value cv ∨ (nx = .skip ∧ cv = undef)) ∧ SR B w0 μ' M h' w' ∧ μ.le μ' ∧ (∀ id, ¬(n ≤ id ∧ id < n') → μ' id = μ id) ∧ VR μ' M v cv
section
variable {P : Program} {B : Nat} {w0 : Anchor} {w : World} {μ : Mu} {M : Mem} {h : Heap} {n : Nat}
theorem Step1.stay {v : AV} {cv : Value} {s : Sem Next} (sr : SR B w0 μ M h w) (hr : VR μ M v cv) (e : s.run P w = .ok (.value cv) w) : Step1 P B w0 μ M n n h w v s :=
  ⟨μ, w, _, cv, e, .inl rfl, sr, .refl _, fun _ _ => rfl, hr⟩
theorem SR.newCells (s : SR B w0 μ M h w) (hB : B ≤ w.heap.size) {id : Nat} (hn : μ id = none) (arr : Array Value) (e : TypeId) (fr : Nat × Nat) (cs : List AV) (ext : Nat) (hle : cs.length ≤ ext) (hext : ext ≤ arr.size)
    (hfr : fr.1 = fr.2 ∨ arr.size ≤ fr.1) (hv : VRs μ M cs (arr.toList.take cs.length)) :
    SR B w0 (upd μ id (some ⟨w.heap.size, 0, ext⟩)) M (upd h id (some (.cells cs))) (w.alloc (.cells arr e fr)) := by
  have hnew := heap_alloc_new w (.cells arr e fr)
  have hcell : ∀ j, (w.alloc (.cells arr e fr)).cell? ⟨w.heap.size, j, none⟩ = arr[j]? := by
    intro j
    simp only [World.cell?, hnew]
    rfl
  refine s.add hB ((Below.refl _ _).alloc (Nat.le_refl _) _) (fun b hb c t lo hi e0 => ?_) id hn ⟨w.heap.size, 0, ext⟩ rfl (by simp) _ ⟨hle, ?_, ?_⟩
  · have hlt : b < (w.alloc (.cells arr e fr)).heap.size := (Array.getElem?_eq_some_iff.1 e0).1
    obtain rfl : b = w.heap.size := by simp at hlt; omega
    rw [hnew] at e0
    simp only [Option.some.injEq, Obj.cells.injEq] at e0
    obtain ⟨rfl, _, rfl⟩ := e0
    exact hfr
  · intro j hj
    simp only [Nat.zero_add]
    simp only at hj
    refine ⟨by rw [hcell]; simp; omega, ?_⟩
    simp only [World.frozen?, hnew]
    obtain ⟨f1, f2⟩ := fr
    simp only at hfr ⊢
    simp only [Bool.and_eq_false_iff, decide_eq_false_iff_not]
    omega
  · intro i a ha
    obtain ⟨v, hv1, hv2⟩ := hv.get ha
    simp only [Nat.zero_add]
    refine ⟨v, ?_, hv2.mono (upd_le hn _) (.refl _)⟩
    rw [hcell]
    rw [List.getElem?_take] at hv1
    split at hv1
    · simpa using hv1
    · cases hv1
theorem SR.drew (s : SR B w0 μ M h w) (hB : B ≤ w.heap.size) : SR B w0 μ M h w.drew :=
  s.grow ⟨rfl, rfl, rfl, Nat.le_refl _, fun _ _ => rfl⟩ hB (fun b hb c t lo hi e0 => by
    have := (Array.getElem?_eq_some_iff.1 e0).1
    exact absurd (show b < w.heap.size from this) (by omega))
theorem upd_other {μ : Mu} {n : Nat} (r : Option Rng) : ∀ id, ¬(n ≤ id ∧ id < n + 1) → upd μ n r id = μ id := fun id hid => by
  unfold upd
  rw [if_neg (by omega)]
def EvR (μ : Mu) (M : Mem) (ev : Operand → Option AV) (ρ : Operand → Value) : Prop := ∀ x v, ev x = some v → VR μ M v (ρ x)
theorem evs_rel {ev : Operand → Option AV} {ρ : Operand → Value} (hev : EvR μ M ev ρ) : ∀ {l : List Operand} {r : List AV}, evs ev l = some r → VRs μ M r (l.map ρ)
  | [], r, e => by simp [evs] at e; subst e; exact .nil
  | x :: l, r, e => by
    unfold evs at e
    cases hx : ev x with
    | none => rw [hx] at e; cases e
    | some v =>
      rw [hx] at e
      obtain ⟨r', hr', rfl⟩ := mapo e
      exact .cons (hev x v hx) (evs_rel hev hr')
theorem evParts_rel {ev : Operand → Option AV} {ρ : Operand → Value} (hev : EvR μ M ev ρ) : ∀ {l : List (Nat × Operand)} {r : List (Nat × AV)}, evParts ev l = some r →
    r.length = (l.map fun x => (x.1, ρ x.2)).length ∧ ∀ (i : Nat) p q, r[i]? = some p → (l.map fun x => (x.1, ρ x.2))[i]? = some q → p.1 = q.1 ∧ VR μ M p.2 q.2
  | [], r, e => by simp [evParts] at e; subst e; simp
  | (j, x) :: l, r, e => by
    unfold evParts at e
    cases hx : ev x with
    | none => rw [hx] at e; cases e
    | some v =>
      rw [hx] at e
      obtain ⟨r', hr', rfl⟩ := mapo e
      obtain ⟨h1, h2⟩ := evParts_rel hev hr'
      refine ⟨by simpa using h1, ?_⟩
      intro i p q hp hq
      cases i with
      | zero => simp at hp hq; subst hp hq; exact ⟨rfl, hev x v hx⟩
      | succ i => exact h2 i p q (by simpa using hp) (by simpa using hq)
theorem zeroOf_run {t : TypeId} {z : AV} (e : zeroOf P t = some z) : ∃ zv, (∀ w, (zeroValue t).run P w = .ok zv w) ∧ ofv zv = some z ∧ ∃ i, P.info? t = some i ∧ i.zero = some zv := by
  unfold zeroOf at e
  obtain ⟨zv, h1, h2⟩ := bindo e
  obtain ⟨i, hi, hz⟩ := bindo h1
  exact ⟨zv, fun w => by simp [zeroValue, typeInfo, hi, hz], h2, i, hi, hz⟩
theorem run_places (fs : List Field) (hs : ∀ f ∈ fs, (szOf P f.type).isSome = true) :
    (fs.mapM (fun f => do pure (f.offset, ← sizeOf f.type) : Field → Sem (Nat × Nat))).run P w = .ok (fs.map fun f => (f.offset, (szOf P f.type).getD 0)) w := by
  induction fs with
  | nil => rfl
  | cons f fs ih =>
    obtain ⟨s, hs'⟩ := Option.isSome_iff_exists.1 (hs f (by simp))
    rw [List.mapM_cons]
    simp only [Sem.run_bind, run_sizeOf' hs', Result.andThen_ok, Sem.run_pure, ih (fun g hg => hs g (by simp [hg])), List.map_cons, hs', Option.getD_some]
theorem build_sim {t : TypeId} {ps : List (Nat × AV)} {qs : List (Nat × Value)} {v : AV} (hl : ps.length = qs.length)
    (hpq : ∀ (i : Nat) p q, ps[i]? = some p → qs[i]? = some q → p.1 = q.1 ∧ VR μ M p.2 q.2) (e : buildA P t ps = some v) :
    ∃ cv, (Instr.build t qs.toArray).run P w = .ok cv w ∧ VR μ M v cv := by
  unfold buildA at e
  split at e
  · rename_i z fs hz hu
    obtain ⟨zv, hzr, hzo, _⟩ := zeroOf_run hz
    split at e
    · rename_i hall
      obtain ⟨cs, hf, rfl⟩ := mapo e
      have hzv := (ofv_vr (μ := μ) (M := M) hzo).cells
      have hsz : ∀ f ∈ fs.toList, (szOf P f.type).isSome = true := fun f hf => by
        rw [Array.all_eq_true] at hall
        obtain ⟨i, hi, rfl⟩ := List.getElem_of_mem hf
        simpa using hall i (by simpa using hi)
      have hplace : (fun i => (fs.toList.map fun f => (f.offset, (szOf P f.type).getD 0)).toArray[i]?) = fieldPlaces P fs := by
        funext i
        unfold fieldPlaces
        cases hi : fs[i]? with
        | none => simp [hi]
        | some f =>
          obtain ⟨s, hs⟩ := Option.isSome_iff_exists.1 (hsz f (by rw [Array.mem_toList_iff]; exact Array.mem_of_getElem? hi))
          simp [hi, hs]
      obtain ⟨vs', h1, h2⟩ := fill_sim hl hpq hzv hf
      refine ⟨.agg vs', ?_, by simpa using VR.agg' h2⟩
      simp only [Instr.build, Sem.run_bind, hzr, Result.andThen_ok, run_underlying hu, Array.mapM_eq_mapM_toList, Sem.run_map, run_places _ hsz, hplace]
      simp [h1]
    · cases e
  · rename_i z l el hz hu
    obtain ⟨zv, hzr, hzo, _⟩ := zeroOf_run hz
    split at e
    · rename_i s hs
      obtain ⟨cs, hf, rfl⟩ := mapo e
      have hzv := (ofv_vr (μ := μ) (M := M) hzo).cells
      obtain ⟨vs', h1, h2⟩ := fill_sim hl hpq hzv hf
      refine ⟨.agg vs', ?_, by simpa using VR.agg' h2⟩
      simp only [Instr.build, Sem.run_bind, hzr, Result.andThen_ok, run_underlying hu, run_sizeOf' hs]
      simp [h1]
    · cases e
  · cases e
theorem zeros_vrs {z : AV} {zv : Value} (hz : VR μ M z zv) (hpos : 0 < z.cells.length) (k : Nat) : VRs μ M (zerosA z.cells k) ((Array.range k).map fun i => zv.cells[i % zv.cells.size]!).toList := by
  have hc := hz.cells
  have hl : z.cells.length = zv.cells.size := by simpa using hc.1
  refine ⟨by simp [zerosA], ?_⟩
  intro i a v ha hv
  have hi : i < k := by
    have := (List.getElem?_eq_some_iff.1 ha).1
    simpa [zerosA] using this
  simp [zerosA, hi] at ha hv
  have hlt : i % z.cells.length < z.cells.length := Nat.mod_lt _ hpos
  refine hc.2 (i % z.cells.length) a v ?_ ?_
  · rw [List.getElem?_eq_getElem hlt] at ha ⊢
    simpa using ha
  · rw [← hv, hl]
    have : i % zv.cells.size < zv.cells.size := by rw [← hl]; exact hlt
    simp [getElem!_pos, this]
end
end Go.Abs
