import Derived.Test.YtmnnmgfjlokmkaaGreatAbsOpsA
import Derived.Laws.AppendOwn
import Derived.Laws.IdiomStrings
import Derived.Laws.MakeOwn
section
open Go.RowKit (Below)
namespace Go.Abs
def Step1 (P : Program) (B : Nat) (w0 : Anchor) (μ : Mu) (M : Mem) (n n' : Nat) (h' : Heap) (w : World) (v : AV) (s : Sem Next) : Prop :=
 ∃ μ' w' nx cv, s.run P w = .ok nx w' ∧ (nx = .value cv ∨ (nx = .skip ∧ cv = undef)) ∧ SR B w0 μ' M h' w' ∧ μ.le μ' ∧ (∀ id, ¬(n ≤ id ∧ id < n') → μ' id = μ id) ∧ VR μ' M v cv
section
variable {P : Program} {B : Nat} {w0 : Anchor} {w : World} {μ : Mu} {M : Mem} {h : Heap} {n : Nat}
theorem Step1.stay {v : AV} {cv : Value} {s : Sem Next} (sr : SR B w0 μ M h w) (hr : VR μ M v cv) (e : s.run P w = .ok (.value cv) w) : Step1 P B w0 μ M n n h w v s :=
 ⟨μ, w, _, cv, e, .inl rfl, sr, .refl _, fun _ _ => rfl, hr⟩
theorem SR.newCells (s : SR B w0 μ M h w) (hB : B ≤ w.heap.size) {id : Nat} (hn : μ id = none) (arr : Array Value) (e : TypeId) (fr : Nat × Nat) (cs : List AV) (ext : Nat) (hle : cs.length ≤ ext) (hext : ext ≤ arr.size)
  (hfr : fr.1 = fr.2 ∨ arr.size ≤ fr.1) (hv : VRs μ M cs (arr.toList.take cs.length)) :
  SR B w0 (upd μ id (some ⟨w.heap.size, 0, ext⟩)) M (upd h id (some (.cells cs))) (w.alloc (.cells arr e fr)) := by
 have hnew := heap_alloc_new w (.cells arr e fr)
 have hcell : ∀ j, (w.alloc (.cells arr e fr)).cell? ⟨w.heap.size, j, none⟩ = arr[j]? := by
  intro j
  simp only [World.cell?, hnew]
  rfl
 refine s.add hB ((Below.refl _ _).alloc (Nat.le_refl _) _) (fun b hb c t lo hi e0 => ?_) id hn ⟨w.heap.size, 0, ext⟩ rfl (by simp) _ ⟨hle, ?_, ?_⟩
 ·have hlt : b < (w.alloc (.cells arr e fr)).heap.size := (Array.getElem?_eq_some_iff.1 e0).1
  obtain rfl : b = w.heap.size := by simp at hlt; omega
  rw [hnew] at e0
  simp only [Option.some.injEq, Obj.cells.injEq] at e0
  obtain ⟨rfl, _, rfl⟩ := e0
  exact hfr
 ·intro j hj
  simp only [Nat.zero_add]
  simp only at hj
  refine ⟨by rw [hcell]; simp; omega, ?_⟩
  simp only [World.frozen?, hnew]
  obtain ⟨f1, f2⟩ := fr
  simp only at hfr ⊢
  simp only [Bool.and_eq_false_iff, decide_eq_false_iff_not]
  omega
 ·intro i a ha
  obtain ⟨v, hv1, hv2⟩ := hv.get ha
  simp only [Nat.zero_add]
  refine ⟨v, ?_, hv2.mono (upd_le hn _) (.refl _)⟩
  rw [hcell]
  rw [List.getElem?_take] at hv1
  split at hv1
  ·simpa using hv1
  ·cases hv1
theorem SR.drew (s : SR B w0 μ M h w) (hB : B ≤ w.heap.size) : SR B w0 μ M h w.drew :=
 s.grow ⟨rfl, rfl, rfl, Nat.le_refl _, fun _ _ => rfl⟩ hB (fun b hb c t lo hi e0 => by
  have := (Array.getElem?_eq_some_iff.1 e0).1
  exact absurd (show b < w.heap.size from this) (by omega))
theorem upd_other {μ : Mu} {n : Nat} (r : Option Rng) : ∀ id, ¬(n ≤ id ∧ id < n + 1) → upd μ n r id = μ id := fun id hid => by
 unfold upd
 rw [if_neg (by omega)]
def EvR (μ : Mu) (M : Mem) (ev : Operand → Option AV) (ρ : Operand → Value) : Prop := ∀ x v, ev x = some v → VR μ M v (ρ x)
theorem evs_rel {ev : Operand → Option AV} {ρ : Operand → Value} (hev : EvR μ M ev ρ) : ∀ {l : List Operand} {r : List AV}, evs ev l = some r → VRs μ M r (l.map ρ)
 | [], r, e => by simp [evs] at e; subst e; exact .nil
 | x :: l, r, e => by
  unfold evs at e
  cases hx : ev x with
  | none => rw [hx] at e; cases e
  | some v =>
   rw [hx] at e
   obtain ⟨r', hr', rfl⟩ := mapo e
   exact .cons (hev x v hx) (evs_rel hev hr')
theorem evParts_rel {ev : Operand → Option AV} {ρ : Operand → Value} (hev : EvR μ M ev ρ) : ∀ {l : List (Nat × Operand)} {r : List (Nat × AV)}, evParts ev l = some r →
  r.length = (l.map fun x => (x.1, ρ x.2)).length ∧ ∀ (i : Nat) p q, r[i]? = some p → (l.map fun x => (x.1, ρ x.2))[i]? = some q → p.1 = q.1 ∧ VR μ M p.2 q.2
 | [], r, e => by simp [evParts] at e; subst e; simp
 | (j, x) :: l, r, e => by
  unfold evParts at e
  cases hx : ev x with
  | none => rw [hx] at e; cases e
  | some v =>
   rw [hx] at e
   obtain ⟨r', hr', rfl⟩ := mapo e
   obtain ⟨h1, h2⟩ := evParts_rel hev hr'
   refine ⟨by simpa using h1, ?_⟩
   intro i p q hp hq
   cases i with
   | zero => simp at hp hq; subst hp hq; exact ⟨rfl, hev x v hx⟩
   | succ i => exact h2 i p q (by simpa using hp) (by simpa using hq)
theorem zeroOf_run {t : TypeId} {z : AV} (e : zeroOf P t = some z) : ∃ zv, (∀ w, (zeroValue t).run P w = .ok zv w) ∧ ofv zv = some z ∧ ∃ i, P.info? t = some i ∧ i.zero = some zv := by
 unfold zeroOf at e
 obtain ⟨zv, h1, h2⟩ := bindo e
 obtain ⟨i, hi, hz⟩ := bindo h1
 exact ⟨zv, fun w => by simp [zeroValue, typeInfo, hi, hz], h2, i, hi, hz⟩
theorem run_places (fs : List Field) (hs : ∀ f ∈ fs, (szOf P f.type).isSome = true) :
  (fs.mapM (fun f => do pure (f.offset, ← sizeOf f.type) : Field → Sem (Nat × Nat))).run P w = .ok (fs.map fun f => (f.offset, (szOf P f.type).getD 0)) w := by
 induction fs with
 | nil => rfl
 | cons f fs ih =>
  obtain ⟨s, hs'⟩ := Option.isSome_iff_exists.1 (hs f (by simp))
  rw [List.mapM_cons]
  simp only [Sem.run_bind, run_sizeOf' hs', Result.andThen_ok, Sem.run_pure, ih (fun g hg => hs g (by simp [hg])), List.map_cons, hs', Option.getD_some]
theorem build_sim {t : TypeId} {ps : List (Nat × AV)} {qs : List (Nat × Value)} {v : AV} (hl : ps.length = qs.length)
  (hpq : ∀ (i : Nat) p q, ps[i]? = some p → qs[i]? = some q → p.1 = q.1 ∧ VR μ M p.2 q.2) (e : buildA P t ps = some v) :
  ∃ cv, (Instr.build t qs.toArray).run P w = .ok cv w ∧ VR μ M v cv := by
 unfold buildA at e
 split at e
 ·rename_i z fs hz hu
  obtain ⟨zv, hzr, hzo, _⟩ := zeroOf_run hz
  split at e
  ·rename_i hall
   obtain ⟨cs, hf, rfl⟩ := mapo e
   have hzv := (ofv_vr (μ := μ) (M := M) hzo).cells
   have hsz : ∀ f ∈ fs.toList, (szOf P f.type).isSome = true := fun f hf => by
    rw [Array.all_eq_true] at hall
    obtain ⟨i, hi, rfl⟩ := List.getElem_of_mem hf
    simpa using hall i (by simpa using hi)
   have hplace : (fun i => (fs.toList.map fun f => (f.offset, (szOf P f.type).getD 0)).toArray[i]?) = fieldPlaces P fs := by
    funext i
    unfold fieldPlaces
    cases hi : fs[i]? with
    | none => simp [hi]
    | some f =>
     obtain ⟨s, hs⟩ := Option.isSome_iff_exists.1 (hsz f (by rw [Array.mem_toList_iff]; exact Array.mem_of_getElem? hi))
     simp [hi, hs]
   obtain ⟨vs', h1, h2⟩ := fill_sim hl hpq hzv hf
   refine ⟨.agg vs', ?_, by simpa using VR.agg' h2⟩
   simp only [Instr.build, Sem.run_bind, hzr, Result.andThen_ok, run_underlying hu, Array.mapM_eq_mapM_toList, Sem.run_map, run_places _ hsz, hplace]
   simp [h1]
  ·cases e
 ·rename_i z l el hz hu
  obtain ⟨zv, hzr, hzo, _⟩ := zeroOf_run hz
  split at e
  ·rename_i s hs
   obtain ⟨cs, hf, rfl⟩ := mapo e
   have hzv := (ofv_vr (μ := μ) (M := M) hzo).cells
   obtain ⟨vs', h1, h2⟩ := fill_sim hl hpq hzv hf
   refine ⟨.agg vs', ?_, by simpa using VR.agg' h2⟩
   simp only [Instr.build, Sem.run_bind, hzr, Result.andThen_ok, run_underlying hu, run_sizeOf' hs]
   simp [h1]
  ·cases e
 ·cases e
theorem zeros_vrs {z : AV} {zv : Value} (hz : VR μ M z zv) (hpos : 0 < z.cells.length) (k : Nat) : VRs μ M (zerosA z.cells k) ((Array.range k).map fun i => zv.cells[i % zv.cells.size]!).toList := by
 have hc := hz.cells
 have hl : z.cells.length = zv.cells.size := by simpa using hc.1
 refine ⟨by simp [zerosA], ?_⟩
 intro i a v ha hv
 have hi : i < k := by
  have := (List.getElem?_eq_some_iff.1 ha).1
  simpa [zerosA] using this
 simp [zerosA, hi] at ha hv
 have hlt : i % z.cells.length < z.cells.length := Nat.mod_lt _ hpos
 refine hc.2 (i % z.cells.length) a v ?_ ?_
 ·rw [List.getElem?_eq_getElem hlt] at ha ⊢
  simpa using ha
 ·rw [← hv, hl]
  have : i % zv.cells.size < zv.cells.size := by rw [← hl]; exact hlt
  simp [getElem!_pos, this]
end
end Go.Abs
end
section
open Go.RowKit (Below)
namespace Go.Abs
section
variable {P : Program} {B : Nat} {w0 : Anchor} {w : World} {μ : Mu} {M : Mem} {h h' : Heap} {n n' : Nat} {lg : Log}
def valS (S : Sem Value) : Sem Next := do pure (.value (← S))
theorem Step1.val {S : Sem Value} {w' : World} {cv : Value} {v : AV} {μ' : Mu} (e : S.run P w = .ok cv w') (sr : SR B w0 μ' M h' w') (hl : μ.le μ') (ho : ∀ id, ¬(n ≤ id ∧ id < n') → μ' id = μ id) (hr : VR μ' M v cv) :
  Step1 P B w0 μ M n n' h' w v (valS S) :=
 ⟨μ', w', _, cv, by simp [valS, e], .inl rfl, sr, hl, ho, hr⟩
theorem Step1.same {S : Sem Value} {cv : Value} {v : AV} (sr : SR B w0 μ M h w) (hr : VR μ M v cv) (e : S.run P w = .ok cv w) : Step1 P B w0 μ M n n h w v (valS S) :=
 Step1.val e sr (.refl _) (fun _ _ => rfl) hr
theorem elem_of {t e : TypeId} (he : elemOfSlice P t = some e) : P.underlying t = some (.slice e) := by
 unfold elemOfSlice at he
 split at he
 ·rename_i x hx; cases he; exact hx
 ·cases he
theorem buildSlice_sim (sr : SR B w0 μ M h w) (hB : B ≤ w0.w.heap.size) (hfree : ∀ id, n ≤ id → id < n' → μ id = none) {t : TypeId} {len : Nat} {ps : List (Nat × AV)} {qs : List (Nat × Value)} {v : AV} (hl : ps.length = qs.length)
  (hpq : ∀ (i : Nat) p q, ps[i]? = some p → qs[i]? = some q → p.1 = q.1 ∧ VR μ M p.2 q.2) (e : buildSliceA P t len ps h n = some (v, h', n', lg)) :
  Step1 P B w0 μ M n n' h' w v (valS (Instr.buildSlice t len qs.toArray)) := by
 unfold buildSliceA at e
 obtain ⟨el, _, _, _, _, e1, f1, _⟩ := bind_some e
 obtain ⟨he, rfl, rfl⟩ := lift_some e1
 obtain ⟨s, _, _, _, _, e2, f2, _⟩ := bind_some f1
 obtain ⟨hs, rfl, rfl⟩ := lift_some e2
 obtain ⟨z, _, _, _, _, e3, f3, _⟩ := bind_some f2
 obtain ⟨hz, rfl, rfl⟩ := lift_some e3
 split at f3
 ·rename_i hc
  obtain ⟨hc1, hc2, hc3, hc4⟩ := hc
  obtain ⟨cs, _, _, _, _, e4, f4, _⟩ := bind_some f3
  obtain ⟨hf, rfl, rfl⟩ := lift_some e4
  split at f4
  ·obtain ⟨id, _, _, _, _, e5, f5, _⟩ := bind_some f4
   obtain ⟨rfl, rfl, rfl⟩ := new_some e5
   obtain ⟨rfl, rfl, rfl⟩ := pure_some f5
   obtain ⟨zv, hzr, hzo, _⟩ := zeroOf_run hz
   have hzv := ofv_vr (μ := μ) (M := M) hzo
   have hn := hfree id (Nat.le_refl _) (by omega)
   obtain ⟨vs', h1, h2⟩ := fill_sim hl hpq (zeros_vrs hzv (by omega) (len * s)) hf
   have hsize := h2.1
   have hvl : vs'.size = cs.length := by simpa using hsize.symm
   refine Step1.val (w' := w.alloc (.cells vs' el)) (μ' := upd μ id (some ⟨w.heap.size, 0, cs.length⟩)) (cv := .slice (some ⟨w.heap.size, 0, none⟩) len len) ?_
    (sr.newCells (sr.le_size hB) hn vs' el (0, 0) cs cs.length (Nat.le_refl _) (by omega) (by simp) (by rw [List.take_of_length_le (by simp; omega)]; exact h2))
    (upd_le hn _) (upd_other _) ?_
   ·have hlen : ¬ (16777216 < len * s) := by omega
    simp only [Instr.buildSlice, Sem.run_bind, run_underlying (elem_of he), Result.andThen_ok, run_sizeOf' hs]
    simp only [gt_iff_lt, Nat.reducePow, if_neg hlen]
    by_cases h0 : len * s = 0
    ·have : len = 0 := by
      rcases Nat.mul_eq_zero.1 h0 with h | h <;> omega
     subst this
     have hr0 : Array.range 0 = #[] := rfl
     rw [Nat.zero_mul, hr0, Array.map_empty] at h1
     rw [Nat.zero_mul, hr0]
     simp [h1, newRow]
    ·simp only [if_neg h0, Sem.run_bind, hzr, Result.andThen_ok, Sem.run_pure]
     simp only [h1]
     simp [newRow]
   ·refine .sl id 0 len s len ⟨w.heap.size, 0, cs.length⟩ ⟨w.heap.size, 0, none⟩ (by simp [upd]) (Nat.le_refl _) (fun _ => ⟨by simp, ?_⟩)
    have hfl : ∀ {ps : List (Nat × AV)} {cs cs' : List AV}, fillA (fun i => some (i * s, s)) cs ps = some cs' → cs'.length = cs.length := by
     intro ps
     induction ps with
     | nil => intro cs cs' h; simp [fillA] at h; rw [h]
     | cons p ps ih =>
      intro cs cs' h
      unfold fillA at h
      simp only at h
      split at h
      ·split at h
       ·rename_i c2 hs2
        obtain ⟨rfl, hle⟩ := spliceL_some hs2
        rw [ih h]
        simp
        omega
       ·cases h
      ·cases h
    have := hfl hf
    simp [zerosA] at this
    simp
    omega
  ·exact (fail_some f4).elim
 ·exact (fail_some f3).elim
theorem storeT_sim (sr : SR B w0 μ M h w) {t : TypeId} {p x v : AV} {pv xv : Value} (hp : VR μ M p pv) (hx : VR μ M x xv) (e : storeT P t p x h n = some (v, h', n', lg)) :
  n' = n ∧ v = .undef ∧ ∃ w', (Instr.storeAt t pv xv).run P w = .ok () w' ∧ SR B w0 μ M h' w' := by
 unfold storeT at e
 obtain ⟨s, _, _, _, _, e1, f1, _⟩ := bind_some e
 obtain ⟨hs, rfl, rfl⟩ := lift_some e1
 split at f1
 ·rename_i hc
  obtain ⟨u, _, _, _, _, e2, f2, _⟩ := bind_some f1
  obtain ⟨rfl, rfl, rfl⟩ := pure_some f2
  obtain ⟨rfl, b, o, w', rfl, hr, hsr⟩ := storeAtA_sim (P := P) sr hp hx.cells e2
  refine ⟨rfl, rfl, w', ?_, hsr⟩
  have hl : xv.cells.size = s := by
   have := hx.cells.1
   simp at this
   omega
  simp [Instr.storeAt, Instr.sureAddr, storeVar, run_sizeOf' hs, hl, hr]
 ·exact (fail_some f1).elim
theorem nilEq_run {t : TypeId} {x : AV} {xv nv : Value} {b : Bool} {k : NilK} (hx : VR μ M x xv) (hn : VR μ M (.nil k) nv) (hb : isNilA x = some b) (ht : nilFits P t k x = true) :
  (Op.equal t xv nv).run P w = .ok b w ∧ (Op.equal t nv xv).run P w = .ok b w := by
 unfold nilFits at ht
 simp only [Bool.and_eq_true, beq_iff_eq] at ht
 obtain ⟨ht1, ht2⟩ := ht
 cases hu : P.underlying t with
 | none => rw [hu] at ht2; cases ht2
 | some d =>
  rw [hu] at ht2
  unfold Op.equal Op.maxDepth Op.equalIn
  rw [Sem.run_bind, Sem.run_bind, run_underlying hu]
  simp only [Result.andThen_ok]
  cases k <;> cases d <;> try (simp at ht2; done)
  all_goals (cases hx <;> simp [kindOfA] at ht1 <;> cases hn <;> simp [isNilA] at hb <;> subst hb <;> constructor <;> rfl)
theorem eqGuard_nil {op : BinOp} {t : TypeId} {x : AV} {ox oy : Operand} {a b : Value} {k : NilK} (hx : VR μ M x a) (hy : VR μ M (.nil k) b) (hb : ∃ c, isNilA x = some c) :
  (eqGuard op t ox oy a b).run P w = .ok () w ∧ (eqGuard op t ox oy b a).run P w = .ok () w := by
 obtain ⟨c, hc⟩ := hb
 cases hx <;> simp [isNilA] at hc <;> cases hy <;> constructor <;> (simp only [eqGuard]; split <;> rfl)
theorem binOp_nil {op : BinOp} {t : TypeId} {x : AV} {a b : Value} {k : NilK} {c : Bool} (ho : op = .eql ∨ op = .neq) (hx : VR μ M x a) (hy : VR μ M (.nil k) b) (hc : isNilA x = some c) (ht : nilFits P t k x = true) :
  (binOp op t a b).run P w = .ok (.bool (if op = .eql then c else !c)) w ∧ (binOp op t b a).run P w = .ok (.bool (if op = .eql then c else !c)) w := by
 obtain ⟨h1, h2⟩ := nilEq_run (w := w) hx hy hc ht
 rcases ho with rfl | rfl
 ·cases hx <;> simp [isNilA] at hc <;> cases hy <;> simp [binOp, h1, h2]
 ·cases hx <;> simp [isNilA] at hc <;> cases hy <;> simp [binOp, h1, h2]
theorem binA_sim {op : BinOp} {t : TypeId} {ox oy : Operand} {x y v : AV} {xv yv : Value} (_sr : SR B w0 μ M h w) (hx : VR μ M x xv) (hy : VR μ M y yv) (e : binA P op t ox oy x y = some v) :
  ∃ cv, (do eqGuard op t ox oy xv yv; binOp op t xv yv : Sem Value).run P w = .ok cv w ∧ VR μ M v cv := by
 unfold binA at e
 split at e
 ·rename_i a b ha hb
  obtain ⟨r, h1, h2⟩ := bindo e
  rw [conc_eq ha hx, conc_eq hb hy]
  exact ⟨r, spr_run h1 w, ofv_vr h2⟩
 ·split at e
  ·split at e
   ·rename_i hf
    obtain ⟨c, hc, rfl⟩ := mapo e
    obtain ⟨g1, _⟩ := eqGuard_nil (P := P) (w := w) (op := .eql) (t := t) (ox := ox) (oy := oy) hx hy ⟨c, hc⟩
    obtain ⟨b1, _⟩ := binOp_nil (w := w) (op := .eql) (.inl rfl) hx hy hc hf
    refine ⟨_, ?_, .bool _⟩
    simp [g1, b1]
   ·cases e
  ·split at e
   ·rename_i hf
    obtain ⟨c, hc, rfl⟩ := mapo e
    obtain ⟨g1, _⟩ := eqGuard_nil (P := P) (w := w) (op := .neq) (t := t) (ox := ox) (oy := oy) hx hy ⟨c, hc⟩
    obtain ⟨b1, _⟩ := binOp_nil (w := w) (op := .neq) (.inr rfl) hx hy hc hf
    refine ⟨_, ?_, .bool _⟩
    simp [g1, b1]
   ·cases e
  ·split at e
   ·rename_i hf
    obtain ⟨c, hc, rfl⟩ := mapo e
    obtain ⟨_, g1⟩ := eqGuard_nil (P := P) (w := w) (op := .eql) (t := t) (ox := ox) (oy := oy) hy hx ⟨c, hc⟩
    obtain ⟨_, b1⟩ := binOp_nil (w := w) (op := .eql) (.inl rfl) hy hx hc hf
    refine ⟨_, ?_, .bool _⟩
    simp [g1, b1]
   ·cases e
  ·split at e
   ·rename_i hf
    obtain ⟨c, hc, rfl⟩ := mapo e
    obtain ⟨_, g1⟩ := eqGuard_nil (P := P) (w := w) (op := .neq) (t := t) (ox := ox) (oy := oy) hy hx ⟨c, hc⟩
    obtain ⟨_, b1⟩ := binOp_nil (w := w) (op := .neq) (.inr rfl) hy hx hc hf
    refine ⟨_, ?_, .bool _⟩
    simp [g1, b1]
   ·cases e
  ·cases e
end
end Go.Abs
end
section
open Go.RowKit (Below)
namespace Go.Abs
section
variable {P : Program} {B : Nat} {w0 : Anchor} {w : World} {μ : Mu} {M : Mem} {h h' : Heap} {n n' : Nat} {lg : Log}
theorem bytesOfA_some : ∀ {cs : List AV} {r : List UInt8} {vs : List Value}, bytesOfA cs = some r → VRs μ M cs vs → ∃ ns : List Int, vs = ns.map (Value.int .u8) ∧ r = ns.map (fun n => UInt8.ofNat n.toNat)
 | [], r, vs, e, hv => by
  simp [bytesOfA] at e
  subst e
  have := hv.1
  cases vs with
  | nil => exact ⟨[], rfl, rfl⟩
  | cons _ _ => simp at this
 | a :: cs, r, vs, e, hv => by
  cases vs with
  | nil => have := hv.1; simp at this
  | cons v vs =>
   rw [VRs.cons_iff] at hv
   unfold bytesOfA at e
   split at e
   ·rename_i heq; cases heq
   ·rename_i k r' heq
    cases heq
    obtain ⟨r2, h2, rfl⟩ := mapo e
    obtain ⟨ns, rfl, rfl⟩ := bytesOfA_some h2 hv.2
    cases hv.1
    exact ⟨k :: ns, rfl, rfl⟩
   ·cases e
theorem foldl_pushes : ∀ (ns : List Int) (s : ByteArray), ns.foldl (fun r n => r.push (UInt8.ofNat n.toNat)) s = ⟨s.data ++ (ns.map (fun n => UInt8.ofNat n.toNat)).toArray⟩
 | [], s => by simp
 | n :: ns, s => by
  simp only [List.foldl_cons]
  rw [foldl_pushes ns]
  simp [ByteArray.push]
theorem isByte_of {e : TypeId} (hb : isByteT P e = true) : P.underlying e = some (.int .u8) := by
 unfold isByteT at hb
 split at hb
 ·assumption
 ·cases hb
theorem convertA_sim (sr : SR B w0 μ M h w) (hB : B ≤ w0.w.heap.size) (hfree : ∀ id, n ≤ id → id < n' → μ id = none) {s d : TypeId} {x v : AV} {xv : Value} (hx : VR μ M x xv) (e : convertA P s d x h n = some (v, h', n', lg)) :
  Step1 P B w0 μ M n n' h' w v (valS (convert s d xv)) := by
 obtain ⟨m, hm⟩ : ∃ m, m = convertA P s d x := ⟨_, rfl⟩
 rw [← hm] at e
 unfold convertA at hm
 split at hm
 ·subst hm
  obtain ⟨h1, rfl, rfl⟩ := lift_some e
  obtain ⟨r, h2, h3⟩ := bindo h1
  cases hx
  exact Step1.same sr (ofv_vr h3) (spr_run h2 w)
 ·rename_i ds s' hs hd
  subst hm
  obtain ⟨rfl, rfl, rfl⟩ := pure_some e
  have hxv := hx.str_inv
  subst hxv
  refine Step1.same sr (VR.str' _) ?_
  simp only [convert, Sem.run_bind, run_underlying hs, run_underlying hd, Result.andThen_ok]
  cases ds <;> rfl
 ·rename_i el s' hs hd
  subst hm
  split at e
  ·rename_i hb
   obtain ⟨id, _, _, _, _, e1, f1, _⟩ := bind_some e
   obtain ⟨rfl, rfl, rfl⟩ := new_some e1
   obtain ⟨rfl, rfl, rfl⟩ := pure_some f1
   have hxv := hx.str_inv
   subst hxv
   have hn := hfree id (Nat.le_refl _) (by omega)
   have hrun : (convert s d (.string ⟨s'.toArray⟩)).run P w = .ok (.slice (some ⟨w.heap.size, 0, none⟩) s'.length (grownCap w s'.length 0 el))
     (w.drew.alloc (.cells (bytesRow ⟨s'.toArray⟩ (grownCap w s'.length 0 el)) el ((bytesRow ⟨s'.toArray⟩ (grownCap w s'.length 0 el)).size, (bytesRow ⟨s'.toArray⟩ (grownCap w s'.length 0 el)).size + 1))) := by
    have hsz : (⟨s'.toArray⟩ : ByteArray).size = s'.length := by simp [ByteArray.size]
    have := run_bytes_of_string (P := P) w s d el ⟨s'.toArray⟩ hs hd (isByte_of hb)
    rwa [hsz] at this
   have hrow : (bytesRow ⟨s'.toArray⟩ (grownCap w s'.length 0 el)).size = grownCap w s'.length 0 el := by
    have hsz : (⟨s'.toArray⟩ : ByteArray).size = s'.length := by simp [ByteArray.size]
    simp [bytesRow, hsz]
    have := grownCap_ge w s'.length 0 el
    omega
   refine Step1.val hrun (((sr.drew (sr.le_size hB)).newCells (sr.le_size hB) hn _ _ _ _ (grownCap w s'.length 0 el) ?_ ?_ ?_ ?_)) (upd_le hn _) (upd_other _) ?_
   ·simp
    exact grownCap_ge w s'.length 0 el
   ·rw [hrow]; exact Nat.le_refl _
   ·exact .inr (Nat.le_refl _)
   ·refine ⟨by simp [bytesRow], ?_⟩
    intro i a v ha hv
    rw [List.getElem?_map] at ha
    obtain ⟨b, hb1, rfl⟩ := mapo ha
    rw [List.getElem?_take] at hv
    have hi : i < s'.length := (List.getElem?_eq_some_iff.1 hb1).1
    simp only [List.length_map, hi, if_true, bytesRow, Array.toList_append] at hv
    rw [List.getElem?_append_left (by simpa using hi)] at hv
    simp [hb1] at hv
    subst hv
    exact .int _ _
   ·refine .sl id 0 s'.length 1 _ ⟨w.heap.size, 0, grownCap w s'.length 0 el⟩ ⟨w.heap.size, 0, none⟩ ?_ (grownCap_ge w s'.length 0 el) (fun _ => ⟨by simp, by simp⟩)
    simp [upd]
  ·exact (fail_some e).elim
 ·rename_i el hs hd
  subst hm
  split at e
  ·rename_i hb
   obtain ⟨rfl, rfl, rfl⟩ := pure_some e
   cases hx
   refine Step1.same sr (cv := .string .empty) (VR.str' []) ?_
   rw [run_convert_bytes_string w s d el none 0 0 hs (isByte_of hb) hd]
   rfl
  ·exact (fail_some e).elim
 ·rename_i el id off len sz hs hd
  subst hm
  split at e
  ·rename_i hb
   obtain ⟨rfl, hb⟩ := hb
   obtain ⟨cs, _, _, _, _, e1, f1, _⟩ := bind_some e
   obtain ⟨hl, rfl, rfl⟩ := lift_some f1
   cases hx with
   | sl _ _ _ _ cap r a hr hlc hcap =>
    obtain ⟨rfl, rfl, hlen, b, o, vs, hpv, hvs, hc⟩ := cellsAt_sim sr (.ptr id off r hr) e1
    obtain ⟨bs, hbs, rfl⟩ := mapo hl
    obtain ⟨ns, rfl, rfl⟩ := bytesOfA_some hbs hvs
    simp only [Value.pointer.injEq, Option.some.injEq, Addr.mk.injEq, and_true] at hpv
    obtain ⟨rfl, rfl⟩ := hpv
    refine Step1.same sr (cv := .string ⟨(ns.map (fun n => UInt8.ofNat n.toNat)).toArray⟩) (VR.str' _) ?_
    rw [run_convert_bytes_string w s d el (some a) len cap hs (isByte_of hb) hd]
    have hnl : ns.length = len := by
     have := hvs.1
     simp at this
     omega
    rw [run_bytesToString w a len cap ns, foldl_pushes]
    ·simp
    ·rcases Nat.eq_zero_or_pos cap with h0 | h0
     ·have : len = 0 := by omega
      subst this
      cases ns with
      | nil => rfl
      | cons _ _ => simp at hnl
     ·obtain ⟨rfl, _⟩ := hcap h0
      have := run_loadCells_at (P := P) hc
      simpa [hnl] using this
  ·exact (fail_some e).elim
 ·rename_i el cs len hs hd
  subst hm
  split at e
  ·rename_i hb
   obtain ⟨cs', _, _, _, _, e1, f1, _⟩ := bind_some e
   obtain ⟨hcs, rfl, rfl⟩ := lift_some e1
   obtain ⟨hl, rfl, rfl⟩ := lift_some f1
   cases hx with
   | tsl _ _ cap a vs hlc hsp hm hr =>
    obtain ⟨bs, hbs, rfl⟩ := mapo hl
    have hlen := sliceL_len hcs
    have hvs : VRs μ M cs' ((List.range len).map vs) := by
     refine ⟨by simp [hlen.1], ?_⟩
     intro i x y hx hy
     have hi : i < len := by rw [← hlen.1]; exact (List.getElem?_eq_some_iff.1 hx).1
     simp [hi] at hy
     have := sliceL_get hcs hx
     rw [Nat.zero_add] at this
     exact hy ▸ hr i x this
    obtain ⟨ns, hns, rfl⟩ := bytesOfA_some hbs hvs
    refine Step1.same sr (cv := .string ⟨(ns.map (fun n => UInt8.ofNat n.toNat)).toArray⟩) (VR.str' _) ?_
    rw [run_convert_bytes_string w s d el (some a) len cap hs (isByte_of hb) hd]
    have hnl : ns.length = len := by
     have := congrArg List.length hns
     simp at this
     omega
    rw [run_bytesToString w a len cap ns, foldl_pushes]
    ·simp
    ·rcases Nat.eq_zero_or_pos len with h0 | h0
     ·subst h0
      cases ns with
      | nil => rfl
      | cons _ _ => simp at hnl
     ·have hsp' := hsp (.inl h0)
      obtain ⟨ab, ao, asp⟩ := a
      simp only at hsp'
      subst hsp'
      have := run_loadCells_at (P := P) (w := w) (b := ab) (o := ao) (vs := ns.map (Value.int .u8)) (by
       intro j v hv
       have hj : j < len := by
        have := (List.getElem?_eq_some_iff.1 hv).1
        simp at this
        omega
       rw [← hns] at hv
       simp [hj] at hv
       have hjc : j < cs.length := by omega
       rw [← hv]
       exact sr.mem _ _ _ (hm j _ (List.getElem?_eq_getElem hjc)))
      simpa [hnl] using this
  ·exact (fail_some e).elim
 ·rename_i el0 el id off len sz hs hd
  subst hm
  split at e
  ·rename_i hb
   obtain ⟨hsd, hby, hlen, rfl⟩ := hb
   obtain ⟨cs, _, _, _, _, e1, f1, _⟩ := bind_some e
   obtain ⟨rfl, rfl, rfl⟩ := pure_some f1
   cases hx with
   | sl _ _ _ _ cap r a hr hlc hcap =>
    obtain ⟨ob, _, _, _, _, e2, f2, _⟩ := bind_some e1
    obtain ⟨hob, rfl, rfl⟩ := get_some e2
    cases ob with
    | map es => exact (fail_some f2).elim
    | cells cs0 =>
     obtain ⟨hsl, rfl, rfl⟩ := lift_some f2
     have hcl := sliceL_len hsl
     obtain ⟨r', g1, g2, _, g4⟩ := sr.live id _ hob
     rw [hr] at g1
     cases g1
     obtain ⟨o1, o2, _⟩ := g4
     obtain ⟨rfl, _⟩ := hcap (by omega)
     have hle : off + len ≤ cs0.length := by
      unfold sliceL at hsl
      split at hsl
      ·assumption
      ·cases hsl
     have hcell := (o2 off (by omega)).1
     obtain ⟨c, t, lo, hi, hblk⟩ : ∃ c t lo hi, w.heap[r.b]? = some (.cells c t (lo, hi)) := by
      unfold World.cell? at hcell
      simp only at hcell
      split at hcell
      ·rename_i c t f hh
       exact ⟨c, t, f.1, f.2, hh⟩
      ·simp at hcell
     have hrun : (convert s d (.slice (some ⟨r.b, r.o + off, none⟩) len cap)).run P w = .ok (.slice (some ⟨r.b, r.o + off, none⟩) len cap) (w.freeze ⟨r.b, c.size, none⟩ 1) := by
      simp only [convert, Sem.run_bind, run_underlying hs, run_underlying hd, run_underlying (isByte_of hby), Result.andThen_ok, hsd]
      simp [markStringish, World.shape?, hblk]
     exact Step1.val hrun (sr.mark g2 hblk) (.refl _) (fun _ _ => rfl) (.sl id off len 1 cap r _ hr hlc hcap)
  ·exact (fail_some e).elim
 ·subst hm
  exact (fail_some e).elim
end
end Go.Abs
end
