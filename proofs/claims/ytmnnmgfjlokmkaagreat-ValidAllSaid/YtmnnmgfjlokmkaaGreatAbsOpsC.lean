import Derived.Test.YtmnnmgfjlokmkaaGreatAbsOpsB
open Go.RowKit (Below)
namespace Go.Abs
section
variable {P : Program} {B : Nat} {w0 : Anchor} {w : World} {μ : Mu} {M : Mem} {h h' : Heap} {n n' : Nat} {lg : Log}
def valS (S : Sem Value) : Sem Next := do pure (.value (← S))
theorem Step1.val {S : Sem Value} {w' : World} {cv : Value} {v : AV} {μ' : Mu} (e : S.run P w = .ok cv w') (sr : SR B w0 μ' M h' w') (hl : μ.le μ') (ho : ∀ id, ¬(n ≤ id ∧ id < n') → μ' id = μ id) (hr : VR μ' M v cv) :
    Step1 P B w0 μ M n n' h' w v (valS S) :=
  ⟨μ', w', _, cv, by simp [valS, e], .inl rfl, sr, hl, ho, hr⟩
theorem Step1.same {S : Sem Value} {cv : Value} {v : AV} (sr : SR B w0 μ M h w) (hr : VR μ M v cv) (e : S.run P w = .ok cv w) : Step1 P B w0 μ M n n h w v (valS S) :=
  Step1.val e sr (.refl _) (fun _ _ => rfl) hr
theorem elem_of {t e : TypeId} (he : elemOfSlice P t = some e) : P.underlying t = some (.slice e) := by
  unfold elemOfSlice at he
  split at he
  · rename_i x hx; cases he; exact hx
  · cases he
theorem buildSlice_sim (sr : SR B w0 μ M h w) (hB : B ≤ w0.w.heap.size) (hfree : ∀ id, n ≤ id → id < n' → μ id = none) {t : TypeId} {len : Nat} {ps : List (Nat × AV)} {qs : List (Nat × Value)} {v : AV} (hl : ps.length = qs.length)
    (hpq : ∀ (i : Nat) p q, ps[i]? = some p → qs[i]? = some q → p.1 = q.1 ∧ VR μ M p.2 q.2) (e : buildSliceA P t len ps h n = some (v, h', n', lg)) :
    Step1 P B w0 μ M n n' h' w v (valS (Instr.buildSlice t len qs.toArray)) := by
  unfold buildSliceA at e
  obtain ⟨el, _, _, _, _, e1, f1, _⟩ := bind_some e
  obtain ⟨he, rfl, rfl⟩ := lift_some e1
  obtain ⟨s, _, _, _, _, e2, f2, _⟩ := bind_some f1
  obtain ⟨hs, rfl, rfl⟩ := lift_some e2
  obtain ⟨z, _, _, _, _, e3, f3, _⟩ := bind_some f2
  obtain ⟨hz, rfl, rfl⟩ := lift_some e3
  split at f3
  · rename_i hc
    obtain ⟨hc1, hc2, hc3, hc4⟩ := hc
    obtain ⟨cs, _, _, _, _, e4, f4, _⟩ := bind_some f3
    obtain ⟨hf, rfl, rfl⟩ := lift_some e4
    split at f4
    · obtain ⟨id, _, _, _, _, e5, f5, _⟩ := bind_some f4
      obtain ⟨rfl, rfl, rfl⟩ := new_some e5
      obtain ⟨rfl, rfl, rfl⟩ := pure_some f5
      obtain ⟨zv, hzr, hzo, _⟩ := zeroOf_run hz
      have hzv := ofv_vr (μ := μ) (M := M) hzo
      have hn := hfree id (Nat.le_refl _) (by omega)
      obtain ⟨vs', h1, h2⟩ := fill_sim hl hpq (zeros_vrs hzv (by omega) (len * s)) hf
      have hsize := h2.1
      have hvl : vs'.size = cs.length := by simpa using hsize.symm
      refine Step1.val (w' := w.alloc (.cells vs' el)) (μ' := upd μ id (some ⟨w.heap.size, 0, cs.length⟩)) (cv := .slice (some ⟨w.heap.size, 0, none⟩) len len) ?_
        (sr.newCells (sr.le_size hB) hn vs' el (0, 0) cs cs.length (Nat.le_refl _) (by omega) (by simp) (by rw [List.take_of_length_le (by simp; omega)]; exact h2))
        (upd_le hn _) (upd_other _) ?_
      · have hlen : ¬ (16777216 < len * s) := by omega
        simp only [Instr.buildSlice, Sem.run_bind, run_underlying (elem_of he), Result.andThen_ok, run_sizeOf' hs]
        simp only [gt_iff_lt, Nat.reducePow, if_neg hlen]
        by_cases h0 : len * s = 0
        · have : len = 0 := by
            rcases Nat.mul_eq_zero.1 h0 with h | h <;> omega
          subst this
          have hr0 : Array.range 0 = #[] := rfl
          rw [Nat.zero_mul, hr0, Array.map_empty] at h1
          rw [Nat.zero_mul, hr0]
          simp [h1, newRow]
        · simp only [if_neg h0, Sem.run_bind, hzr, Result.andThen_ok, Sem.run_pure]
          simp only [h1]
          simp [newRow]
      · refine .sl id 0 len s len ⟨w.heap.size, 0, cs.length⟩ ⟨w.heap.size, 0, none⟩ (by simp [upd]) (Nat.le_refl _) (fun _ => ⟨by simp, ?_⟩)
        have hfl : ∀ {ps : List (Nat × AV)} {cs cs' : List AV}, fillA (fun i => some (i * s, s)) cs ps = some cs' → cs'.length = cs.length := by
          intro ps
          induction ps with
          | nil => intro cs cs' h; simp [fillA] at h; rw [h]
          | cons p ps ih =>
            intro cs cs' h
            unfold fillA at h
            simp only at h
            split at h
            · split at h
              · rename_i c2 hs2
                obtain ⟨rfl, hle⟩ := spliceL_some hs2
                rw [ih h]
                simp
                omega
              · cases h
            · cases h
        have := hfl hf
        simp [zerosA] at this
        simp
        omega
    · exact (fail_some f4).elim
  · exact (fail_some f3).elim
theorem storeT_sim (sr : SR B w0 μ M h w) {t : TypeId} {p x v : AV} {pv xv : Value} (hp : VR μ M p pv) (hx : VR μ M x xv) (e : storeT P t p x h n = some (v, h', n', lg)) :
    n' = n ∧ v = .undef ∧ ∃ w', (Instr.storeAt t pv xv).run P w = .ok () w' ∧ SR B w0 μ M h' w' := by
  unfold storeT at e
  obtain ⟨s, _, _, _, _, e1, f1, _⟩ := bind_some e
  obtain ⟨hs, rfl, rfl⟩ := lift_some e1
  split at f1
  · rename_i hc
    obtain ⟨u, _, _, _, _, e2, f2, _⟩ := bind_some f1
    obtain ⟨rfl, rfl, rfl⟩ := pure_some f2
    obtain ⟨rfl, b, o, w', rfl, hr, hsr⟩ := storeAtA_sim (P := P) sr hp hx.cells e2
    refine ⟨rfl, rfl, w', ?_, hsr⟩
    have hl : xv.cells.size = s := by
      have := hx.cells.1
      simp at this
      omega
    simp [Instr.storeAt, Instr.sureAddr, storeVar, run_sizeOf' hs, hl, hr]
  · exact (fail_some f1).elim
theorem nilEq_run {t : TypeId} {x : AV} {xv nv : Value} {b : Bool} {k : NilK} (hx : VR μ M x xv) (hn : VR μ M (.nil k) nv) (hb : isNilA x = some b) (ht : nilFits P t k x = true) :
    (Op.equal t xv nv).run P w = .ok b w ∧ (Op.equal t nv xv).run P w = .ok b w := by
  unfold nilFits at ht
  simp only [Bool.and_eq_true, beq_iff_eq] at ht
  obtain ⟨ht1, ht2⟩ := ht
  cases hu : P.underlying t with
  | none => rw [hu] at ht2; cases ht2
  | some d =>
    rw [hu] at ht2
    unfold Op.equal Op.maxDepth Op.equalIn
    rw [Sem.run_bind, Sem.run_bind, run_underlying hu]
    simp only [Result.andThen_ok]
    cases k <;> cases d <;> try (simp at ht2; done)
    all_goals (cases hx <;> simp [kindOfA] at ht1 <;> cases hn <;> simp [isNilA] at hb <;> subst hb <;> constructor <;> rfl)
theorem eqGuard_nil {op : BinOp} {t : TypeId} {x : AV} {ox oy : Operand} {a b : Value} {k : NilK} (hx : VR μ M x a) (hy : VR μ M (.nil k) b) (hb : ∃ c, isNilA x = some c) :
    (eqGuard op t ox oy a b).run P w = .ok () w ∧ (eqGuard op t ox oy b a).run P w = .ok () w := by
  obtain ⟨c, hc⟩ := hb
  cases hx <;> simp [isNilA] at hc <;> cases hy <;> constructor <;> (simp only [eqGuard]; split <;> rfl)
theorem binOp_nil {op : BinOp} {t : TypeId} {x : AV} {a b : Value} {k : NilK} {c : Bool} (ho : op = .eql ∨ op = .neq) (hx : VR μ M x a) (hy : VR μ M (.nil k) b) (hc : isNilA x = some c) (ht : nilFits P t k x = true) :
    (binOp op t a b).run P w = .ok (.bool (if op = .eql then c else !c)) w ∧ (binOp op t b a).run P w = .ok (.bool (if op = .eql then c else !c)) w := by
  obtain ⟨h1, h2⟩ := nilEq_run (w := w) hx hy hc ht
  rcases ho with rfl | rfl
  · cases hx <;> simp [isNilA] at hc <;> cases hy <;> simp [binOp, h1, h2]
  · cases hx <;> simp [isNilA] at hc <;> cases hy <;> simp [binOp, h1, h2]
theorem binA_sim {op : BinOp} {t : TypeId} {ox oy : Operand} {x y v : AV} {xv yv : Value} (_sr : SR B w0 μ M h w) (hx : VR μ M x xv) (hy : VR μ M y yv) (e : binA P op t ox oy x y = some v) :
    ∃ cv, (do eqGuard op t ox oy xv yv; binOp op t xv yv : Sem Value).run P w = .ok cv w ∧ VR μ M v cv := by
  unfold binA at e
  split at e
  · rename_i a b ha hb
    obtain ⟨r, h1, h2⟩ := bindo e
    rw [conc_eq ha hx, conc_eq hb hy]
    exact ⟨r, spr_run h1 w, ofv_vr h2⟩
  · split at e
    · split at e
      · rename_i hf
        obtain ⟨c, hc, rfl⟩ := mapo e
        obtain ⟨g1, _⟩ := eqGuard_nil (P := P) (w := w) (op := .eql) (t := t) (ox := ox) (oy := oy) hx hy ⟨c, hc⟩
        obtain ⟨b1, _⟩ := binOp_nil (w := w) (op := .eql) (.inl rfl) hx hy hc hf
        refine ⟨_, ?_, .bool _⟩
        simp [g1, b1]
      · cases e
    · split at e
      · rename_i hf
        obtain ⟨c, hc, rfl⟩ := mapo e
        obtain ⟨g1, _⟩ := eqGuard_nil (P := P) (w := w) (op := .neq) (t := t) (ox := ox) (oy := oy) hx hy ⟨c, hc⟩
        obtain ⟨b1, _⟩ := binOp_nil (w := w) (op := .neq) (.inr rfl) hx hy hc hf
        refine ⟨_, ?_, .bool _⟩
        simp [g1, b1]
      · cases e
    · split at e
      · rename_i hf
        obtain ⟨c, hc, rfl⟩ := mapo e
        obtain ⟨_, g1⟩ := eqGuard_nil (P := P) (w := w) (op := .eql) (t := t) (ox := ox) (oy := oy) hy hx ⟨c, hc⟩
        obtain ⟨_, b1⟩ := binOp_nil (w := w) (op := .eql) (.inl rfl) hy hx hc hf
        refine ⟨_, ?_, .bool _⟩
        simp [g1, b1]
      · cases e
    · split at e
      · rename_i hf
        obtain ⟨c, hc, rfl⟩ := mapo e
        obtain ⟨_, g1⟩ := eqGuard_nil (P := P) (w := w) (op := .neq) (t := t) (ox := ox) (oy := oy) hy hx ⟨c, hc⟩
        obtain ⟨_, b1⟩ := binOp_nil (w := w) (op := .neq) (.inr rfl) hy hx hc hf
        refine ⟨_, ?_, .bool _⟩
        simp [g1, b1]
      · cases e
    · cases e
end
end Go.Abs
