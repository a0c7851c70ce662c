import Derived.Test.YtmnnmgfjlokmkaaGreatAbsOps
open Go.RowKit (Below)
namespace Go.Abs
def cutTo (g : Heap) (lg : Log) : Heap := fun id => if id ∈ lg.1 ∨ id ∈ lg.2 then g id else none
def away (g : Heap) (μ : Mu) (lg : Log) (q : Rng) : Prop := ∃ id, g id ≠ none ∧ μ id = some q ∧ ¬(id ∈ lg.1 ∨ id ∈ lg.2)
def Anchor.with (w0 : Anchor) (g : Heap) (μ : Mu) (lg : Log) (w : World) : Anchor := ⟨w0.w, fun q => w0.fs q ∨ away g μ lg q, w⟩
section
variable {B : Nat} {w0 : Anchor} {w w' : World} {μ μ' : Mu} {M M' : Mem} {g ht ht' : Heap} {n n' : Nat} {lg : Log}
theorem cutTo_some {id : Nat} {o : AObj} (h : cutTo g lg id = some o) : g id = some o ∧ (id ∈ lg.1 ∨ id ∈ lg.2) := by
 unfold cutTo at h
 split at h
 ·rename_i hc; exact ⟨h, hc⟩
 ·cases h
theorem cutTo_ne {id : Nat} (h : cutTo g lg id ≠ none) : g id ≠ none ∧ (id ∈ lg.1 ∨ id ∈ lg.2) := by
 cases hc : cutTo g lg id with
 | none => exact absurd hc h
 | some o => have := cutTo_some hc; exact ⟨by rw [this.1]; simp, this.2⟩
theorem SR.cut (s : SR B w0 μ M g w) : SR B (w0.with g μ lg w) μ M (cutTo g lg) w := by
 have s' := s.sub (h' := cutTo g lg) (fun id o h => (cutTo_some h).1)
 refine ⟨s'.below, s'.mem, s'.live, s'.apart, s'.memApart, fun r _ => ⟨fun _ _ => rfl, fun _ _ => rfl, fun _ _ _ h => h⟩, ?_, ?_, ?_, s.clean, ?_⟩
 ·rintro r (hr | ⟨id, h1, h2, h3⟩)
  ·exact s.fsBlock r hr
  ·cases hg : g id with
   | none => exact absurd hg h1
   | some o =>
    obtain ⟨q, q1, _, q3, _⟩ := s.live id o hg
    rw [h2] at q1
    cases q1
    exact q3
 ·rintro r (hr | ⟨id, h1, h2, h3⟩) j q hj hq
  ·exact s.fsApart r hr j q (cutTo_ne hj).1 hq
  ·exact s.apart id j r q (fun e => h3 (e ▸ (cutTo_ne hj).2)) h1 (cutTo_ne hj).1 h2 hq
 ·rintro r (hr | ⟨id, h1, h2, h3⟩) b o hm
  ·exact s.fsMem r hr b o hm
  ·exact s.memApart id r b o h1 h2 hm
 ·rintro r (hr | ⟨id, h1, h2, h3⟩) o ho
  ·exact s.fsNow hr ho
  ·exact s.liveNow h1 h2 ho
theorem SR.uncut (s : SR B w0 μ M g w) (s' : SR B (w0.with g μ lg w) μ' M' (over (cutTo g lg) ht' n n' lg.2) w') (hμ : μ.le μ') (hM : M.le M') : SR B w0 μ' M' (over g ht' n n' lg.2) w' := by
 have split : ∀ id o, over g ht' n n' lg.2 id = some o → over (cutTo g lg) ht' n n' lg.2 id = some o ∨ (g id = some o ∧ ¬(id ∈ lg.1 ∨ id ∈ lg.2)) := by
  intro id o h
  unfold over at h ⊢
  by_cases hc : id ∈ lg.2 ∨ (n ≤ id ∧ id < n')
  ·rw [if_pos hc] at h ⊢; exact .inl h
  ·rw [if_neg hc] at h ⊢
   by_cases hl : id ∈ lg.1 ∨ id ∈ lg.2
   ·exact .inl (by unfold cutTo; rw [if_pos hl]; exact h)
   ·exact .inr ⟨h, hl⟩
 have splitne : ∀ id, over g ht' n n' lg.2 id ≠ none → over (cutTo g lg) ht' n n' lg.2 id ≠ none ∨ (g id ≠ none ∧ ¬(id ∈ lg.1 ∨ id ∈ lg.2)) := by
  intro id h
  cases hc : over g ht' n n' lg.2 id with
  | none => exact absurd hc h
  | some o =>
   rcases split id o hc with h1 | ⟨h1, h2⟩
   ·exact .inl (by rw [h1]; simp)
   ·exact .inr ⟨by rw [h1]; simp, h2⟩
 have awayR : ∀ id q, g id ≠ none → ¬(id ∈ lg.1 ∨ id ∈ lg.2) → μ' id = some q → μ id = some q ∧ (w0.with g μ lg w).fs q := by
  intro id q h1 h2 h3
  cases hg : g id with
  | none => exact absurd hg h1
  | some o =>
   obtain ⟨r, r1, _⟩ := s.live id o hg
   have := hμ _ _ r1
   rw [h3] at this
   cases this
   exact ⟨r1, .inr ⟨id, h1, r1, h2⟩⟩
 refine ⟨s'.below, s'.mem, ?_, ?_, ?_, ?_, fun r hr => s'.fsBlock r (.inl hr), ?_, fun r hr => s'.fsMem r (.inl hr), s'.clean, s.fsCell⟩
 ·intro id o h
  rcases split id o h with h1 | ⟨h1, h2⟩
  ·exact s'.live id o h1
  ·obtain ⟨r, r1, r2, r3, r4⟩ := s.live id o h1
   have hfs : (w0.with g μ lg w).fs r := .inr ⟨id, by rw [h1]; simp, r1, h2⟩
   exact ⟨r, hμ _ _ r1, r2, s'.fsBlock r hfs, (r4.kept (s'.kept r hfs)).mono hμ hM⟩
 ·intro i j ri rj hij hi hj hri hrj
  rcases splitne i hi with h1 | ⟨h1, h2⟩ <;> rcases splitne j hj with h3 | ⟨h3, h4⟩
  ·exact s'.apart i j ri rj hij h1 h3 hri hrj
  ·have := s'.fsApart rj (awayR j rj h3 h4 hrj).2 i ri h1 hri
   exact fun b o h => this b o ⟨h.2, h.1⟩
  ·exact s'.fsApart ri (awayR i ri h1 h2 hri).2 j rj h3 hrj
  ·exact s.apart i j ri rj hij h1 h3 (awayR i ri h1 h2 hri).1 (awayR j rj h3 h4 hrj).1
 ·intro id q b o hid hq hm
  rcases splitne id hid with h1 | ⟨h1, h2⟩
  ·exact s'.memApart id q b o h1 hq hm
  ·exact s'.fsMem q (awayR id q h1 h2 hq).2 b o hm
 ·intro r hr
  exact (s.kept r hr).trans (s'.kept r (.inl hr))
 ·intro r hr id q hid hq
  rcases splitne id hid with h1 | ⟨h1, h2⟩
  ·exact s'.fsApart r (.inl hr) id q h1 hq
  ·exact s.fsApart r hr id q h1 (awayR id q h1 h2 hq).1
theorem local_cut {α : Type} {m : AM α} (hl : Local m) (hf : Fresh ht n) {v : α} (e : m ht n = some (v, ht', n', lg)) (ha : Agree g ht n n' lg) :
  Fresh (cutTo g lg) n ∧ m (cutTo g lg) n = some (v, over (cutTo g lg) ht' n n' lg.2, n', lg) := by
 obtain ⟨st, tr⟩ := hl ht n v ht' n' lg hf e
 refine ⟨?_, tr _ ?_⟩
 ·intro id hid
  unfold cutTo
  split
  ·rename_i hc
   rw [ha id (by rcases hc with h | h; exact .inl h; exact .inr (.inl h))]
   exact hf id hid
  ·rfl
 ·intro id hid
  unfold cutTo
  split
  ·exact ha id hid
  ·rename_i hc
   rcases hid with h | h | h
   ·exact absurd (.inl h) hc
   ·exact absurd (.inr h) hc
   ·exact (hf id h.1).symm
end
section
variable {P : Program} {ev1 ev2 : Operand → Option AV}
theorem evs_congr : ∀ {l : List Operand}, (∀ x ∈ l, ev1 x = ev2 x) → evs ev1 l = evs ev2 l
 | [], _ => rfl
 | x :: l, h => by
  unfold evs
  rw [h x (by simp), evs_congr (fun y hy => h y (by simp [hy]))]
theorem evParts_congr : ∀ {l : List (Nat × Operand)}, (∀ x ∈ l, ev1 x.2 = ev2 x.2) → evParts ev1 l = evParts ev2 l
 | [], _ => rfl
 | (i, x) :: l, h => by
  unfold evParts
  rw [h (i, x) (by simp), evParts_congr (fun y hy => h y (by simp [hy]))]
theorem opM_congr (o : Op) (h : ∀ x ∈ o.operands, ev1 x = ev2 x) : opM P ev1 o = opM P ev2 o := by
 cases o with
 | move x => simp only [opM]; rw [h x (by simp [Op.operands])]
 | assign x => simp only [opM]; rw [h x (by simp [Op.operands])]
 | pick c a b =>
  simp only [opM]
  rw [h c (by simp [Op.operands])]
  cases ev2 c with
  | none => rfl
  | some cv =>
   cases cv with
   | bool t => cases t <;> simp only [Bool.false_eq_true, if_true, if_false] <;> rw [h _ (by simp [Op.operands])]
   | _ => rfl
 | alloc t => rfl
 | box t x => simp only [opM]; rw [h x (by simp [Op.operands])]
 | build t ps => simp only [opM]; rw [evParts_congr (fun x hx => h x.2 (by simp only [Op.operands]; simp; exact ⟨x.1, by simpa using hx⟩))]
 | buildSlice t k ps => simp only [opM]; rw [evParts_congr (fun x hx => h x.2 (by simp only [Op.operands]; simp; exact ⟨x.1, by simpa using hx⟩))]
 | insert t m k v => simp only [opM]; rw [h m (by simp [Op.operands]), h k (by simp [Op.operands]), h v (by simp [Op.operands])]
 | load t a => simp only [opM]; rw [h a (by simp [Op.operands])]
 | store t a v => simp only [opM]; rw [h a (by simp [Op.operands]), h v (by simp [Op.operands])]
 | nilCheck x => simp only [opM]; rw [h x (by simp [Op.operands])]
 | binOp op t x y yt => simp only [opM]; rw [h x (by simp [Op.operands]), h y (by simp [Op.operands])]
 | unOp op t x => simp only [opM]; rw [h x (by simp [Op.operands])]
 | convert s d x => simp only [opM]; rw [h x (by simp [Op.operands])]
 | makeFunc fn a b =>
  cases fn with
  | func f => simp only [opM]; rw [evs_congr (fun x hx => h x (by simp [Op.operands]; left; simpa using hx)), evs_congr (fun x hx => h x (by simp [Op.operands]; right; simpa using hx))]
  | _ => rfl
 | makeMap t r => cases r <;> rfl
 | makeSlice t l c => simp only [opM]; rw [h l (by simp [Op.operands]), h c (by simp [Op.operands])]
 | slice t x lo hi mx =>
  cases mx with
  | some _ => rfl
  | none =>
   simp only [opM]
   rw [h x (by simp [Op.operands])]
   have hl : evo ev1 lo = evo ev2 lo := by
    cases lo with
    | none => rfl
    | some y => simp only [evo]; rw [h y (by simp [Op.operands])]
   have hh : evo ev1 hi = evo ev2 hi := by
    cases hi with
    | none => rfl
    | some y => simp only [evo]; rw [h y (by simp [Op.operands])]
   rw [hl, hh]
 | fieldAddr t x i => simp only [opM]; rw [h x (by simp [Op.operands])]
 | field t x i => simp only [opM]; rw [h x (by simp [Op.operands])]
 | indexAddr t x i => simp only [opM]; rw [h x (by simp [Op.operands]), h i (by simp [Op.operands])]
 | index t x i => simp only [opM]; rw [h x (by simp [Op.operands]), h i (by simp [Op.operands])]
 | lookup t x i ok => simp only [opM]; rw [h x (by simp [Op.operands]), h i (by simp [Op.operands])]
 | mapUpdate t m k v => simp only [opM]; rw [h m (by simp [Op.operands]), h k (by simp [Op.operands]), h v (by simp [Op.operands])]
 | extract t i => simp only [opM]; rw [h t (by simp [Op.operands])]
 | makeInterface t x => simp only [opM]; rw [h x (by simp [Op.operands])]
 | typeAssert x t u ok => simp only [opM]; rw [h x (by simp [Op.operands])]
 | call c =>
  obtain ⟨callee, args, ts⟩ := c
  cases callee with
  | builtin b => simp only [opM]; rw [evs_congr (fun x hx => h x (by simp [Op.operands, Call.operands]; simpa using hx))]
  | _ => rfl
 | _ => rfl
end
end Go.Abs
