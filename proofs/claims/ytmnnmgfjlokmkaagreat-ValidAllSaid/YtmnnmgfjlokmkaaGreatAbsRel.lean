import Derived.Test.YtmnnmgfjlokmkaaGreatAbsLocalB
import Derived.Laws.Sem
import Derived.Laws.World
import Derived.Laws.Cells
import Derived.Laws.IdiomCopy
import Derived.Laws.Append
open Go.RowKit (Below)
namespace Go.Abs
structure Rng where
  b : Nat
  o : Nat
  ext : Nat
def Rng.has (r : Rng) (b o : Nat) : Prop := b = r.b ∧ r.o ≤ o ∧ o < r.o + r.ext
def Rng.apart (r s : Rng) : Prop := ∀ b o, ¬(r.has b o ∧ s.has b o)
abbrev Mu := Nat → Option Rng
abbrev Mem := Nat → Nat → Option Value
inductive VR (μ : Mu) (M : Mem) : AV → Value → Prop where
  | bool (b : Bool) : VR μ M (.bool b) (.bool b)
  | int (k : IntKind) (n : Int) : VR μ M (.int k n) (.int k n)
  | str (s : ByteArray) : VR μ M (.str s.data.toList) (.string s)
  | nilptr : VR μ M (.nil .ptr) (.pointer none)
  | nilsl : VR μ M (.nil .sl) (.slice none 0 0)
  | nilfn : VR μ M (.nil .fn) .nilFunc
  | nilmap : VR μ M (.nil .map) (.map none)
  | nilifc : VR μ M (.nil .ifc) .nilIface
  | ptr (id off : Nat) (r : Rng) : μ id = some r → VR μ M (.ptr id off) (.pointer (some ⟨r.b, r.o + off, none⟩))
  | tptr (cs : List AV) (off b o : Nat) (vs : Nat → Value) : (∀ i a, cs[i]? = some a → M b (o + i) = some (vs i)) →
      (∀ i a, cs[i]? = some a → VR μ M a (vs i)) → VR μ M (.tptr cs off) (.pointer (some ⟨b, o + off, none⟩))
  | sl (id off len sz cap : Nat) (r : Rng) (a : Addr) : μ id = some r → len ≤ cap → (0 < cap → a = ⟨r.b, r.o + off, none⟩ ∧ off + cap * sz ≤ r.ext) →
      VR μ M (.sl id off len sz) (.slice (some a) len cap)
  | tsl (cs : List AV) (len cap : Nat) (a : Addr) (vs : Nat → Value) : len ≤ cap → (0 < len ∨ cs ≠ [] → a.spot = none) → (∀ i c, cs[i]? = some c → M a.block (a.off + i) = some (vs i)) →
      (∀ i c, cs[i]? = some c → VR μ M c (vs i)) → VR μ M (.tsl cs len) (.slice (some a) len cap)
  | map (id : Nat) (r : Rng) : μ id = some r → VR μ M (.map id) (.map (some r.b))
  | fn (f : Nat) (first cap : List AV) (fv cv : Array Value) : first.length = fv.size → cap.length = cv.size →
      (∀ (i : Nat) a v, first[i]? = some a → fv[i]? = some v → VR μ M a v) → (∀ (i : Nat) a v, cap[i]? = some a → cv[i]? = some v → VR μ M a v) →
      VR μ M (.fn f first cap) (.func (.func f) fv cv)
  | agg (cs : List AV) (vs : Array Value) : cs.length = vs.size → (∀ (i : Nat) a v, cs[i]? = some a → vs[i]? = some v → VR μ M a v) → VR μ M (.agg cs) (.agg vs)
  | tup (cs : List AV) (vs : Array Value) : cs.length = vs.size → (∀ (i : Nat) a v, cs[i]? = some a → vs[i]? = some v → VR μ M a v) → VR μ M (.tup cs) (.tuple vs)
  | ifc (t : Nat) (a : AV) (v : Value) : VR μ M a v → VR μ M (.ifc t a) (.iface t v)
def Mu.le (μ μ' : Mu) : Prop := ∀ id r, μ id = some r → μ' id = some r
def Mem.le (M M' : Mem) : Prop := ∀ b o v, M b o = some v → M' b o = some v
theorem Mu.le.refl (μ : Mu) : μ.le μ := fun _ _ h => h
theorem Mem.le.refl (M : Mem) : M.le M := fun _ _ _ h => h
theorem Mu.le.trans {a b c : Mu} (h : a.le b) (k : b.le c) : a.le c := fun _ _ e => k _ _ (h _ _ e)
theorem Mem.le.trans {a b c : Mem} (h : a.le b) (k : b.le c) : a.le c := fun _ _ _ e => k _ _ _ (h _ _ _ e)
theorem VR.mono {μ μ' : Mu} {M M' : Mem} (hμ : μ.le μ') (hM : M.le M') {a : AV} {v : Value} (h : VR μ M a v) : VR μ' M' a v := by
  induction h with
  | bool b => exact .bool b
  | int k n => exact .int k n
  | str s => exact .str s
  | nilptr => exact .nilptr
  | nilsl => exact .nilsl
  | nilfn => exact .nilfn
  | nilmap => exact .nilmap
  | nilifc => exact .nilifc
  | ptr id off r h => exact .ptr id off r (hμ _ _ h)
  | tptr cs off b o vs h1 _ ih => exact .tptr cs off b o vs (fun i a e => hM _ _ _ (h1 i a e)) ih
  | sl id off len sz cap r a h1 h2 h3 => exact .sl id off len sz cap r a (hμ _ _ h1) h2 h3
  | tsl cs len cap a vs h1 h2 h3 _ ih => exact .tsl cs len cap a vs h1 h2 (fun i a e => hM _ _ _ (h3 i a e)) ih
  | map id r h => exact .map id r (hμ _ _ h)
  | fn f a b fv cv h1 h2 _ _ ih1 ih2 => exact .fn f a b fv cv h1 h2 ih1 ih2
  | agg cs vs h1 _ ih => exact .agg cs vs h1 ih
  | tup cs vs h1 _ ih => exact .tup cs vs h1 ih
  | ifc t a v _ ih => exact .ifc t a v ih
def VRs (μ : Mu) (M : Mem) (cs : List AV) (vs : List Value) : Prop := cs.length = vs.length ∧ ∀ (i : Nat) a v, cs[i]? = some a → vs[i]? = some v → VR μ M a v
theorem VRs.mono {μ μ' : Mu} {M M' : Mem} (hμ : μ.le μ') (hM : M.le M') {a : List AV} {v : List Value} (h : VRs μ M a v) : VRs μ' M' a v :=
  ⟨h.1, fun i a v ha hv => (h.2 i a v ha hv).mono hμ hM⟩
theorem VRs.nil {μ : Mu} {M : Mem} : VRs μ M [] [] := ⟨rfl, by simp⟩
theorem VRs.cons {μ : Mu} {M : Mem} {a : AV} {v : Value} {l : List AV} {r : List Value} (h : VR μ M a v) (hr : VRs μ M l r) : VRs μ M (a :: l) (v :: r) := by
  refine ⟨by simp [hr.1], ?_⟩
  intro i x y hx hy
  cases i with
  | zero => simp at hx hy; subst hx hy; exact h
  | succ i => simp at hx hy; exact hr.2 i x y hx hy
theorem VRs.cons_iff {μ : Mu} {M : Mem} {a : AV} {v : Value} {l : List AV} {r : List Value} : VRs μ M (a :: l) (v :: r) ↔ VR μ M a v ∧ VRs μ M l r := by
  constructor
  · intro h
    refine ⟨h.2 0 a v rfl rfl, by simpa using h.1, fun i x y hx hy => h.2 (i + 1) x y (by simpa using hx) (by simpa using hy)⟩
  · exact fun h => .cons h.1 h.2
theorem VRs.append {μ : Mu} {M : Mem} {a b : List AV} {v u : List Value} (h : VRs μ M a v) (k : VRs μ M b u) : VRs μ M (a ++ b) (v ++ u) := by
  refine ⟨by simp [h.1, k.1], ?_⟩
  intro i x y hx hy
  rw [List.getElem?_append] at hx hy
  rw [h.1] at hx
  split at hx
  · rename_i hlt
    rw [if_pos hlt] at hy
    exact h.2 i x y hx hy
  · rename_i hlt
    rw [if_neg hlt] at hy
    exact k.2 _ x y hx hy
theorem VRs.take {μ : Mu} {M : Mem} {a : List AV} {v : List Value} (n : Nat) (h : VRs μ M a v) : VRs μ M (a.take n) (v.take n) := by
  refine ⟨by simp [h.1], ?_⟩
  intro i x y hx hy
  rw [List.getElem?_take] at hx hy
  split at hx
  · rename_i hlt
    rw [if_pos hlt] at hy
    exact h.2 i x y hx hy
  · cases hx
theorem VRs.drop {μ : Mu} {M : Mem} {a : List AV} {v : List Value} (n : Nat) (h : VRs μ M a v) : VRs μ M (a.drop n) (v.drop n) := by
  refine ⟨by simp [h.1], ?_⟩
  intro i x y hx hy
  rw [List.getElem?_drop] at hx hy
  exact h.2 _ x y hx hy
theorem VRs.get {μ : Mu} {M : Mem} {a : List AV} {v : List Value} (h : VRs μ M a v) {i : Nat} {x : AV} (hx : a[i]? = some x) : ∃ y, v[i]? = some y ∧ VR μ M x y := by
  have hlt : i < a.length := (List.getElem?_eq_some_iff.1 hx).1
  have hlt' : i < v.length := h.1 ▸ hlt
  exact ⟨v[i], List.getElem?_eq_getElem hlt', h.2 i x _ hx (List.getElem?_eq_getElem hlt')⟩
theorem VR.cells {μ : Mu} {M : Mem} {a : AV} {v : Value} (h : VR μ M a v) : VRs μ M a.cells v.cells.toList := by
  have one : ∀ {a : AV} {v : Value}, VR μ M a v → VRs μ M [a] [v] := fun h => .cons h .nil
  cases h with
  | agg cs vs h1 h2 => exact ⟨by simpa [AV.cells, Value.cells] using h1, fun i x y hx hy => h2 i x y hx (by simpa [Value.cells] using hy)⟩
  | bool b => exact one (.bool b)
  | int k n => exact one (.int k n)
  | str s => exact one (.str s)
  | nilptr => exact one .nilptr
  | nilsl => exact one .nilsl
  | nilfn => exact one .nilfn
  | nilmap => exact one .nilmap
  | nilifc => exact one .nilifc
  | ptr id off r h => exact one (.ptr id off r h)
  | tptr cs off b o vs h1 h2 => exact one (.tptr cs off b o vs h1 h2)
  | sl id off len sz cap r a h1 h2 h3 => exact one (.sl id off len sz cap r a h1 h2 h3)
  | tsl cs len cap a vs h1 h2 h3 h4 => exact one (.tsl cs len cap a vs h1 h2 h3 h4)
  | map id r h => exact one (.map id r h)
  | fn f a b fv cv h1 h2 h3 h4 => exact one (.fn f a b fv cv h1 h2 h3 h4)
  | tup cs vs h1 h2 => exact one (.tup cs vs h1 h2)
  | ifc t a v h => exact one (.ifc t a v h)
theorem VR.one {μ : Mu} {M : Mem} {a : AV} {v : Value} (h : VR μ M a v) (ho : a.one = true) : v.oneCell' = true := by
  cases h <;> first | rfl | (simp [AV.one] at ho)
theorem VR.agg' {μ : Mu} {M : Mem} {cs : List AV} {vs : List Value} (h : VRs μ M cs vs) : VR μ M (.agg cs) (.agg vs.toArray) :=
  .agg cs vs.toArray (by simpa using h.1) (fun i a v ha hv => h.2 i a v ha (by simpa using hv))
theorem VRs.all_one {μ : Mu} {M : Mem} {cs : List AV} {vs : List Value} (h : VRs μ M cs vs) (ho : cs.all AV.one = true) : ∀ v ∈ vs, v.oneCell' = true := by
  intro v hv
  obtain ⟨i, hi, rfl⟩ := List.getElem_of_mem hv
  have hi' : i < cs.length := h.1 ▸ hi
  refine (h.2 i cs[i] _ (List.getElem?_eq_getElem hi') (List.getElem?_eq_getElem hi)).one ?_
  rw [List.all_eq_true] at ho
  exact ho _ (List.getElem_mem hi')
structure KeptAt (w w' : World) (r : Rng) : Prop where
  cell : ∀ o, r.has r.b o → w'.cell? ⟨r.b, o, none⟩ = w.cell? ⟨r.b, o, none⟩
  frozen : ∀ o, r.has r.b o → w'.frozen? ⟨r.b, o, none⟩ = w.frozen? ⟨r.b, o, none⟩
  obj : r.has r.b 0 → ∀ en cl, w.heap[r.b]? = some (.map en cl) → w'.heap[r.b]? = some (.map en cl)
structure Anchor where
  w : World
  fs : Rng → Prop
  wf : World
def ObjR (μ : Mu) (M : Mem) (w : World) (r : Rng) : AObj → Prop
  | .cells cs => cs.length ≤ r.ext ∧ (∀ j, j < r.ext → (w.cell? ⟨r.b, r.o + j, none⟩).isSome = true ∧ w.frozen? ⟨r.b, r.o + j, none⟩ = false) ∧
      ∀ i a, cs[i]? = some a → ∃ v, w.cell? ⟨r.b, r.o + i, none⟩ = some v ∧ VR μ M a v
  | .map es => r.o = 0 ∧ r.ext = 1 ∧ ∃ entries clock, w.heap[r.b]? = some (.map entries clock) ∧ es.length = entries.size ∧
      ∀ (i : Nat) e x, es[i]? = some e → entries[i]? = some x → VR μ M e.1 x.key ∧ VR μ M e.2 x.val
def CleanAt (w : World) (b : Nat) : Prop := ∀ c t lo hi, w.heap[b]? = some (.cells c t (lo, hi)) → lo = hi ∨ c.size ≤ lo
structure SR (B : Nat) (w0 : Anchor) (μ : Mu) (M : Mem) (h : Heap) (w : World) : Prop where
  below : Below B w0.w w
  mem : ∀ b o v, M b o = some v → w.cell? ⟨b, o, none⟩ = some v
  live : ∀ id obj, h id = some obj → ∃ r, μ id = some r ∧ B ≤ r.b ∧ r.b < w.heap.size ∧ ObjR μ M w r obj
  apart : ∀ i j ri rj, i ≠ j → h i ≠ none → h j ≠ none → μ i = some ri → μ j = some rj → ri.apart rj
  memApart : ∀ id r b o, h id ≠ none → μ id = some r → M b o ≠ none → ¬ r.has b o
  kept : ∀ r, w0.fs r → KeptAt w0.wf w r
  fsBlock : ∀ r, w0.fs r → r.b < w.heap.size
  fsApart : ∀ r, w0.fs r → ∀ id q, h id ≠ none → μ id = some q → r.apart q
  fsMem : ∀ r, w0.fs r → ∀ b o, M b o ≠ none → ¬ r.has b o
  /- no cell of a block of our own is frozen; what must stay holds cells, or is a map -/
  clean : ∀ b, B ≤ b → CleanAt w b
  fsCell : ∀ r, w0.fs r → ∀ o, r.has r.b o → (w0.wf.cell? ⟨r.b, o, none⟩).isSome = true ∨ ∃ en cl, w0.wf.heap[r.b]? = some (.map en cl) ∧ o = 0
theorem KeptAt.trans {a b c : World} {r : Rng} (h : KeptAt a b r) (k : KeptAt b c r) : KeptAt a c r :=
  ⟨fun o ho => (k.cell o ho).trans (h.cell o ho), fun o ho => (k.frozen o ho).trans (h.frozen o ho), fun h0 en cl he => k.obj h0 en cl (h.obj h0 en cl he)⟩
theorem ObjR.mono {μ μ' : Mu} {M M' : Mem} {w : World} {r : Rng} (hμ : μ.le μ') (hM : M.le M') : ∀ {o : AObj}, ObjR μ M w r o → ObjR μ' M' w r o
  | .cells _, ⟨h1, h2, h3⟩ => ⟨h1, h2, fun i a ha => let ⟨v, hv, hr⟩ := h3 i a ha; ⟨v, hv, hr.mono hμ hM⟩⟩
  | .map _, ⟨h1, h2, en, cl, h3, h4, h5⟩ => ⟨h1, h2, en, cl, h3, h4, fun i e x he hx => let ⟨a, b⟩ := h5 i e x he hx; ⟨a.mono hμ hM, b.mono hμ hM⟩⟩
theorem ObjR.kept {μ : Mu} {M : Mem} {w w' : World} {r : Rng} (k : KeptAt w w' r) : ∀ {o : AObj}, ObjR μ M w r o → ObjR μ M w' r o
  | .cells cs, ⟨h1, h2, h3⟩ => by
    refine ⟨h1, fun j hj => ?_, fun i a ha => ?_⟩
    · rw [k.cell _ ⟨rfl, by omega, by omega⟩, k.frozen _ ⟨rfl, by omega, by omega⟩]
      exact h2 j hj
    · have hi : i < cs.length := (List.getElem?_eq_some_iff.1 ha).1
      rw [k.cell _ ⟨rfl, by omega, by omega⟩]
      exact h3 i a ha
  | .map _, ⟨h1, h2, en, cl, h3, h4, h5⟩ => ⟨h1, h2, en, cl, k.obj ⟨rfl, by omega, by omega⟩ _ _ h3, h4, h5⟩
theorem KeptAt.of_block {w w' : World} {r : Rng} (h : w'.heap[r.b]? = w.heap[r.b]?) : KeptAt w w' r :=
  ⟨fun _ _ => by simp [World.cell?, h], fun _ _ => by simp [World.frozen?, h], fun _ _ _ he => h.trans he⟩
theorem SR.sub {B : Nat} {w0 : Anchor} {w : World} {μ : Mu} {M : Mem} {h h' : Heap} (s : SR B w0 μ M h w) (hs : ∀ id o, h' id = some o → h id = some o) : SR B w0 μ M h' w := by
  have hne : ∀ id, h' id ≠ none → h id ≠ none := fun id hid => by
    cases he : h' id with
    | none => exact absurd he hid
    | some o => rw [hs id o he]; simp
  exact ⟨s.below, s.mem, fun id o ho => s.live id o (hs id o ho), fun i j ri rj hij hi hj => s.apart i j ri rj hij (hne i hi) (hne j hj),
    fun id r b o hid => s.memApart id r b o (hne id hid), s.kept, s.fsBlock, fun r hr id q hid => s.fsApart r hr id q (hne id hid), s.fsMem, s.clean, s.fsCell⟩
theorem SR.grow {B : Nat} {w0 : Anchor} {w w' : World} {μ : Mu} {M : Mem} {h : Heap} (s : SR B w0 μ M h w) (hb : Below w.heap.size w w') (hB : B ≤ w.heap.size)
    (hc : ∀ b, w.heap.size ≤ b → CleanAt w' b) : SR B w0 μ M h w' := by
  refine ⟨s.below.trans (hb.mono hB), ?_, ?_, s.apart, s.memApart, fun r hr => (s.kept r hr).trans (.of_block (hb.block r.b (s.fsBlock r hr))), fun r hr => Nat.lt_of_lt_of_le (s.fsBlock r hr) hb.size, s.fsApart, s.fsMem, ?_, s.fsCell⟩
  · intro b o v hv
    have hc := s.mem b o v hv
    have hlt : b < w.heap.size := World.block_lt_of_cell? w ⟨b, o, none⟩ hc
    rw [← hc]
    simp [World.cell?, hb.block b hlt]
  · intro id obj ho
    obtain ⟨r, h1, h2, h3, h4⟩ := s.live id obj ho
    exact ⟨r, h1, h2, Nat.lt_of_lt_of_le h3 hb.size, h4.kept (.of_block (hb.block r.b h3))⟩
  · intro b hb0
    rcases Nat.lt_or_ge b w.heap.size with hlt | hge
    · intro c t lo hi e
      rw [hb.block b hlt] at e
      exact s.clean b hb0 c t lo hi e
    · exact hc b hge
theorem SR.le_size {B : Nat} {w0 : Anchor} {w : World} {μ : Mu} {M : Mem} {h : Heap} (s : SR B w0 μ M h w) (hB : B ≤ w0.w.heap.size) : B ≤ w.heap.size := Nat.le_trans hB s.below.size
theorem SR.add {B : Nat} {w0 : Anchor} {w w' : World} {μ : Mu} {M : Mem} {h : Heap} (s : SR B w0 μ M h w) (hB : B ≤ w.heap.size) (hb : Below w.heap.size w w')
    (hc : ∀ b, w.heap.size ≤ b → CleanAt w' b)
    (id : Nat) (hid : μ id = none) (r : Rng) (hr : r.b = w.heap.size) (hlt : r.b < w'.heap.size) (obj : AObj) (ho : ObjR (upd μ id (some r)) M w' r obj) :
    SR B w0 (upd μ id (some r)) M (upd h id (some obj)) w' := by
  have hle : μ.le (upd μ id (some r)) := fun j q hj => by
    unfold upd
    by_cases e : j = id
    · rw [e, hid] at hj; cases hj
    · rw [if_neg e]; exact hj
  have s' := s.grow hb hB hc
  have hsep : ∀ j q, j ≠ id → h j ≠ none → μ j = some q → q.b < w.heap.size := fun j q _ hj hq => by
    cases he : h j with
    | none => exact absurd he hj
    | some o =>
      obtain ⟨q', h1, _, h3, _⟩ := s.live j o he
      rw [hq] at h1
      cases h1
      exact h3
  refine ⟨s'.below, s'.mem, ?_, ?_, ?_, s'.kept, s'.fsBlock, ?_, s'.fsMem, s'.clean, s'.fsCell⟩
  rotate_left 3
  · intro q hq j rj hj hrj
    unfold upd at hj hrj
    by_cases e : j = id
    · rw [if_pos e] at hrj
      cases hrj
      have := s.fsBlock q hq
      rintro b o ⟨⟨hb1, _⟩, ⟨hb2, _⟩⟩
      omega
    · rw [if_neg e] at hj hrj
      exact s.fsApart q hq j rj hj hrj
  · intro j o hj
    unfold upd at hj
    by_cases e : j = id
    · rw [if_pos e] at hj
      cases hj
      exact ⟨r, by simp [upd, e], by omega, hlt, ho⟩
    · rw [if_neg e] at hj
      obtain ⟨q, h1, h2, h3, h4⟩ := s'.live j o hj
      exact ⟨q, hle _ _ h1, h2, h3, h4.mono hle (.refl _)⟩
  · intro i j ri rj hij hi hj hri hrj
    unfold upd at hi hj hri hrj
    by_cases ei : i = id
    · rw [if_pos ei] at hri
      cases hri
      by_cases ej : j = id
      · exact absurd (ei.trans ej.symm) hij
      · rw [if_neg ej] at hj hrj
        have := hsep j rj ej hj hrj
        rintro b o ⟨⟨hb1, _⟩, ⟨hb2, _⟩⟩
        omega
    · rw [if_neg ei] at hi hri
      by_cases ej : j = id
      · rw [if_pos ej] at hrj
        cases hrj
        have := hsep i ri ei hi hri
        rintro b o ⟨⟨hb1, _⟩, ⟨hb2, _⟩⟩
        omega
      · rw [if_neg ej] at hj hrj
        exact s.apart i j ri rj hij hi hj hri hrj
  · intro j q b o hj hq hm
    unfold upd at hj hq
    by_cases e : j = id
    · rw [if_pos e] at hq
      cases hq
      rintro ⟨hb1, _⟩
      cases hm' : M b o with
      | none => exact hm hm'
      | some v =>
        have hc := s.mem b o v hm'
        have : b < w.heap.size := World.block_lt_of_cell? w ⟨b, o, none⟩ hc
        omega
    · rw [if_neg e] at hj hq
      exact s.memApart j q b o hj hq hm
theorem upd_le {μ : Mu} {id : Nat} (hid : μ id = none) (r : Option Rng) : μ.le (upd μ id r) := fun j q hj => by
  unfold upd
  by_cases e : j = id
  · rw [e, hid] at hj; cases hj
  · rw [if_neg e]; exact hj
theorem SR.fsNow {B : Nat} {w0 : Anchor} {w : World} {μ : Mu} {M : Mem} {h : Heap} (s : SR B w0 μ M h w) {r : Rng} (hr : w0.fs r) {o : Nat} (ho : r.has r.b o) :
    (w.cell? ⟨r.b, o, none⟩).isSome = true ∨ ∃ en cl, w.heap[r.b]? = some (.map en cl) ∧ o = 0 := by
  have k := s.kept r hr
  rcases s.fsCell r hr o ho with h1 | ⟨en, cl, h1, rfl⟩
  · left; rw [k.cell o ho]; exact h1
  · right; exact ⟨en, cl, k.obj ho en cl h1, rfl⟩
theorem SR.liveNow {B : Nat} {w0 : Anchor} {w : World} {μ : Mu} {M : Mem} {h : Heap} (s : SR B w0 μ M h w) {id : Nat} {r : Rng} (hid : h id ≠ none) (hr : μ id = some r) {o : Nat} (ho : r.has r.b o) :
    (w.cell? ⟨r.b, o, none⟩).isSome = true ∨ ∃ en cl, w.heap[r.b]? = some (.map en cl) ∧ o = 0 := by
  cases he : h id with
  | none => exact absurd he hid
  | some obj =>
    obtain ⟨q, q1, _, _, q4⟩ := s.live id obj he
    rw [hr] at q1
    cases q1
    cases obj with
    | cells cs =>
      left
      obtain ⟨_, h2, _⟩ := q4
      have := (h2 (o - r.o) (by have := ho.2; omega)).1
      rwa [show r.o + (o - r.o) = o by have := ho.2; omega] at this
    | map es =>
      right
      obtain ⟨h1, h2, en, cl, h3, _⟩ := q4
      exact ⟨en, cl, h3, by have := ho.2; omega⟩
end Go.Abs
