import Derived.Test.YtmnnmgfjlokmkaaGreatAbsRel
open Go.RowKit (Below)
namespace Go.Abs
theorem heap_setCell_ne (w : World) (a : Addr) (v : Value) (k : Nat) (h : k ≠ a.block) : (w.setCell a v).heap[k]? = w.heap[k]? := by
  simp only [World.setCell, Array.getElem?_modify]
  rw [if_neg (fun e => h e.symm)]
theorem heap_setCell_map (w : World) (a : Addr) (v : Value) (k : Nat) {en : Array MapEntry} {cl : Nat} (h : w.heap[k]? = some (.map en cl)) : (w.setCell a v).heap[k]? = some (.map en cl) := by
  simp only [World.setCell, Array.getElem?_modify, h]
  split <;> simp
theorem heap_setCells_map (b : Nat) : ∀ (vs : List Value) (o : Nat) (w : World) (k : Nat) {en : Array MapEntry} {cl : Nat}, w.heap[k]? = some (.map en cl) → (w.setCells b o vs).heap[k]? = some (.map en cl)
  | [], _, _, _, _, _, h => h
  | v :: r, o, w, k, _, _, h => by rw [World.setCells]; exact heap_setCells_map b r _ _ k (heap_setCell_map _ _ _ k h)
theorem size_setCells (b : Nat) : ∀ (vs : List Value) (o : Nat) (w : World), (w.setCells b o vs).heap.size = w.heap.size
  | [], _, _ => rfl
  | v :: r, o, w => by rw [World.setCells, size_setCells b r, World.size_setCell]
theorem below_setCells {B b : Nat} (hB : B ≤ b) : ∀ (vs : List Value) (o : Nat) (w : World), Below B w (w.setCells b o vs)
  | [], _, w => Below.refl B w
  | v :: r, o, w => by
    rw [World.setCells]
    refine Below.trans (b := w.setCell ⟨b, o, none⟩ v) ⟨rfl, rfl, rfl, ?_, ?_⟩ (below_setCells hB r _ _)
    · rw [World.size_setCell]; exact Nat.le_refl _
    · intro k hk
      exact heap_setCell_ne _ _ _ k (by simp; omega)
theorem keptAt_setCells {w : World} {r : Rng} {b o : Nat} {vs : List Value} (h : ∀ x, r.has b x → ¬(o ≤ x ∧ x < o + vs.length)) : KeptAt w (w.setCells b o vs) r := by
  refine ⟨fun x hx => ?_, fun x hx => World.frozen?_setCells b vs o w _, fun _ en cl he => heap_setCells_map b vs o w r.b he⟩
  refine World.cell?_setCells_out b vs o w ⟨r.b, x, none⟩ (fun h1 _ => ?_)
  simp only at h1
  have := h x (h1 ▸ hx)
  simp only
  omega
theorem SR.cellsOf {B : Nat} {w0 : Anchor} {w : World} {μ : Mu} {M : Mem} {h : Heap} (s : SR B w0 μ M h w) {id : Nat} {cs : List AV} (hid : h id = some (.cells cs)) :
    ∃ r, μ id = some r ∧ B ≤ r.b ∧ r.b < w.heap.size ∧ cs.length ≤ r.ext ∧ (∀ j, j < r.ext → (w.cell? ⟨r.b, r.o + j, none⟩).isSome = true ∧ w.frozen? ⟨r.b, r.o + j, none⟩ = false) ∧
      ∃ vs : List Value, VRs μ M cs vs ∧ ∀ i v, vs[i]? = some v → w.cell? ⟨r.b, r.o + i, none⟩ = some v := by
  obtain ⟨r, h1, h2, h3, h4, h5, h6⟩ := s.live id _ hid
  refine ⟨r, h1, h2, h3, h4, h5, (List.range cs.length).map (fun i => (w.cell? ⟨r.b, r.o + i, none⟩).getD undef), ⟨by simp, ?_⟩, ?_⟩
  · intro i a v ha hv
    obtain ⟨u, hu, hr⟩ := h6 i a ha
    have hi : i < cs.length := (List.getElem?_eq_some_iff.1 ha).1
    simp [hi, hu] at hv
    exact hv ▸ hr
  · intro i v hv
    rw [List.getElem?_map] at hv
    by_cases hi : i < cs.length
    · simp [hi] at hv
      obtain ⟨u, hu, _⟩ := h6 i _ (List.getElem?_eq_getElem hi)
      rw [hu] at hv ⊢
      simpa using hv
    · simp [hi] at hv
theorem sliceL_get {α : Type} {l r : List α} {off n i : Nat} {a : α} (h : sliceL l off n = some r) (hi : r[i]? = some a) : l[off + i]? = some a := by
  unfold sliceL at h
  by_cases c : off + n ≤ l.length
  · rw [if_pos c] at h
    simp only [Option.some.injEq] at h
    subst h
    rw [List.getElem?_take] at hi
    by_cases c2 : i < n
    · rw [if_pos c2, List.getElem?_drop] at hi; exact hi
    · rw [if_neg c2] at hi; cases hi
  · rw [if_neg c] at h; cases h
theorem sliceL_len {α : Type} {l r : List α} {off n : Nat} (h : sliceL l off n = some r) : r.length = n ∧ off + n ≤ l.length := by
  unfold sliceL at h
  by_cases c : off + n ≤ l.length
  · rw [if_pos c] at h
    simp only [Option.some.injEq] at h
    subst h
    exact ⟨by simp; omega, c⟩
  · rw [if_neg c] at h; cases h
theorem sliceL_vrs {μ : Mu} {M : Mem} {l r : List AV} {vs : List Value} {off n : Nat} (h : sliceL l off n = some r) (hv : VRs μ M l vs) : VRs μ M r ((vs.drop off).take n) := by
  unfold sliceL at h
  by_cases c : off + n ≤ l.length
  · rw [if_pos c] at h
    simp only [Option.some.injEq] at h
    subst h
    exact (hv.drop off).take n
  · rw [if_neg c] at h; cases h
theorem heap_setCells {b0 : Nat} : ∀ {vs : List Value} {o0 : Nat} {w : World} {b : Nat} {c' : Array Value} {t : TypeId} {f : Nat × Nat}, (w.setCells b0 o0 vs).heap[b]? = some (.cells c' t f) → ∃ c, w.heap[b]? = some (.cells c t f) ∧ c.size = c'.size
  | [], o0, w, b, c', t, f, h => ⟨c', h, rfl⟩
  | v :: vs, o0, w, b, c', t, f, h => by
    obtain ⟨c, h1, h2⟩ := heap_setCells (vs := vs) h
    simp only [World.setCell, Array.getElem?_modify] at h1
    split at h1
    · rename_i e
      subst e
      cases hw : w.heap[b0]? with
      | none => rw [hw] at h1; cases h1
      | some o =>
        rw [hw] at h1
        cases o with
        | cells c0 t0 f0 =>
          simp only [Option.map_some, Option.some.injEq, Obj.cells.injEq] at h1
          obtain ⟨rfl, rfl, rfl⟩ := h1
          refine ⟨c0, rfl, ?_⟩
          rw [← h2]
          split <;> simp
        | _ => simp at h1
    · exact ⟨c, h1, h2⟩
theorem SR.clean_set {B : Nat} {w0 : Anchor} {w : World} {μ : Mu} {M : Mem} {h : Heap} (s : SR B w0 μ M h w) {b0 o0 : Nat} {vs : List Value} : ∀ b, B ≤ b → CleanAt (w.setCells b0 o0 vs) b := by
  intro b hb c t lo hi e
  obtain ⟨c0, h1, h2⟩ := heap_setCells e
  have := s.clean b hb c0 t lo hi h1
  omega
theorem ne_none_of {α : Type} {x : Option α} {a : α} (h : x = some a) : x ≠ none := by rw [h]; simp
theorem SR.write {B : Nat} {w0 : Anchor} {w : World} {μ : Mu} {M : Mem} {h : Heap} (s : SR B w0 μ M h w) {id : Nat} {cs : List AV} {r : Rng} (hid : h id = some (.cells cs)) (hr : μ id = some r)
    {off : Nat} {as : List AV} {vs : List Value} (ha : VRs μ M as vs) (hoff : off + as.length ≤ cs.length) :
    SR B w0 μ M (upd h id (some (.cells (cs.take off ++ as ++ cs.drop (off + as.length))))) (w.setCells r.b (r.o + off) vs) := by
  obtain ⟨r', h1, h2, h3, h4, h5, vs0, h6, h7⟩ := s.cellsOf hid
  rw [hr] at h1
  cases h1
  have hl := ha.1
  have hne : ∀ j, upd h id (some (.cells (cs.take off ++ as ++ cs.drop (off + as.length)))) j ≠ none → h j ≠ none := fun j hj => by
    unfold upd at hj
    by_cases e : j = id
    · rw [e, hid]; simp
    · rwa [if_neg e] at hj
  refine ⟨s.below.trans (below_setCells h2 _ _ _), ?_, ?_, ?_, ?_, fun q hq => (s.kept q hq).trans (keptAt_setCells fun x hx hin => s.fsApart q hq id r (ne_none_of hid) hr r.b x ⟨hx, ⟨rfl, by omega, by omega⟩⟩),
    fun q hq => by rw [size_setCells]; exact s.fsBlock q hq, fun q hq j rj hj => s.fsApart q hq j rj (hne j hj), s.fsMem, s.clean_set, s.fsCell⟩
  · intro b o v hv
    rw [World.cell?_setCells_out r.b vs _ w ⟨b, o, none⟩ (fun hb _ => ?_)]
    · exact s.mem b o v hv
    · have := s.memApart id r b o (ne_none_of hid) hr (ne_none_of hv)
      simp only [Rng.has] at this
      simp only at hb ⊢
      omega
  · intro j obj hj
    unfold upd at hj
    by_cases e : j = id
    · rw [if_pos e] at hj
      cases hj
      subst e
      refine ⟨r, hr, h2, by rw [size_setCells]; exact h3, ?_, ?_, ?_⟩
      · simp; omega
      · intro k hk
        rw [World.frozen?_setCells]
        refine ⟨?_, (h5 k hk).2⟩
        by_cases hin : off ≤ k ∧ k < off + vs.length
        · have := World.cell?_setCells_in r.b vs (r.o + off) w (fun j hj => by
            have := (h5 (off + j) (by omega)).1
            rwa [← Nat.add_assoc] at this) (k - off) (by omega)
          rw [show r.o + k = r.o + off + (k - off) by omega, this]
          rfl
        · rw [World.cell?_setCells_out r.b vs _ w _ (fun _ _ => by simp only; omega)]
          exact (h5 k hk).1
      · intro i a hia
        by_cases hin : off ≤ i ∧ i < off + vs.length
        · have hget := World.cell?_setCells_in r.b vs (r.o + off) w (fun j hj => by
            have := (h5 (off + j) (by omega)).1
            rwa [← Nat.add_assoc] at this) (i - off) (by omega)
          refine ⟨_, by rw [show r.o + i = r.o + off + (i - off) by omega]; exact hget, ?_⟩
          have hia' : as[i - off]? = some a := by
            rw [List.append_assoc, List.getElem?_append_right (by simp; omega), List.getElem?_append_left (by simp; omega)] at hia
            simpa [show min off cs.length = off by omega] using hia
          exact ha.2 _ a _ hia' (List.getElem?_eq_getElem (by omega))
        · have hia' : cs[i]? = some a := by
            rcases Nat.lt_or_ge i off with hlt | hge
            · rw [List.append_assoc, List.getElem?_append_left (by simp; omega), List.getElem?_take, if_pos hlt] at hia
              exact hia
            · rw [List.getElem?_append_right (by simp; omega), List.getElem?_drop] at hia
              simp only [List.length_append, List.length_take] at hia
              rw [show off + as.length + (i - (min off cs.length + as.length)) = i by omega] at hia
              exact hia
          obtain ⟨u, hu, hru⟩ := h6.get hia'
          refine ⟨u, ?_, hru⟩
          rw [World.cell?_setCells_out r.b vs _ w _ (fun _ _ => by simp only; omega)]
          exact h7 i u hu
    · rw [if_neg e] at hj
      obtain ⟨q, q1, q2, q3, q4⟩ := s.live j obj hj
      refine ⟨q, q1, q2, by rw [size_setCells]; exact q3, q4.kept (keptAt_setCells fun x hx hin => ?_)⟩
      exact s.apart j id q r e (ne_none_of hj) (ne_none_of hid) q1 hr r.b x ⟨hx, ⟨rfl, by omega, by omega⟩⟩
  · intro i j ri rj hij hi hj hri hrj
    refine s.apart i j ri rj hij ?_ ?_ hri hrj
    · unfold upd at hi
      by_cases e : i = id
      · rw [e, hid]; simp
      · rwa [if_neg e] at hi
    · unfold upd at hj
      by_cases e : j = id
      · rw [e, hid]; simp
      · rwa [if_neg e] at hj
  · intro j q b o hj hq hm
    refine s.memApart j q b o ?_ hq hm
    unfold upd at hj
    by_cases e : j = id
    · rw [e, hid]; simp
    · rwa [if_neg e] at hj
theorem SR.inplace {B : Nat} {w0 : Anchor} {w : World} {μ : Mu} {M : Mem} {h : Heap} (s : SR B w0 μ M h w) {id n : Nat} {cs old : List AV} {r : Rng} (hid : h id = some (.cells cs)) (hr : μ id = some r)
    (hn : μ n = none) {off : Nat} (hold : sliceL cs off old.length = some old) {as : List AV} {vs : List Value} (ha : VRs μ M as vs) (hoff : off + (old.length + as.length) ≤ r.ext) :
    SR B w0 (upd μ n (some ⟨r.b, r.o + off, r.ext - off⟩)) M (upd (upd h id none) n (some (.cells (old ++ as)))) (w.setCells r.b (r.o + (off + old.length)) vs) := by
  obtain ⟨r', h1, h2, h3, h4, h5, vs0, h6, h7⟩ := s.cellsOf hid
  rw [hr] at h1
  cases h1
  have hl := ha.1
  have hle := upd_le hn (some ⟨r.b, r.o + off, r.ext - off⟩)
  have hnid : n ≠ id := fun e => by rw [e, hr] at hn; cases hn
  have hlive : ∀ j, j ≠ n → (upd (upd h id none) n (some (.cells (old ++ as)))) j ≠ none → j ≠ id ∧ h j ≠ none := by
    intro j hj hne
    unfold upd at hne
    rw [if_neg hj] at hne
    by_cases e : j = id
    · rw [if_pos e] at hne; exact absurd rfl hne
    · rw [if_neg e] at hne; exact ⟨e, hne⟩
  have hsub : ∀ b x, (⟨r.b, r.o + off, r.ext - off⟩ : Rng).has b x → r.has b x := by
    rintro b x ⟨e1, e2, e3⟩
    simp only at e1 e2 e3
    exact ⟨e1, by omega, by omega⟩
  refine ⟨s.below.trans (below_setCells h2 _ _ _), ?_, ?_, ?_, ?_, fun q hq => (s.kept q hq).trans (keptAt_setCells fun x hx hin => s.fsApart q hq id r (ne_none_of hid) hr r.b x ⟨hx, ⟨rfl, by omega, by omega⟩⟩),
    fun q hq => by rw [size_setCells]; exact s.fsBlock q hq, ?_, s.fsMem, s.clean_set, s.fsCell⟩
  rotate_left 4
  · intro q hq j rj hj hrj
    by_cases e : j = n
    · have hrj' : rj = ⟨r.b, r.o + off, r.ext - off⟩ := by simpa [upd, e] using hrj.symm
      rintro b x ⟨hx, hy⟩
      exact s.fsApart q hq id r (ne_none_of hid) hr b x ⟨hx, hsub b x (hrj' ▸ hy)⟩
    · obtain ⟨e2, hne⟩ := hlive j e hj
      have hrj' : μ j = some rj := by unfold upd at hrj; rwa [if_neg e] at hrj
      exact s.fsApart q hq j rj hne hrj'
  · intro b o v hv
    rw [World.cell?_setCells_out r.b vs _ w ⟨b, o, none⟩ (fun hb _ => ?_)]
    · exact s.mem b o v hv
    · have := s.memApart id r b o (ne_none_of hid) hr (ne_none_of hv)
      simp only [Rng.has] at this
      simp only at hb ⊢
      omega
  · intro j obj hj
    by_cases e : j = n
    · unfold upd at hj
      rw [if_pos e] at hj
      cases hj
      refine ⟨⟨r.b, r.o + off, r.ext - off⟩, by simp [upd, e], h2, by rw [size_setCells]; exact h3, ?_, ?_, ?_⟩
      · simp; omega
      · intro k hk
        simp only at hk ⊢
        rw [World.frozen?_setCells]
        refine ⟨?_, by have := (h5 (off + k) (by omega)).2; rwa [← Nat.add_assoc] at this⟩
        by_cases hin : old.length ≤ k ∧ k < old.length + vs.length
        · have := World.cell?_setCells_in r.b vs (r.o + (off + old.length)) w (fun j hj => by
            have := (h5 (off + old.length + j) (by omega)).1
            rwa [← Nat.add_assoc] at this) (k - old.length) (by omega)
          rw [show r.o + off + k = r.o + (off + old.length) + (k - old.length) by omega, this]
          rfl
        · rw [World.cell?_setCells_out r.b vs _ w _ (fun _ _ => by simp only; omega)]
          have := (h5 (off + k) (by omega)).1
          rwa [← Nat.add_assoc] at this
      · intro i a hia
        simp only
        rcases Nat.lt_or_ge i old.length with hlt | hge
        · rw [List.getElem?_append_left hlt] at hia
          have hcs : cs[off + i]? = some a := sliceL_get hold hia
          obtain ⟨u, hu, hru⟩ := h6.get hcs
          refine ⟨u, ?_, hru.mono hle (.refl _)⟩
          rw [World.cell?_setCells_out r.b vs _ w _ (fun _ _ => by simp only; omega), Nat.add_assoc]
          exact h7 _ u hu
        · rw [List.getElem?_append_right hge] at hia
          have hi : i - old.length < as.length := (List.getElem?_eq_some_iff.1 hia).1
          have hget := World.cell?_setCells_in r.b vs (r.o + (off + old.length)) w (fun j hj => by
            have := (h5 (off + old.length + j) (by omega)).1
            rwa [← Nat.add_assoc] at this) (i - old.length) (by omega)
          refine ⟨_, by rw [show r.o + off + i = r.o + (off + old.length) + (i - old.length) by omega]; exact hget, ?_⟩
          exact (ha.2 _ a _ hia (List.getElem?_eq_getElem (by omega))).mono hle (.refl _)
    · obtain ⟨e2, hne⟩ := hlive j e (ne_none_of hj)
      unfold upd at hj
      rw [if_neg e, if_neg e2] at hj
      obtain ⟨q, q1, q2, q3, q4⟩ := s.live j obj hj
      refine ⟨q, hle _ _ q1, q2, by rw [size_setCells]; exact q3, (q4.kept (keptAt_setCells fun x hx hin => ?_)).mono hle (.refl _)⟩
      exact s.apart j id q r e2 (ne_none_of hj) (ne_none_of hid) q1 hr r.b x ⟨hx, ⟨rfl, by omega, by omega⟩⟩
  · intro i j ri rj hij hi hj hri hrj
    by_cases ei : i = n
    · have hri' : ri = ⟨r.b, r.o + off, r.ext - off⟩ := by simpa [upd, ei] using hri.symm
      have ej : j ≠ n := fun e => hij (ei.trans e.symm)
      obtain ⟨e2, hne⟩ := hlive j ej hj
      have hrj' : μ j = some rj := by unfold upd at hrj; rwa [if_neg ej] at hrj
      rintro b x ⟨hx, hy⟩
      exact s.apart id j r rj (fun e => e2 e.symm) (ne_none_of hid) hne hr hrj' b x ⟨hsub b x (hri' ▸ hx), hy⟩
    · obtain ⟨e2, hne⟩ := hlive i ei hi
      have hri' : μ i = some ri := by unfold upd at hri; rwa [if_neg ei] at hri
      by_cases ej : j = n
      · have hrj' : rj = ⟨r.b, r.o + off, r.ext - off⟩ := by simpa [upd, ej] using hrj.symm
        rintro b x ⟨hx, hy⟩
        exact s.apart i id ri r e2 hne (ne_none_of hid) hri' hr b x ⟨hx, hsub b x (hrj' ▸ hy)⟩
      · obtain ⟨e3, hne'⟩ := hlive j ej hj
        have hrj' : μ j = some rj := by unfold upd at hrj; rwa [if_neg ej] at hrj
        exact s.apart i j ri rj hij hne hne' hri' hrj'
  · intro j q b o hj hq hm
    by_cases e : j = n
    · have hq' : q = ⟨r.b, r.o + off, r.ext - off⟩ := by simpa [upd, e] using hq.symm
      intro hx
      exact s.memApart id r b o (ne_none_of hid) hr hm (hsub b o (hq' ▸ hx))
    · obtain ⟨e2, hne⟩ := hlive j e hj
      have hq' : μ j = some q := by unfold upd at hq; rwa [if_neg e] at hq
      exact s.memApart j q b o hne hq' hm
theorem SR.setMap {B : Nat} {w0 : Anchor} {w : World} {μ : Mu} {M : Mem} {h : Heap} (s : SR B w0 μ M h w) {id : Nat} {r : Rng} {es0 es : List (AV × AV)} (hid : h id = some (.map es0)) (hr : μ id = some r)
    (en : Array MapEntry) (cl : Nat) (hl : es.length = en.size) (hv : ∀ (i : Nat) e x, es[i]? = some e → en[i]? = some x → VR μ M e.1 x.key ∧ VR μ M e.2 x.val) :
    SR B w0 μ M (upd h id (some (.map es))) { w with heap := w.heap.setIfInBounds r.b (.map en cl) } := by
  obtain ⟨r', h1, h2, h3, h4, h5, en0, cl0, h6, _⟩ := s.live id _ hid
  rw [hr] at h1
  cases h1
  have hne : ∀ k, k ≠ r.b → ({ w with heap := w.heap.setIfInBounds r.b (.map en cl) } : World).heap[k]? = w.heap[k]? := fun k hk => by
    simp only
    exact Array.getElem?_setIfInBounds_ne (fun e => hk e.symm)
  have hbne : ∀ b o v, w.cell? ⟨b, o, none⟩ = some v → b ≠ r.b := by
    intro b o v hv e
    subst e
    simp [World.cell?, h6] at hv
  have hlive : ∀ j, upd h id (some (.map es)) j ≠ none → h j ≠ none := by
    intro j hj
    unfold upd at hj
    by_cases e : j = id
    · rw [e, hid]; simp
    · rwa [if_neg e] at hj
  refine ⟨s.below.trans ⟨rfl, rfl, rfl, by simp, fun k hk => hne k (by omega)⟩, ?_, ?_, ?_, ?_, fun q hq => (s.kept q hq).trans ?_, fun q hq => by simpa using s.fsBlock q hq, fun q hq j rj hj => s.fsApart q hq j rj (hlive j hj), s.fsMem, ?_, s.fsCell⟩
  rotate_left 4
  · by_cases hb : q.b = r.b
    · have hmap : ∀ o, w.cell? ⟨q.b, o, none⟩ = none := fun o => by simp [World.cell?, hb, h6]
      have hfz : ∀ o, w.frozen? ⟨q.b, o, none⟩ = false := fun o => by simp [World.frozen?, hb, h6]
      refine ⟨fun o _ => ?_, fun o _ => ?_, fun h0 => ?_⟩
      · rw [hmap]; simp [World.cell?, hb, h3]
      · rw [hfz]; simp [World.frozen?, hb, h3]
      · exact absurd ⟨h0, ⟨hb, by omega, by omega⟩⟩ (s.fsApart q hq id r (ne_none_of hid) hr q.b 0)
    · exact .of_block (hne q.b hb)
  · intro b hb c t lo hi e0
    by_cases e : b = r.b
    · subst e
      simp [h3] at e0
    · rw [hne b e] at e0
      exact s.clean b hb c t lo hi e0
  · intro b o v hm
    have hc := s.mem b o v hm
    rw [← hc]
    simp only [World.cell?, hne b (hbne b o v hc)]
  · intro j obj hj
    unfold upd at hj
    by_cases e : j = id
    · rw [if_pos e] at hj
      cases hj
      subst e
      refine ⟨r, hr, h2, by simpa using h3, h4, h5, en, cl, ?_, hl, hv⟩
      simp [h3]
    · rw [if_neg e] at hj
      obtain ⟨q, q1, q2, q3, q4⟩ := s.live j obj hj
      refine ⟨q, q1, q2, by simpa using q3, ?_⟩
      cases obj with
      | map es' =>
        obtain ⟨o1, o2, en', cl', o3, o4, o5⟩ := q4
        have hb : q.b ≠ r.b := fun hb => by
          refine s.apart j id q r e (ne_none_of hj) (ne_none_of hid) q1 hr r.b 0 ⟨⟨hb.symm, by omega, by omega⟩, ⟨rfl, by omega, by omega⟩⟩
        exact ⟨o1, o2, en', cl', (hne q.b hb).trans o3, o4, o5⟩
      | cells cs =>
        obtain ⟨o1, o2, o3⟩ := q4
        have hcell : ∀ o, (w.cell? ⟨q.b, o, none⟩).isSome = true → q.b ≠ r.b := fun o hs => by
          obtain ⟨v, hv⟩ := Option.isSome_iff_exists.1 hs
          exact hbne q.b o v hv
        refine ⟨o1, fun k hk => ?_, fun i a ha => ?_⟩
        · have hb := hcell _ (o2 k hk).1
          simp only [World.cell?, World.frozen?, hne q.b hb]
          exact o2 k hk
        · obtain ⟨v, hv, hrv⟩ := o3 i a ha
          have hb := hbne _ _ _ hv
          refine ⟨v, ?_, hrv⟩
          rw [← hv]
          simp only [World.cell?, hne q.b hb]
  · intro i j ri rj hij hi hj
    exact s.apart i j ri rj hij (hlive i hi) (hlive j hj)
  · intro j q b o hj
    exact s.memApart j q b o (hlive j hj)
def addMem (M : Mem) (w : World) (r : Rng) (n : Nat) : Mem := fun b o => if b = r.b ∧ r.o ≤ o ∧ o < r.o + n then w.cell? ⟨b, o, none⟩ else M b o
theorem SR.freeze {B : Nat} {w0 : Anchor} {w : World} {μ : Mu} {M : Mem} {h : Heap} (s : SR B w0 μ M h w) {id : Nat} {r : Rng} {cs : List AV} (hid : h id = some (.cells cs)) (hr : μ id = some r) :
    SR B w0 μ (addMem M w r cs.length) (upd h id none) w ∧ M.le (addMem M w r cs.length) := by
  obtain ⟨r', h1, h2, h3, h4, h5, vs0, h6, h7⟩ := s.cellsOf hid
  rw [hr] at h1
  cases h1
  have hle : M.le (addMem M w r cs.length) := by
    intro b o v hv
    unfold addMem
    rw [if_neg]
    · exact hv
    · rintro ⟨e1, e2, e3⟩
      exact s.memApart id r b o (ne_none_of hid) hr (ne_none_of hv) ⟨e1, e2, by omega⟩
  have hlive : ∀ j, upd h id none j ≠ none → j ≠ id ∧ h j ≠ none := by
    intro j hj
    unfold upd at hj
    by_cases e : j = id
    · rw [if_pos e] at hj; exact absurd rfl hj
    · rw [if_neg e] at hj; exact ⟨e, hj⟩
  refine ⟨⟨s.below, ?_, ?_, ?_, ?_, s.kept, s.fsBlock, fun q hq j rj hj => s.fsApart q hq j rj (hlive j hj).2, ?_, s.clean, s.fsCell⟩, hle⟩
  rotate_left 4
  · intro q hq b o hm hx
    unfold addMem at hm
    split at hm
    · rename_i hc
      exact s.fsApart q hq id r (ne_none_of hid) hr b o ⟨hx, ⟨hc.1, hc.2.1, by omega⟩⟩
    · exact s.fsMem q hq b o hm hx
  · intro b o v hv
    unfold addMem at hv
    split at hv
    · exact hv
    · exact s.mem b o v hv
  · intro j obj hj
    obtain ⟨e, _⟩ := hlive j (ne_none_of hj)
    unfold upd at hj
    rw [if_neg e] at hj
    obtain ⟨q, q1, q2, q3, q4⟩ := s.live j obj hj
    exact ⟨q, q1, q2, q3, q4.mono (.refl _) hle⟩
  · intro i j ri rj hij hi hj
    exact s.apart i j ri rj hij (hlive i hi).2 (hlive j hj).2
  · intro j q b o hj hq hm hx
    obtain ⟨e, hne⟩ := hlive j hj
    unfold addMem at hm
    split at hm
    · rename_i hc
      exact s.apart j id q r e hne (ne_none_of hid) hq hr b o ⟨hx, ⟨hc.1, hc.2.1, by omega⟩⟩
    · exact s.memApart j q b o hne hq hm hx
theorem SR.mark {B : Nat} {w0 : Anchor} {w : World} {μ : Mu} {M : Mem} {h : Heap} (s : SR B w0 μ M h w) {b : Nat} {c : Array Value} {t : TypeId} {lo hi : Nat} (hb : B ≤ b) (hc : w.heap[b]? = some (.cells c t (lo, hi))) :
    SR B w0 μ M h (w.freeze ⟨b, c.size, none⟩ 1) := by
  have hcl := s.clean b hb c t lo hi hc
  have hlt : b < w.heap.size := (Array.getElem?_eq_some_iff.1 hc).1
  obtain ⟨lo', hi', hnew, hcl'⟩ : ∃ lo' hi', (w.freeze ⟨b, c.size, none⟩ 1).heap[b]? = some (.cells c t (lo', hi')) ∧ c.size ≤ lo' := by
    simp only [World.freeze, Nat.one_ne_zero, if_false, Array.getElem?_modify, if_true, hc, Option.map_some]
    by_cases e : lo = hi
    · refine ⟨c.size, c.size + 1, ?_, Nat.le_refl _⟩
      simp [e]
    · refine ⟨min lo c.size, max hi (c.size + 1), ?_, by omega⟩
      simp [e]
  have hother : ∀ k, k ≠ b → (w.freeze ⟨b, c.size, none⟩ 1).heap[k]? = w.heap[k]? := by
    intro k hk
    simp only [World.freeze, Nat.one_ne_zero, if_false, Array.getElem?_modify]
    rw [if_neg (fun e => hk e.symm)]
  have hcell : ∀ k o, (w.freeze ⟨b, c.size, none⟩ 1).cell? ⟨k, o, none⟩ = w.cell? ⟨k, o, none⟩ := by
    intro k o
    by_cases e : k = b
    · subst e
      simp only [World.cell?, hnew, hc]
    · simp only [World.cell?, hother k e]
  have hkept : ∀ r : Rng, (∀ o, r.has r.b o → (w.cell? ⟨r.b, o, none⟩).isSome = true ∨ ∃ en cl, w.heap[r.b]? = some (.map en cl) ∧ o = 0) → KeptAt w (w.freeze ⟨b, c.size, none⟩ 1) r := by
    intro r hr
    refine ⟨fun o _ => hcell _ _, fun o ho => ?_, fun _ en cl he => ?_⟩
    · by_cases e : r.b = b
      · rcases hr o ho with h1 | ⟨en, cl, h1, _⟩
        · have hsz : o < c.size := by
            rw [e] at h1
            simp only [World.cell?, hc] at h1
            obtain ⟨v, hv⟩ := Option.isSome_iff_exists.1 h1
            exact (Array.getElem?_eq_some_iff.1 hv).1
          rw [e]
          simp only [World.frozen?, hnew, hc]
          have e1 : (decide (lo' ≤ o) && decide (o < hi')) = false := by
            rw [decide_eq_false (by omega)]; rfl
          have e2 : (decide (lo ≤ o) && decide (o < hi)) = false := by
            rcases hcl with h | h
            · by_cases hx : lo ≤ o
              · rw [decide_eq_false (show ¬(o < hi) by omega), Bool.and_false]
              · rw [decide_eq_false hx]; rfl
            · rw [decide_eq_false (by omega)]; rfl
          rw [e1, e2]
        · rw [e, hc] at h1; cases h1
      · simp only [World.frozen?, hother r.b e]
    · have e : r.b ≠ b := fun e => by rw [e, hc] at he; cases he
      rw [hother r.b e]
      exact he
  have hsize : (w.freeze ⟨b, c.size, none⟩ 1).heap.size = w.heap.size := by simp [World.freeze]
  refine ⟨s.below.trans ⟨rfl, rfl, rfl, by rw [hsize]; exact Nat.le_refl _, fun k hk => hother k (by omega)⟩, fun b' o v hv => by rw [hcell]; exact s.mem b' o v hv, ?_, s.apart, s.memApart, fun r hr => (s.kept r hr).trans (hkept r fun o ho => s.fsNow hr ho),
    fun r hr => by rw [hsize]; exact s.fsBlock r hr, s.fsApart, s.fsMem, ?_, s.fsCell⟩
  · intro id obj ho
    obtain ⟨r, q1, q2, q3, q4⟩ := s.live id obj ho
    exact ⟨r, q1, q2, by rw [hsize]; exact q3, q4.kept (hkept r fun o hx => s.liveNow (by rw [ho]; simp) q1 hx)⟩
  · intro k hk c' t' lo2 hi2 e0
    by_cases e : k = b
    · subst e
      rw [hnew] at e0
      simp only [Option.some.injEq, Obj.cells.injEq, Prod.mk.injEq] at e0
      obtain ⟨rfl, _, rfl, _⟩ := e0
      exact .inr hcl'
    · rw [hother k e] at e0
      exact s.clean k hk c' t' lo2 hi2 e0
end Go.Abs
