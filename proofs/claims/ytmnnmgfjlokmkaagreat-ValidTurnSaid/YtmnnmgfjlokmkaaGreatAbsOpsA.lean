import Derived.Test.YtmnnmgfjlokmkaaGreatAbsRelB
import Derived.Laws.Entries
import GoSem.Dispatch
open Go.RowKit (Below)
namespace Go.Abs
theorem bind_some {α β : Type} {m : AM α} {f : α → AM β} {h : Heap} {n : Nat} {b : β} {h2 : Heap} {n2 : Nat} {lg : Log} (e : AM.bind m f h n = some (b, h2, n2, lg)) :
  ∃ a h1 n1 l1 l2, m h n = some (a, h1, n1, l1) ∧ f a h1 n1 = some (b, h2, n2, l2) ∧ lg = (l1.1 ++ l2.1, l1.2 ++ l2.2) := by
 unfold AM.bind at e
 cases e1 : m h n with
 | none => rw [e1] at e; cases e
 | some x =>
  obtain ⟨a, h1, n1, l1⟩ := x
  rw [e1] at e
  simp only at e
  cases e2 : f a h1 n1 with
  | none => rw [e2] at e; cases e
  | some y =>
   obtain ⟨b', h2', n2', l2⟩ := y
   rw [e2] at e
   simp only [Option.some.injEq, Prod.mk.injEq] at e
   obtain ⟨rfl, rfl, rfl, rfl⟩ := e
   exact ⟨a, h1, n1, l1, l2, rfl, e2, rfl⟩
theorem lift_some {α : Type} {x : Option α} {h : Heap} {n : Nat} {b : α} {h2 : Heap} {n2 : Nat} {lg : Log} (e : AM.lift x h n = some (b, h2, n2, lg)) :
  x = some b ∧ h2 = h ∧ n2 = n := by
 cases x with
 | none => cases e
 | some a =>
  simp only [AM.lift, AM.pure, Option.some.injEq, Prod.mk.injEq] at e
  obtain ⟨rfl, rfl, rfl, _⟩ := e
  exact ⟨rfl, rfl, rfl⟩
theorem pure_some {α : Type} {x : α} {h : Heap} {n : Nat} {b : α} {h2 : Heap} {n2 : Nat} {lg : Log} (e : AM.pure x h n = some (b, h2, n2, lg)) :
  b = x ∧ h2 = h ∧ n2 = n := by
 simp only [AM.pure, Option.some.injEq, Prod.mk.injEq] at e
 obtain ⟨rfl, rfl, rfl, _⟩ := e
 exact ⟨rfl, rfl, rfl⟩
theorem fail_some {α : Type} {h : Heap} {n : Nat} {b : α} {h2 : Heap} {n2 : Nat} {lg : Log} (e : (AM.fail : AM α) h n = some (b, h2, n2, lg)) : False := by cases e
theorem get_some {id : Nat} {h : Heap} {n : Nat} {b : AObj} {h2 : Heap} {n2 : Nat} {lg : Log} (e : AM.get id h n = some (b, h2, n2, lg)) :
  h id = some b ∧ h2 = h ∧ n2 = n := by
 unfold AM.get at e
 split at e
 ·rename_i o ho
  simp only [Option.some.injEq, Prod.mk.injEq] at e
  obtain ⟨rfl, rfl, rfl, _⟩ := e
  exact ⟨ho, rfl, rfl⟩
 ·cases e
theorem set_some {id : Nat} {o : AObj} {h : Heap} {n : Nat} {b : Unit} {h2 : Heap} {n2 : Nat} {lg : Log} (e : AM.set id o h n = some (b, h2, n2, lg)) :
  h2 = upd h id (some o) ∧ n2 = n := by
 unfold AM.set at e
 split at e
 ·simp only [Option.some.injEq, Prod.mk.injEq] at e
  obtain ⟨_, rfl, rfl, _⟩ := e
  exact ⟨rfl, rfl⟩
 ·cases e
theorem kill_some {id : Nat} {h : Heap} {n : Nat} {b : Unit} {h2 : Heap} {n2 : Nat} {lg : Log} (e : AM.kill id h n = some (b, h2, n2, lg)) :
  h2 = upd h id none ∧ n2 = n := by
 unfold AM.kill at e
 split at e
 ·simp only [Option.some.injEq, Prod.mk.injEq] at e
  obtain ⟨_, rfl, rfl, _⟩ := e
  exact ⟨rfl, rfl⟩
 ·cases e
theorem new_some {o : AObj} {h : Heap} {n : Nat} {b : Nat} {h2 : Heap} {n2 : Nat} {lg : Log} (e : AM.new o h n = some (b, h2, n2, lg)) :
  b = n ∧ h2 = upd h n (some o) ∧ n2 = n + 1 := by
 simp only [AM.new, Option.some.injEq, Prod.mk.injEq] at e
 obtain ⟨rfl, rfl, rfl, _⟩ := e
 exact ⟨rfl, rfl, rfl⟩
theorem bindo {α β : Type} {x : Option α} {f : α → Option β} {b : β} (e : x.bind f = some b) : ∃ a, x = some a ∧ f a = some b := Option.bind_eq_some_iff.1 e
theorem mapo {α β : Type} {x : Option α} {f : α → β} {b : β} (e : x.map f = some b) : ∃ a, x = some a ∧ f a = b := Option.map_eq_some_iff.1 e
theorem szOf_info {P : Program} {t : TypeId} {n : Nat} (h : szOf P t = some n) : ∃ i, P.info? t = some i ∧ i.size = n := mapo h
theorem bytesOf_info {P : Program} {t : TypeId} {n : Nat} (h : bytesOf P t = some n) : ∃ i, P.info? t = some i ∧ i.bytes = n := mapo h
theorem run_sizeOf' {P : Program} {t : TypeId} {n : Nat} (h : szOf P t = some n) (w : World) : (sizeOf t).run P w = .ok n w := by
 obtain ⟨i, hi, rfl⟩ := szOf_info h
 simp [sizeOf, typeInfo, hi]
theorem run_isAgg' {P : Program} {t : TypeId} {b : Bool} (h : aggOf P t = some b) (w : World) : (isAgg t).run P w = .ok b w := by
 unfold aggOf at h
 simp only [isAgg]
 split at h
 ·rename_i fs e; cases h; simp [run_underlying e]
 ·rename_i l e' e; cases h; simp [run_underlying e]
 ·rename_i d h1 h2 e
  cases h
  rw [Sem.run_bind, run_underlying e]
  simp only [Result.andThen_ok]
  cases d <;> first | rfl | (exact absurd e (h1 _)) | (exact absurd e (h2 _ _))
 ·cases h
theorem VR.str' {μ : Mu} {M : Mem} (s : List UInt8) : VR μ M (.str s) (.string ⟨s.toArray⟩) := by
 have := VR.str (μ := μ) (M := M) ⟨s.toArray⟩
 simpa using this
theorem VR.str_inv {μ : Mu} {M : Mem} {s : List UInt8} {v : Value} (h : VR μ M (.str s) v) : v = .string ⟨s.toArray⟩ := by
 cases h with
 | str b => cases b; simp
theorem toScalar_eq {μ : Mu} {M : Mem} {a : AV} {v v' : Value} (h : toScalar a = some v) (hr : VR μ M a v') : v' = v := by
 cases a <;> simp only [toScalar, Option.some.injEq, reduceCtorEq] at h
 ·subst h; cases hr; rfl
 ·subst h; cases hr; rfl
 ·subst h; exact hr.str_inv
theorem toScalars_eq {μ : Mu} {M : Mem} : ∀ {l : List AV} {r vs : List Value}, l.mapM toScalar = some r → VRs μ M l vs → vs = r
 | [], r, vs, h, hv => by
  simp at h
  subst h
  have := hv.1
  cases vs with
  | nil => rfl
  | cons _ _ => simp at this
 | a :: l, r, vs, h, hv => by
  rw [List.mapM_cons] at h
  cases vs with
  | nil => have := hv.1; simp at this
  | cons v vs =>
   rw [VRs.cons_iff] at hv
   simp only [Option.bind_eq_bind, Option.pure_def] at h
   obtain ⟨x, hx, h⟩ := bindo h
   obtain ⟨y, hy, h⟩ := bindo h
   cases h
   rw [toScalar_eq hx hv.1, toScalars_eq hy hv.2]
theorem conc_eq {μ : Mu} {M : Mem} {a : AV} {v v' : Value} (h : conc a = some v) (hr : VR μ M a v') : v' = v := by
 cases a with
 | agg cs =>
  simp only [conc] at h
  obtain ⟨l, hl, rfl⟩ := mapo h
  cases hr with
  | agg _ vs h1 h2 =>
   have : vs.toList = l := toScalars_eq hl ⟨by simpa using h1, fun i x y hx hy => h2 i x y hx (by simpa using hy)⟩
   rw [← this]
 | _ => exact toScalar_eq (by simpa only [conc] using h) hr
theorem ofScalar_vr {μ : Mu} {M : Mem} {v : Value} {a : AV} (h : ofScalar v = some a) : VR μ M a v := by
 cases v <;> try (simp only [ofScalar, Option.some.injEq, reduceCtorEq] at h)
 ·subst h; exact .bool _
 ·subst h; exact .int _ _
 ·subst h; exact .str _
 ·rename_i p
  cases p with
  | none => simp only [Option.some.injEq] at h; subst h; exact .nilptr
  | some _ => simp at h
 ·rename_i p l c
  cases p with
  | none =>
   cases l <;> cases c <;> simp at h
   subst h; exact .nilsl
  | some _ => simp at h
 ·rename_i p
  cases p with
  | none => simp only [Option.some.injEq] at h; subst h; exact .nilmap
  | some _ => simp at h
 ·subst h; exact .nilfn
 ·subst h; exact .nilifc
theorem ofScalars_vr {μ : Mu} {M : Mem} : ∀ {vs : List Value} {l : List AV}, vs.mapM ofScalar = some l → VRs μ M l vs
 | [], l, h => by simp at h; subst h; exact .nil
 | v :: vs, l, h => by
  rw [List.mapM_cons] at h
  simp only [Option.bind_eq_bind, Option.pure_def] at h
  obtain ⟨x, hx, h⟩ := bindo h
  obtain ⟨y, hy, h⟩ := bindo h
  cases h
  exact .cons (ofScalar_vr hx) (ofScalars_vr hy)
theorem ofv_vr {μ : Mu} {M : Mem} {v : Value} {a : AV} (h : ofv v = some a) : VR μ M a v := by
 cases v with
 | agg cs =>
  simp only [ofv] at h
  obtain ⟨l, hl, rfl⟩ := mapo h
  have := VR.agg' (ofScalars_vr (μ := μ) (M := M) hl)
  simpa using this
 | _ => exact ofScalar_vr h
theorem spr_run {α : Type} {P : Program} {s : Sem α} {a : α} (h : spr P s = some a) (w : World) : s.run P w = .ok a w := by
 induction s with
 | pure b => simp only [spr, Option.some.injEq] at h; subst h; rfl
 | program k ih => exact ih P h
 | mark m k ih => exact ih h
 | _ => simp [spr] at h
theorem add_none (b o j : Nat) : (⟨b, o, none⟩ : Addr).add j = ⟨b, o + j, none⟩ := by
 unfold Addr.add
 split
 ·rename_i e; simp [e]
 ·rfl
theorem cellsAt_sim {B : Nat} {w0 : Anchor} {w : World} {μ : Mu} {M : Mem} {h h' : Heap} {n n' k : Nat} {lg : Log} {p : AV} {pv : Value} {cs : List AV}
  (s : SR B w0 μ M h w) (hp : VR μ M p pv) (e : cellsAt p k h n = some (cs, h', n', lg)) :
  h' = h ∧ n' = n ∧ cs.length = k ∧ ∃ b o vs, pv = .pointer (some ⟨b, o, none⟩) ∧ VRs μ M cs vs ∧ ∀ j v, vs[j]? = some v → w.cell? ⟨b, o + j, none⟩ = some v := by
 unfold cellsAt at e
 cases hp with
 | ptr id off r hr =>
  simp only at e
  obtain ⟨o, h1, n1, l1, l2, e1, e2, _⟩ := bind_some e
  obtain ⟨ho, rfl, rfl⟩ := get_some e1
  cases o with
  | cells c =>
   obtain ⟨hs, rfl, rfl⟩ := lift_some e2
   obtain ⟨r', h1, h2, h3, h4, h5, vs, h6, h7⟩ := s.cellsOf ho
   rw [hr] at h1
   cases h1
   refine ⟨rfl, rfl, (sliceL_len hs).1, r.b, r.o + off, _, rfl, sliceL_vrs hs h6, ?_⟩
   intro j v hv
   rw [List.getElem?_take] at hv
   split at hv
   ·rw [List.getElem?_drop] at hv
    rw [Nat.add_assoc]
    exact h7 _ v hv
   ·cases hv
  | map es => exact (fail_some e2).elim
 | tptr c off b o vs h1 h2 =>
  simp only at e
  obtain ⟨hs, rfl, rfl⟩ := lift_some e
  have hl := sliceL_len hs
  refine ⟨rfl, rfl, hl.1, b, o + off, (List.range k).map (fun j => vs (off + j)), rfl, ⟨by simp [hl.1], ?_⟩, ?_⟩
  ·intro i a v ha hv
   have hi : i < k := by rw [← hl.1]; exact (List.getElem?_eq_some_iff.1 ha).1
   simp [hi] at hv
   exact hv ▸ h2 _ a (sliceL_get hs ha)
  ·intro j v hv
   have hj : j < k := by
    rcases Nat.lt_or_ge j k with h | h
    ·exact h
    ·simp [h] at hv
   simp [hj] at hv
   have hlt : off + j < c.length := by omega
   rw [← hv, Nat.add_assoc]
   exact s.mem b _ _ (h1 (off + j) _ (List.getElem?_eq_getElem hlt))
 | _ => exact (fail_some e).elim
theorem run_loadCells_at {P : Program} {w : World} {b o : Nat} {vs : List Value} (h : ∀ j v, vs[j]? = some v → w.cell? ⟨b, o + j, none⟩ = some v) :
  (loadCells ⟨b, o, none⟩ vs.length).run P w = .ok vs.toArray w :=
 run_loadCells_list w _ vs fun j v hv => by rw [add_none]; exact h j v hv
theorem loadT_sim {P : Program} {B : Nat} {w0 : Anchor} {w : World} {μ : Mu} {M : Mem} {h h' : Heap} {n n' : Nat} {lg : Log} {t : TypeId} {p v : AV} {pv : Value}
  (s : SR B w0 μ M h w) (hp : VR μ M p pv) (e : loadT P t p h n = some (v, h', n', lg)) :
  h' = h ∧ n' = n ∧ ∃ b o cv, pv = .pointer (some ⟨b, o, none⟩) ∧ VR μ M v cv ∧ (loadVar t ⟨b, o, none⟩).run P w = .ok cv w := by
 unfold loadT at e
 obtain ⟨agg, h1, n1, _, _, e1, f1, _⟩ := bind_some e
 obtain ⟨ha, rfl, rfl⟩ := lift_some e1
 obtain ⟨sz, h2, n2, _, _, e2, f2, _⟩ := bind_some f1
 obtain ⟨hz, rfl, rfl⟩ := lift_some e2
 obtain ⟨cs, h3, n3, _, _, e3, f3, _⟩ := bind_some f2
 obtain ⟨hs, rfl, rfl⟩ := lift_some f3
 obtain ⟨rfl, rfl, hl, b, o, vs, hpv, hvs, hc⟩ := cellsAt_sim s hp e3
 refine ⟨rfl, rfl, b, o, ?_⟩
 have hlen := hvs.1
 cases agg with
 | true =>
  simp only [if_true] at hl
  simp only [shapeOf, if_true, Option.some.injEq] at hs
  subst hs
  refine ⟨.agg vs.toArray, hpv, VR.agg' hvs, ?_⟩
  have := run_loadCells_at (P := P) hc
  rw [← hlen, hl] at this
  simp [loadVar, run_isAgg' ha, run_sizeOf' hz, this]
 | false =>
  simp only [Bool.false_eq_true, if_false] at hl
  simp only [shapeOf, Bool.false_eq_true, if_false] at hs
  cases cs with
  | nil => cases hs
  | cons a l =>
   cases l with
   | cons _ _ => cases hs
   | nil =>
    simp only [Option.some.injEq] at hs
    subst hs
    cases vs with
    | nil => simp at hlen
    | cons u vs =>
     rw [VRs.cons_iff] at hvs
     have hcell := hc 0 u rfl
     simp only [Nat.add_zero] at hcell
     refine ⟨u, hpv, hvs.1, ?_⟩
     simp [loadVar, run_isAgg' ha, hcell]
theorem spliceL_some {α : Type} {l vs r : List α} {off : Nat} (h : spliceL l off vs = some r) : r = l.take off ++ vs ++ l.drop (off + vs.length) ∧ off + vs.length ≤ l.length := by
 unfold spliceL at h
 split at h
 ·rename_i c
  simp only [Option.some.injEq] at h
  exact ⟨h.symm, c⟩
 ·cases h
theorem storeAtA_sim {P : Program} {B : Nat} {w0 : Anchor} {w : World} {μ : Mu} {M : Mem} {h h' : Heap} {n n' : Nat} {lg : Log} {p : AV} {pv : Value} {as : List AV} {vs : List Value} {u : Unit}
  (s : SR B w0 μ M h w) (hp : VR μ M p pv) (hv : VRs μ M as vs) (e : storeAtA p as h n = some (u, h', n', lg)) :
  n' = n ∧ ∃ b o w', pv = .pointer (some ⟨b, o, none⟩) ∧ (storeCells ⟨b, o, none⟩ vs).run P w = .ok () w' ∧ SR B w0 μ M h' w' := by
 unfold storeAtA at e
 cases hp with
 | ptr id off r hr =>
  simp only at e
  obtain ⟨o, h1, n1, l1, l2, e1, e2, _⟩ := bind_some e
  obtain ⟨ho, rfl, rfl⟩ := get_some e1
  cases o with
  | map es => exact (fail_some e2).elim
  | cells c =>
   obtain ⟨c', h3, n3, _, _, e3, e4, _⟩ := bind_some e2
   obtain ⟨hc, rfl, rfl⟩ := lift_some e3
   obtain ⟨rfl, rfl⟩ := set_some e4
   split at hc
   ·rename_i hone
    obtain ⟨rfl, hle⟩ := spliceL_some hc
    obtain ⟨r', h1, h2, h3, h4, h5, _⟩ := s.cellsOf ho
    rw [hr] at h1
    cases h1
    have hl := hv.1
    refine ⟨rfl, r.b, r.o + off, _, rfl, ?_, s.write ho hr hv hle⟩
    have := run_storeCells_cells (P := P) r.b (r.o + off) vs 0 w (fun j hj => by
      have := (h5 (off + j) (by omega)).1
      simpa [Nat.add_assoc] using this) (fun j hj => by
      have := (h5 (off + j) (by omega)).2
      simpa [Nat.add_assoc] using this) (hv.all_one hone)
    simpa using this
   ·cases hc
 | _ => exact (fail_some e).elim
theorem foldl_place (off : Nat) : ∀ (v : List Value) (k : Nat) (cells : Array Value), off + k + v.length ≤ cells.size →
  ((v.zipIdx k).foldl (fun cs (x : Value × Nat) => cs.setIfInBounds (off + x.2) x.1) cells).toList = cells.toList.take (off + k) ++ v ++ cells.toList.drop (off + k + v.length)
 | [], k, cells, _ => by simp
 | a :: v, k, cells, h => by
  simp only [List.zipIdx_cons, List.foldl_cons]
  rw [foldl_place off v (k + 1) _ (by simp; simp at h; omega)]
  simp only [Array.toList_setIfInBounds, List.length_cons] at h ⊢
  have hlt : off + k < cells.toList.length := by simp; omega
  rw [show off + (k + 1) = off + k + 1 by omega, List.take_set, List.take_succ_eq_append_getElem hlt, List.drop_set_of_lt (by omega)]
  have hset : (cells.toList.take (off + k) ++ [cells.toList[off + k]]).set (off + k) a = cells.toList.take (off + k) ++ [a] := by
   rw [List.set_append_right _ _ (by simp; omega)]
   simp [show min (off + k) cells.size = off + k by simp at hlt; omega]
  rw [hset]
  simp [Nat.add_assoc, Nat.add_comm 1]
theorem fill_sim {μ : Mu} {M : Mem} {place : Nat → Option (Nat × Nat)} : ∀ {ps : List (Nat × AV)} {qs : List (Nat × Value)} {cs cs' : List AV} {vs : Array Value},
  ps.length = qs.length → (∀ (i : Nat) p q, ps[i]? = some p → qs[i]? = some q → p.1 = q.1 ∧ VR μ M p.2 q.2) → VRs μ M cs vs.toList → fillA place cs ps = some cs' →
  ∃ vs', Instr.fill place vs qs = some vs' ∧ VRs μ M cs' vs'.toList
 | [], qs, cs, cs', vs, hl, _, hv, h => by
  simp [fillA] at h
  subst h
  cases qs with
  | nil => exact ⟨vs, rfl, hv⟩
  | cons _ _ => simp at hl
 | (i, a) :: ps, qs, cs, cs', vs, hl, hpq, hv, h => by
  cases qs with
  | nil => simp at hl
  | cons q qs =>
   obtain ⟨j, x⟩ := q
   have h0 := hpq 0 (i, a) (j, x) rfl rfl
   obtain ⟨e1, hax⟩ := h0
   simp only at e1 hax
   subst e1
   unfold fillA at h
   cases hp : place i with
   | none => rw [hp] at h; cases h
   | some os =>
    obtain ⟨off, size⟩ := os
    rw [hp] at h
    simp only at h
    split at h
    ·rename_i hsz
     cases hs : spliceL cs off a.cells with
     | none => rw [hs] at h; cases h
     | some c2 =>
      rw [hs] at h
      simp only at h
      obtain ⟨rfl, hle⟩ := spliceL_some hs
      have hc := hax.cells
      have hcl : a.cells.length = x.cells.size := by simpa using hc.1
      have hvl : cs.length = vs.size := by simpa using hv.1
      have hf := foldl_place off x.cells.toList 0 vs (by simp; omega)
      have hf' : (x.cells.zipIdx.foldl (fun cs (c, j) => cs.setIfInBounds (off + j) c) vs).toList = vs.toList.take off ++ x.cells.toList ++ vs.toList.drop (off + x.cells.size) := by
       rw [← Array.foldl_toList, Array.toList_zipIdx]
       simpa using hf
      obtain ⟨vs', h1, h2⟩ := fill_sim (place := place) (ps := ps) (qs := qs) (cs' := cs') (vs := x.cells.zipIdx.foldl (fun cs (c, j) => cs.setIfInBounds (off + j) c) vs)
       (by simpa using hl) (fun k p q hp hq => hpq (k + 1) p q (by simpa using hp) (by simpa using hq))
       (by rw [hf', ← hcl]; exact ((hv.take off).append hc).append (hv.drop _)) h
      refine ⟨vs', ?_, h2⟩
      unfold Instr.fill
      rw [hp]
      simp only
      rw [if_neg (by simp only [Bool.or_eq_true, decide_eq_true_eq, not_or]; omega)]
      exact h1
    ·cases h
end Go.Abs
