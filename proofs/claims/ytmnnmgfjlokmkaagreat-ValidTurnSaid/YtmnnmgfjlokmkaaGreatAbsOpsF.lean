import Derived.Test.YtmnnmgfjlokmkaaGreatAbsOpsE
open Go.RowKit (Below)
namespace Go.Abs
section
variable {P : Program} {B : Nat} {w0 : Anchor} {w : World} {μ : Mu} {M : Mem} {h h' : Heap} {n n' : Nat} {lg : Log}
theorem partA_sim {t : TypeId} {cs : List AV} {vs : Array Value} {off : Nat} {v : AV} (hv : VRs μ M cs vs.toList) (e : partA P t cs off = some v) : ∃ cv, (part t vs off).run P w = .ok cv w ∧ VR μ M v cv := by
 unfold partA at e
 split at e
 ·rename_i k ha hs
  obtain ⟨r, hr, rfl⟩ := mapo e
  have hl := sliceL_len hr
  refine ⟨.agg (vs.extract off (off + k)), by simp [part, run_isAgg' ha, run_sizeOf' hs], ?_⟩
  have := VR.agg' (sliceL_vrs hr hv)
  have he : ((vs.toList.drop off).take k).toArray = vs.extract off (off + k) := by
   apply Array.ext'
   simp [List.take_drop]
  rwa [he] at this
 ·rename_i k ha hs
  obtain ⟨y, hy, hr⟩ := hv.get e
  refine ⟨y, ?_, hr⟩
  have hy' : vs[off]? = some y := by simpa using hy
  simp [part, run_isAgg' ha, hy']
 ·cases e
theorem fieldA_sim {t : TypeId} {x v : AV} {xv : Value} {i : Nat} (hx : VR μ M x xv) (e : fieldA P t x i = some v) : ∃ cv, (Instr.field t xv i).run P w = .ok cv w ∧ VR μ M v cv := by
 unfold fieldA at e
 split at e
 ·rename_i fs cs hu
  split at e
  ·rename_i f hf
   cases hx with
   | agg _ vs h1 h2 =>
    obtain ⟨cv, hc, hr⟩ := partA_sim (w := w) (vs := vs) ⟨by simpa using h1, fun i a v ha hv => h2 i a v ha (by simpa using hv)⟩ e
    exact ⟨cv, by simp [Instr.field, run_underlying hu, hf, asAgg, hc], hr⟩
  ·cases e
 ·cases e
theorem indexA_sim {t : TypeId} {x ix v : AV} {xv iv : Value} (hx : VR μ M x xv) (hi : VR μ M ix iv) (e : indexA P t x ix = some v) : ∃ cv, (Instr.index t xv iv).run P w = .ok cv w ∧ VR μ M v cv := by
 unfold indexA at e
 split at e
 ·cases e
 ·rename_i i hix
  obtain ⟨k, rfl⟩ := intIx_run hi hix
  split at e
  ·rename_i len el cs hu
   split at e
   ·rename_i s hs
    split at e
    ·rename_i hb
     cases hx with
     | agg _ vs h1 h2 =>
      obtain ⟨cv, hc, hr⟩ := partA_sim (w := w) (vs := vs) ⟨by simpa using h1, fun i a v ha hv => h2 i a v ha (by simpa using hv)⟩ e
      exact ⟨cv, by simp [Instr.index, asIntOf, run_underlying hu, hb, run_sizeOf' hs, hc], hr⟩
    ·cases e
   ·cases e
  ·rename_i s hu
   split at e
   ·rename_i hb
    obtain ⟨b, hb2, rfl⟩ := mapo e
    have hxv := hx.str_inv
    subst hxv
    refine ⟨.int .u8 b.toNat, ?_, .int _ _⟩
    have hlt : i.toNat < s.length := (List.getElem?_eq_some_iff.1 hb2).1
    have hget : (⟨s.toArray⟩ : ByteArray)[i.toNat]? = some b := by
     have hsz : (⟨s.toArray⟩ : ByteArray).size = s.length := by simp [ByteArray.size]
     rw [getElem?_pos _ _ (by rw [hsz]; exact hlt)]
     have : (⟨s.toArray⟩ : ByteArray)[i.toNat]'(by rw [hsz]; exact hlt) = s[i.toNat] := rfl
     rw [this]
     rw [List.getElem?_eq_getElem hlt] at hb2
     exact hb2
    simp [Instr.index, asIntOf, run_underlying hu, hb, hget]
   ·cases e
  ·cases e
theorem lenA_sim (sr : SR B w0 μ M h w) {ts : Array TypeId} {ty t : TypeId} {x v : AV} {xv : Value} {args : Array Value} (ht : ts[0]? = some t) (ha : args[0]? = some xv) (hx : VR μ M x xv) (e : lenA P t x h n = some (v, h', n', lg)) :
  h' = h ∧ n' = n ∧ ∃ cv, (Builtin.len_ ts ty args).run P w = .ok cv w ∧ VR μ M v cv := by
 obtain ⟨m, hm⟩ : ∃ m, m = lenA P t x := ⟨_, rfl⟩
 rw [← hm] at e
 unfold lenA at hm
 split at hm
 ·rename_i s hu
  subst hm
  obtain ⟨rfl, rfl, rfl⟩ := pure_some e
  have hxv := hx.str_inv
  subst hxv
  have hsz : (⟨s.toArray⟩ : ByteArray).size = s.length := by simp [ByteArray.size]
  exact ⟨rfl, rfl, _, by simp [Builtin.len_, ht, ha, run_underlying hu, hsz, goInt], .int _ _⟩
 ·rename_i k el hu
  subst hm
  obtain ⟨rfl, rfl, rfl⟩ := pure_some e
  refine ⟨rfl, rfl, .int .i64 k, ?_, .int _ _⟩
  simp only [Builtin.len_, ht, ha, Sem.run_bind, run_underlying hu, Result.andThen_ok]
  cases xv <;> rfl
 ·rename_i el hu
  subst hm
  obtain ⟨rfl, rfl, rfl⟩ := pure_some e
  cases hx
  exact ⟨rfl, rfl, _, by simp [Builtin.len_, ht, ha, run_underlying hu, goInt], .int _ _⟩
 ·rename_i el id off k sz hu
  subst hm
  obtain ⟨rfl, rfl, rfl⟩ := pure_some e
  cases hx
  exact ⟨rfl, rfl, _, by simp [Builtin.len_, ht, ha, run_underlying hu, goInt], .int _ _⟩
 ·rename_i el cs k hu
  subst hm
  obtain ⟨rfl, rfl, rfl⟩ := pure_some e
  cases hx
  exact ⟨rfl, rfl, _, by simp [Builtin.len_, ht, ha, run_underlying hu, goInt], .int _ _⟩
 ·rename_i k el hu
  subst hm
  obtain ⟨rfl, rfl, rfl⟩ := pure_some e
  cases hx
  exact ⟨rfl, rfl, _, by simp [Builtin.len_, ht, ha, run_underlying hu, goInt], .int _ _⟩
 ·rename_i k el id hu
  subst hm
  obtain ⟨o, _, _, _, _, e1, f1, _⟩ := bind_some e
  obtain ⟨ho, rfl, rfl⟩ := get_some e1
  cases o with
  | cells cs => exact (fail_some f1).elim
  | map es =>
   obtain ⟨rfl, rfl, rfl⟩ := pure_some f1
   cases hx with
   | map _ r hr =>
    obtain ⟨r', g1, _, _, _, _, en, cl, g2, g3, _⟩ := sr.live id _ ho
    rw [hr] at g1
    cases g1
    refine ⟨rfl, rfl, .int .i64 en.size, ?_, by rw [g3]; exact .int _ _⟩
    simp [Builtin.len_, ht, ha, run_underlying hu, goInt, Go.getObj, Sem.run, g2]
 ·subst hm
  exact (fail_some e).elim
theorem minmax_sim {isMax : Bool} {xs : List AV} {vs : List Value} {v : AV} {ts : Array TypeId} {ty : TypeId} (hx : VRs μ M xs vs) (e : minmaxA P isMax xs = some v) :
  ∃ cv, (if isMax then Builtin.max_ ts ty vs.toArray else Builtin.min_ ts ty vs.toArray).run P w = .ok cv w ∧ VR μ M v cv := by
 unfold minmaxA at e
 split at e
 ·rename_i us hus
  have huv : us = vs := by
   have key : ∀ (xs : List AV) (vs us : List Value), VRs μ M xs vs → xs.mapM conc = some us → us = vs := by
    intro xs
    induction xs with
    | nil =>
     intro vs us hv he
     simp at he
     subst he
     have := hv.1
     cases vs with
     | nil => rfl
     | cons _ _ => simp at this
    | cons a xs ih =>
     intro vs us hv he
     cases vs with
     | nil => have := hv.1; simp at this
     | cons u vs =>
      rw [VRs.cons_iff] at hv
      rw [List.mapM_cons] at he
      simp only [Option.bind_eq_bind, Option.pure_def] at he
      obtain ⟨y, hy, he⟩ := bindo he
      obtain ⟨z, hz, he⟩ := bindo he
      cases he
      rw [conc_eq hy hv.1, ih vs z hv.2 hz]
   exact key xs vs us hx hus
  subst huv
  obtain ⟨r, h1, h2⟩ := bindo e
  refine ⟨r, ?_, ofv_vr h2⟩
  have := spr_run h1 w
  cases isMax
  ·simpa [Builtin.min_] using this
  ·simpa [Builtin.max_] using this
 ·cases e
theorem makeSliceA_sim (sr : SR B w0 μ M h w) (hB : B ≤ w0.w.heap.size) (hfree : ∀ id, n ≤ id → id < n' → μ id = none) {t : TypeId} {l c v : AV} {lv cv : Value} (hl : VR μ M l lv) (hc : VR μ M c cv)
  (e : makeSliceA P t l c h n = some (v, h', n', lg)) : Step1 P B w0 μ M n n' h' w v (valS (Instr.makeSlice t lv cv)) := by
 unfold makeSliceA at e
 obtain ⟨el, _, _, _, _, e1, f1, _⟩ := bind_some e
 obtain ⟨he, rfl, rfl⟩ := lift_some e1
 obtain ⟨s, _, _, _, _, e2, f2, _⟩ := bind_some f1
 obtain ⟨hs, rfl, rfl⟩ := lift_some e2
 obtain ⟨by_, _, _, _, _, e3, f3, _⟩ := bind_some f2
 obtain ⟨hby, rfl, rfl⟩ := lift_some e3
 obtain ⟨z, _, _, _, _, e4, f4, _⟩ := bind_some f3
 obtain ⟨hz, rfl, rfl⟩ := lift_some e4
 obtain ⟨zv, _, hzo, i, hi, hiz⟩ := zeroOf_run hz
 obtain ⟨i', hi', rfl⟩ := szOf_info hs
 rw [hi] at hi'
 cases hi'
 obtain ⟨i', hi', rfl⟩ := bytesOf_info hby
 rw [hi] at hi'
 cases hi'
 have hzv := ofv_vr (μ := μ) (M := M) hzo
 obtain ⟨a, _, _, _, _, e6, f6, _⟩ := bind_some f4
 obtain ⟨ha, rfl, rfl⟩ := lift_some e6
 obtain ⟨b, _, _, _, _, e7, f7, _⟩ := bind_some f6
 obtain ⟨hb, rfl, rfl⟩ := lift_some e7
 have hi64 : ∀ {x : AV} {xv : Value} {k : Int}, VR μ M x xv → i64A x = some k → xv = .int .i64 k := by
  intro x xv k hx hk
  cases hx <;> try (simp [i64A] at hk; done)
  rename_i kk m
  cases kk <;> simp [i64A] at hk
  rw [hk]
 rw [hi64 hl ha, hi64 hc hb]
 split at f7
 ·rename_i hcond
  obtain ⟨rfl, h0, hle, hpos, hzl, hz1⟩ := hcond
  obtain ⟨id, _, _, _, _, e5, f5, _⟩ := bind_some f7
  obtain ⟨rfl, rfl, rfl⟩ := new_some e5
  obtain ⟨rfl, rfl, rfl⟩ := pure_some f5
  have hn := hfree id (Nat.le_refl _) (by omega)
  have hle1 : a ≤ a * ((i.bytes : Int) + 1) := by
   have : a * 1 ≤ a * ((i.bytes : Int) + 1) := Int.mul_le_mul_of_nonneg_left (by omega) h0
   omega
  have hle2 : (i.bytes : Int) * a ≤ a * ((i.bytes : Int) + 1) := by
   rw [Int.mul_add, Int.mul_comm]
   omega
  have hrun := run_make (P := P) w t el i zv (elem_of he) hi hiz .i64 .i64 a a h0 (Int.le_refl _) (by omega) (by omega)
  have hlen : (zerosA z.cells (a.toNat * i.size)).length = a.toNat * i.size := by simp [zerosA]
  refine Step1.val hrun (sr.newCells (sr.le_size hB) hn _ _ _ _ (a.toNat * i.size) (by omega) (by simp [size_madeCells]) (by simp) ?_) (upd_le hn _) (upd_other _) ?_
  ·rw [List.take_of_length_le (by simp [size_madeCells, hlen])]
   exact zeros_vrs hzv (by omega) _
  ·exact .sl id 0 a.toNat i.size a.toNat ⟨w.heap.size, 0, a.toNat * i.size⟩ _ (by simp [upd]) (Nat.le_refl _) (fun _ => ⟨by simp, by simp⟩)
 ·exact (fail_some f7).elim
theorem keyEq_now {d : TypeDesc} {P : Program} {t : TypeId} {k e : AV} {kv ev : Value} {b : Bool} (hd : P.underlying t = some d) (hkind : keyKind P t k = true) (hk : VR μ M k kv) (he : VR μ M e ev) (hb : keyEq k e = some b) :
  Instr.sameNow d kv ev = some b ∧ (b = true → Instr.sameBits 10000 ev kv = true) := by
 unfold keyKind at hkind
 rw [hd] at hkind
 cases hk <;> cases d <;> simp at hkind <;> cases he <;> simp [keyEq] at hb
 ·subst hb; exact ⟨rfl, fun h => by simp at h; subst h; simp [Instr.sameBits]⟩
 ·obtain ⟨rfl, rfl⟩ := hb
  refine ⟨by simp [Instr.sameNow], fun h => ?_⟩
  simp at h
  subst h
  simp [Instr.sameBits]
 ·rename_i s s'
  subst hb
  refine ⟨rfl, fun h => ?_⟩
  have hd : s.data = s'.data := beq_iff_eq.1 h
  have : s = s' := by
   cases s
   cases s'
   simp only at hd
   rw [hd]
  subst this
  exact h
theorem find_now {d : TypeDesc} {t : TypeId} {k : AV} {kv : Value} (hd : P.underlying t = some d) (hkind : keyKind P t k = true) (hk : VR μ M k kv) :
  ∀ {es : List (AV × AV)} {en : List MapEntry} {i : Nat} {r : Option (Nat × AV)}, es.length = en.length → (∀ (j : Nat) e x, es[j]? = some e → en[j]? = some x → VR μ M e.1 x.key ∧ VR μ M e.2 x.val) → findA k es i = some r →
  (r = none ∧ Instr.findNow d kv en i = some none) ∨ ∃ j v x, r = some (i + j, v) ∧ Instr.findNow d kv en i = some (some (i + j, x.val)) ∧ en[j]? = some x ∧ VR μ M v x.val ∧ Instr.sameBits 10000 x.key kv = true
 | [], en, i, r, hl, _, e => by
  cases en with
  | cons _ _ => simp at hl
  | nil => simp [findA] at e; exact .inl ⟨e.symm, rfl⟩
 | q :: es, en, i, r, hl, hr, e => by
  cases en with
  | nil => simp at hl
  | cons x en =>
   have h0 := hr 0 q x rfl rfl
   unfold findA at e
   cases hb : keyEq k q.1 with
   | none => rw [hb] at e; cases e
   | some b =>
    rw [hb] at e
    obtain ⟨h1, h2⟩ := keyEq_now hd hkind hk h0.1 hb
    cases b with
    | true =>
     simp only [Option.some.injEq] at e
     exact .inr ⟨0, q.2, x, e.symm, by simp [Instr.findNow, h1], rfl, h0.2, h2 rfl⟩
    | false =>
     simp only at e
     rcases find_now (i := i + 1) hd hkind hk (by simpa using hl) (fun j e x he hx => hr (j + 1) e x (by simpa using he) (by simpa using hx)) e with ⟨g1, g2⟩ | ⟨j, v, y, g1, g2, g3, g4, g5⟩
     ·exact .inl ⟨g1, by simp [Instr.findNow, h1, g2]⟩
     ·exact .inr ⟨j + 1, v, y, by rw [g1]; simp; omega, by simp [Instr.findNow, h1, g2]; omega, by simpa using g3, g4, g5⟩
theorem checkKey_run {b : Bool} {t : TypeId} {k : AV} {kv : Value} (hkind : keyKind P t k = true) (hk : VR μ M k kv) : (Instr.checkKey b 10000 t kv).run P w = .ok () w := by
 unfold keyKind at hkind
 cases hd : P.underlying t with
 | none => rw [hd] at hkind; simp at hkind
 | some d =>
  rw [hd] at hkind
  unfold Instr.checkKey
  rw [Sem.run_bind, run_underlying hd]
  rw [Result.andThen_ok]
  cases d <;> first | (exfalso; revert hkind; simp; done) | skip
  all_goals (cases hk <;> first | rfl | (exfalso; revert hkind; simp; done))
theorem lookupA_sim (sr : SR B w0 μ M h w) {t : TypeId} {x k v : AV} {xv kv : Value} {ok : Bool} (hx : VR μ M x xv) (hk : VR μ M k kv) (e : lookupA P t x k ok h n = some (v, h', n', lg)) :
  h' = h ∧ n' = n ∧ ∃ cv, (Instr.lookup t xv kv ok).run P w = .ok cv w ∧ VR μ M v cv := by
 unfold lookupA at e
 cases hu : P.underlying t with
 | none => rw [hu] at e; exact (fail_some e).elim
 | some d =>
  rw [hu] at e
  cases d with
  | map kt et =>
   simp only at e
   split at e
   ·rename_i hkind
    obtain ⟨es, h1, n1, _, _, e1, f1, _⟩ := bind_some e
    have hes : h1 = h ∧ n1 = n ∧ ∃ en : Array MapEntry, es.length = en.size ∧ (∀ (i : Nat) e x, es[i]? = some e → en[i]? = some x → VR μ M e.1 x.key ∧ VR μ M e.2 x.val) ∧
      ((xv = .map none ∧ en = #[]) ∨ ∃ r cl, xv = .map (some r) ∧ w.heap[r]? = some (.map en cl)) := by
     cases hx with
     | nilmap =>
      obtain ⟨rfl, rfl, rfl⟩ := pure_some e1
      exact ⟨rfl, rfl, #[], rfl, by simp, .inl ⟨rfl, rfl⟩⟩
     | map id r hr =>
      obtain ⟨o, _, _, _, _, g1, g2, _⟩ := bind_some e1
      obtain ⟨ho, rfl, rfl⟩ := get_some g1
      cases o with
      | cells cs => exact (fail_some g2).elim
      | map es' =>
       obtain ⟨rfl, rfl, rfl⟩ := pure_some g2
       obtain ⟨r', q1, _, _, _, _, en, cl, q2, q3, q4⟩ := sr.live id _ ho
       rw [hr] at q1
       cases q1
       exact ⟨rfl, rfl, en, q3, q4, .inr ⟨r.b, cl, rfl, q2⟩⟩
     | _ => exact (fail_some e1).elim
    obtain ⟨rfl, rfl, en, hlen, hrel, hrun⟩ := hes
    have hkd : ∃ d, P.underlying kt = some d := by
     cases hd : P.underlying kt with
     | none => unfold keyKind at hkind; rw [hd] at hkind; simp at hkind
     | some d => exact ⟨d, rfl⟩
    obtain ⟨d, hd⟩ := hkd
    cases hf : findA k es 0 with
    | none => rw [hf] at f1; exact (fail_some f1).elim
    | some r =>
     rw [hf] at f1
     cases hz : zeroOf P et with
     | none => rw [hz] at f1; cases r <;> exact (fail_some f1).elim
     | some z =>
      rw [hz] at f1
      obtain ⟨zv, hzr, hzo, _⟩ := zeroOf_run hz
      have hzv := ofv_vr (μ := μ) (M := M) hzo
      have hck := fun b => checkKey_run (w := w) (b := b) hkind hk
      rcases find_now hd hkind hk (en := en.toList) (by simpa using hlen) (fun j e x he hx => hrel j e x he (by simpa using hx)) hf with ⟨rfl, g2⟩ | ⟨j, u, y, rfl, g2, g3, g4, g5⟩
      ·simp only at f1
       obtain ⟨rfl, rfl, rfl⟩ := pure_some f1
       refine ⟨rfl, rfl, if ok then .tuple #[zv, .bool false] else zv, ?_, ?_⟩
       ·rcases hrun with ⟨rfl, rfl⟩ | ⟨r, cl, rfl, hw⟩
        ·simp only [Instr.lookup, Sem.run_bind, run_underlying hu, Result.andThen_ok, Sem.run_pure, hck, Instr.findKey, run_underlying hd, g2, hzr]
        ·have hg : (Go.getObj r).run P w = .ok (.map en cl) w := by simp [Go.getObj, Sem.run, hw]
         simp only [Instr.lookup, Sem.run_bind, run_underlying hu, Result.andThen_ok, hg, Sem.run_pure, hck, Instr.findKey, run_underlying hd, g2, hzr]
       ·cases ok
        ·exact hzv
        ·exact .tup _ _ rfl (fun i a v ha hv => (VRs.cons hzv (.cons (.bool false) .nil)).2 i a v ha (by simpa using hv))
      ·simp only at f1
       obtain ⟨rfl, rfl, rfl⟩ := pure_some f1
       refine ⟨rfl, rfl, if ok then .tuple #[y.val, .bool true] else y.val, ?_, ?_⟩
       ·rcases hrun with ⟨rfl, rfl⟩ | ⟨r, cl, rfl, hw⟩
        ·simp only [Instr.lookup, Sem.run_bind, run_underlying hu, Result.andThen_ok, Sem.run_pure, hck, Instr.findKey, run_underlying hd, g2]
        ·have hg : (Go.getObj r).run P w = .ok (.map en cl) w := by simp [Go.getObj, Sem.run, hw]
         simp only [Instr.lookup, Sem.run_bind, run_underlying hu, Result.andThen_ok, hg, Sem.run_pure, hck, Instr.findKey, run_underlying hd, g2]
       ·cases ok
        ·exact g4
        ·exact .tup _ _ rfl (fun i a v ha hv => (VRs.cons g4 (.cons (.bool true) .nil)).2 i a v ha (by simpa using hv))
   ·exact (fail_some e).elim
  | _ => exact (fail_some e).elim
end
end Go.Abs
