import Derived.Test.YtmnnmgfjlokmkaaGreatAbsSlimW
import Derived.Laws.StructEq
namespace Go.Abs
section
variable {P : Program} {A : Ann} {f : Nat} {E : Lk} {rg : Nat → AV} {h : Heap}
theorem spr_bind {α β : Type} {g : α → Sem β} {a : α} : ∀ {x : Sem α}, spr P x = some a → spr P (x >>= g) = spr P (g a)
 | .pure b, h => by simp only [spr, Option.some.injEq] at h; subst h; rfl
 | .program k, h => spr_bind (x := k P) h
 | .mark _ k, h => spr_bind (x := k) h
theorem spr_underlying {t : TypeId} {d : TypeDesc} (h : P.underlying t = some d) : spr P (underlying t) = some d := by
 show spr P (match P.underlying t with
  | some d => pure d
  | none => stuck "no such type") = some d
 rw [h]
 rfl
theorem omap {α β : Type} {x : Option α} {g : α → β} {b : β} (h : x.map g = some b) : ∃ a, x = some a ∧ g a = b := by
 cases x with
 | none => cases h
 | some a => exact ⟨a, rfl, by simpa using h⟩
theorem cellsN_some {t : TypeId} {r : Option Nat} (h : cellsN P t = some r) : (∃ n, r = some n ∧ aggOf P t = some true ∧ szOf P t = some n) ∨ (r = none ∧ aggOf P t = some false ∧ ∃ n, szOf P t = some n) := by
 unfold cellsN at h
 split at h
 ·rename_i n h1 h2
  exact .inl ⟨n, by simpa using h.symm, h1, h2⟩
 ·rename_i n h1 h2
  exact .inr ⟨by simpa using h.symm, h1, n, h2⟩
 ·cases h
theorem evI_sound (hs : Sat E rg) {lo : Option Operand} {slo : Option SX} {d l : Int} (hlo : slOpt A lo = some slo) (hl : evI E d slo = some l) :
  ∃ r, evo (evalA A rg) lo = some r ∧ ((r = none ∧ l = d) ∨ ∃ a, r = some a ∧ intIx a = some l) := by
 cases lo with
 | none =>
  simp only [slOpt, Option.some.injEq] at hlo
  subst hlo
  simp only [evI, Option.some.injEq] at hl
  exact ⟨none, rfl, .inl ⟨rfl, hl.symm⟩⟩
 | some x =>
  obtain ⟨y, hy, rfl⟩ := omap hlo
  simp only [evI] at hl
  split at hl
  ·rename_i k n hn
   simp only [Option.some.injEq] at hl
   subst hl
   exact ⟨some (.int k n), by simp [evo, ev_sound hs hy hn], .inr ⟨_, rfl, rfl⟩⟩
  ·cases hl
theorem bounds_sound {len : Nat} {lo hi : Option AV} {l h : Int} (hlo : (lo = none ∧ l = 0) ∨ ∃ a, lo = some a ∧ intIx a = some l) (hhi : (hi = none ∧ h = len) ∨ ∃ a, hi = some a ∧ intIx a = some h)
  (hb : 0 ≤ l ∧ l ≤ h ∧ h ≤ len) : boundsA len lo hi = some (l.toNat, h.toNat) := by
 obtain ⟨b1, b2, b3⟩ := hb
 unfold boundsA
 rcases hhi with ⟨rfl, rfl⟩ | ⟨a, rfl, ha⟩
 ·rcases hlo with ⟨rfl, rfl⟩ | ⟨c, rfl, hc⟩
  ·simp
  ·simp only [hc]
   rw [if_pos ⟨b1, by omega⟩]
   simp
 ·simp only [ha]
  rw [if_pos ⟨by omega, b3⟩]
  rcases hlo with ⟨rfl, rfl⟩ | ⟨c, rfl, hc⟩
  ·simp
  ·simp only [hc]
   rw [if_pos ⟨b1, b2⟩]
theorem spr_eqb {t : TypeId} {a b : Bool} (ht : P.underlying t = some .bool) : spr P (Op.equal t (.bool a) (.bool b)) = some (a == b) := by
 show spr P (Op.equalIn (9999 + 1) t (.bool a) (.bool b)) = _
 unfold Op.equalIn
 rw [spr_bind (spr_underlying ht)]
 rfl
theorem bin_beq {t : TypeId} {ox oy : Operand} {a b : Bool} (ht : P.underlying t = some .bool) : binA P .eql t ox oy (.bool a) (.bool b) = some (.bool (a == b)) := by
 have e : (do eqGuard .eql t ox oy (.bool a) (.bool b); binOp .eql t (.bool a) (.bool b) : Sem Value) = (Op.equal t (.bool a) (.bool b) >>= fun r => pure (.bool r)) := rfl
 unfold binA
 simp only [conc, toScalar, e]
 rw [spr_bind (spr_eqb ht)]
 rfl
theorem bin_bne {t : TypeId} {ox oy : Operand} {a b : Bool} (ht : P.underlying t = some .bool) : binA P .neq t ox oy (.bool a) (.bool b) = some (.bool (!(a == b))) := by
 have e : (do eqGuard .neq t ox oy (.bool a) (.bool b); binOp .neq t (.bool a) (.bool b) : Sem Value) = (Op.equal t (.bool a) (.bool b) >>= fun r => pure (.bool (!r))) := rfl
 unfold binA
 simp only [conc, toScalar, e]
 rw [spr_bind (spr_eqb ht)]
 rfl
theorem flat_conc : ∀ {cs : List AV}, cs.all scal = true → ∃ vs : List Value, cs.mapM toScalar = some vs ∧ vs.length = cs.length ∧ ∀ i, (hi : i < cs.length) → vs[i]? = toScalar cs[i]
 | [], _ => ⟨[], rfl, rfl, fun i hi => absurd hi (by simp)⟩
 | a :: l, h => by
  simp only [List.all_cons, Bool.and_eq_true] at h
  obtain ⟨vs, h1, h2, h3⟩ := flat_conc h.2
  have ha : ∃ v, toScalar a = some v := by
   have := h.1
   cases a <;> first | exact ⟨_, rfl⟩ | cases this
  obtain ⟨v, hv⟩ := ha
  refine ⟨v :: vs, by simp [List.mapM_cons, hv, h1], by simp [h2], fun i hi => ?_⟩
  cases i with
  | zero => simp [hv]
  | succ i => simpa using h3 i (by simpa using hi)
theorem tagT_some {t : TypeId} {n : Nat} (h : tagT P t = some n) : (n = 0 ∧ ∃ k, P.underlying t = some (.int k)) ∨ (n = 1 ∧ P.underlying t = some .string) ∨ (n = 2 ∧ P.underlying t = some .bool) := by
 unfold tagT at h
 split at h
 ·rename_i k hk; exact .inl ⟨by simpa using h.symm, k, hk⟩
 ·rename_i hk; exact .inr (.inl ⟨by simpa using h.symm, hk⟩)
 ·rename_i hk; exact .inr (.inr ⟨by simpa using h.symm, hk⟩)
 ·cases h
theorem spr_part {t : TypeId} {n : Nat} {xs : Array Value} {o : Nat} {v : Value} (h : tagT P t = some n) (hv : xs[o]? = some v) : spr P (part t xs o) = some v := by
 have e : spr P (isAgg t) = some false := by
  unfold isAgg
  rcases tagT_some h with ⟨_, k, hk⟩ | ⟨_, hk⟩ | ⟨_, hk⟩ <;> (rw [spr_bind (spr_underlying hk)]; rfl)
 unfold part
 rw [spr_bind e]
 simp only [Bool.false_eq_true, if_false, hv]
 rfl
theorem spr_eqC {d n : Nat} {t : TypeId} {a b : AV} {u v : Value} {r : Bool} (ht : tagT P t = some n) (ha : toScalar a = some u) (hb : toScalar b = some v) (h : eqC n a b = some r) :
  spr P (Op.equalIn (d + 1) t u v) = some r := by
 rcases tagT_some ht with ⟨rfl, k', hu⟩ | ⟨rfl, hu⟩ | ⟨rfl, hu⟩
 ·cases a <;> cases b <;> simp only [eqC, reduceCtorEq] at h
  simp only [toScalar, Option.some.injEq] at ha hb
  subst ha; subst hb
  split at h
  ·rename_i hkk
   simp only [Option.some.injEq] at h
   subst h
   subst hkk
   unfold Op.equalIn
   rw [spr_bind (spr_underlying hu)]
   simp only [if_true]
   rfl
  ·cases h
 ·cases a <;> cases b <;> simp only [eqC, reduceCtorEq] at h
  simp only [toScalar, Option.some.injEq] at ha hb
  subst ha; subst hb
  simp only [Option.some.injEq] at h
  subst h
  unfold Op.equalIn
  rw [spr_bind (spr_underlying hu)]
  show some _ = some _
  congr 1
  rw [beq_toListBytes, ByteArray.toList_eq, ByteArray.toList_eq]
 ·cases a <;> cases b <;> simp only [eqC, reduceCtorEq] at h
  simp only [toScalar, Option.some.injEq] at ha hb
  subst ha; subst hb
  simp only [Option.some.injEq] at h
  subst h
  unfold Op.equalIn
  rw [spr_bind (spr_underlying hu)]
  rfl
theorem spr_fields {d : Nat} {xs ys : Array Value} {cs ds : List AV} (hx : ∀ (i : Nat) (a : AV), cs[i]? = some a → ∃ v, xs[i]? = some v ∧ toScalar a = some v) (hy : ∀ (i : Nat) (a : AV), ds[i]? = some a → ∃ v, ys[i]? = some v ∧ toScalar a = some v) :
  ∀ {fs : List Field} {offs : List (Nat × Nat)} {r : Bool}, tagsF P fs = some offs → eqCells cs ds offs = some r → spr P (Op.eqFields (d + 1) xs ys fs) = some r
 | [], offs, r, h, e => by
  simp only [tagsF, Option.some.injEq] at h
  subst h
  simp only [eqCells, Option.some.injEq] at e
  subst e
  rfl
 | f :: fs, offs, r, h, e => by
  simp only [tagsF] at h
  split at h
  ·rename_i t rest ht hrest
   split at h
   ·cases h
   ·rename_i hn
    simp only [Option.some.injEq] at h
    subst h
    simp only [eqCells] at e
    split at e
    ·rename_i a b ha hb
     obtain ⟨u, hu, hu'⟩ := hx _ _ ha
     obtain ⟨v, hv, hv'⟩ := hy _ _ hb
     unfold Op.eqFields
     rw [if_pos hn, spr_bind (spr_part ht hu), spr_bind (spr_part ht hv)]
     split at e
     ·rename_i hc
      rw [spr_bind (spr_eqC ht hu' hv' hc)]
      simp only [Bool.not_true, Bool.false_eq_true, if_false]
      exact spr_fields hx hy hrest e
     ·rename_i hc
      rw [spr_bind (spr_eqC ht hu' hv' hc)]
      simp only [Option.some.injEq] at e
      subst e
      rfl
     ·cases e
    ·cases e
  ·cases h
theorem spr_bindE {α β : Type} {g : α → Sem β} (x : Sem α) : spr P (x >>= g) = (spr P x).bind fun a => spr P (g a) := by
 induction x with
 | program k ih => exact ih P
 | mark _ k ih => exact ih
 | _ => rfl
theorem spr_equal_struct {d : Nat} {t : TypeId} {fs : Array Field} {xs ys : Array Value} {r : Bool} (ht : P.underlying t = some (.struct fs)) (hp : P.stoodInHeld t = false) (h : spr P (Op.eqFields d xs ys fs.toList) = some r) :
  spr P (Op.equalIn (d + 1) t (.agg xs) (.agg ys)) = some r := by
 unfold Op.equalIn
 rw [spr_bind (spr_underlying ht)]
 have e1 : spr P (program) = some P := rfl
 simp only []
 rw [spr_bind e1]
 simp only [hp, Bool.false_eq_true, if_false]
 rw [← Array.forIn_toList]
 generalize fs.toList = l at h
 clear ht
 induction l with
 | nil =>
  simp only [Op.eqFields] at h
  exact h
 | cons f l ih =>
  rw [List.forIn_cons]
  unfold Op.eqFields at h
  split at h
  ·rename_i hn
   rw [if_pos hn]
   rw [spr_bindE] at h
   cases h1 : spr P (part f.type xs f.offset) with
   | none => rw [h1] at h; cases h
   | some a =>
    rw [h1, Option.bind_some, spr_bindE] at h
    cases h2 : spr P (part f.type ys f.offset) with
    | none => rw [h2] at h; cases h
    | some b =>
     rw [h2, Option.bind_some, spr_bindE] at h
     cases h3 : spr P (Op.equalIn d f.type a b) with
     | none => rw [h3] at h; cases h
     | some e =>
      rw [h3, Option.bind_some] at h
      rw [spr_bindE, spr_bindE, spr_bindE, h1, Option.bind_some, spr_bindE, h2, Option.bind_some, spr_bindE, h3, Option.bind_some]
      cases e with
      | true =>
       simp only [Bool.not_true, Bool.false_eq_true, if_false] at h ⊢
       have := ih h
       rw [spr_bindE] at this
       exact this
      | false =>
       simp only [Bool.not_false, if_true] at h ⊢
       exact h
  ·rename_i hn
   rw [if_neg hn]
   have := ih h
   rw [spr_bindE] at this ⊢
   exact this
theorem flat_at {cs : List AV} {vs : List Value} (h2 : vs.length = cs.length) (h3 : ∀ i, (hi : i < cs.length) → vs[i]? = toScalar cs[i]) (i : Nat) (a : AV) (h : cs[i]? = some a) : ∃ v, vs.toArray[i]? = some v ∧ toScalar a = some v := by
 obtain ⟨hi, rfl⟩ := List.getElem?_eq_some_iff.1 h
 have e := h3 i hi
 have hv : vs[i]? = some vs[i] := List.getElem?_eq_some_iff.2 ⟨by omega, rfl⟩
 refine ⟨vs[i], by simp [hv], ?_⟩
 rw [← e, hv]
theorem bin_eqs {t : TypeId} {fs : Array Field} {ox oy : Operand} {cs ds : List AV} {offs : List (Nat × Nat)} {r neg : Bool} (ht : P.underlying t = some (.struct fs)) (hf : flatS P t fs = some offs) (hc : cs.all scal = true) (hd : ds.all scal = true)
  (h : eqCells cs ds offs = some r) : binA P (if neg then .neq else .eql) t ox oy (.agg cs) (.agg ds) = some (.bool (if neg then !r else r)) := by
 unfold flatS at hf
 split at hf
 ·cases hf
 rename_i hn
 simp only [Bool.or_eq_true, not_or, Bool.not_eq_true] at hn
 obtain ⟨vs, a1, a2, a3⟩ := flat_conc hc
 obtain ⟨ws, b1, b2, b3⟩ := flat_conc hd
 have e := spr_fields (d := 9998) (flat_at a2 a3) (flat_at b2 b3) hf h
 have e2 : spr P (Op.equal t (.agg vs.toArray) (.agg ws.toArray)) = some r := spr_equal_struct (d := 9999) ht hn.1 e
 have g : ∀ op, (op = .eql ∨ op = .neq) → spr P (eqGuard op t ox oy (.agg vs.toArray) (.agg ws.toArray)) = some () := by
  intro op hop
  have e1 : spr P (program) = some P := rfl
  unfold eqGuard
  rcases hop with rfl | rfl <;> simp only [Bool.not_true, Bool.false_eq_true, if_false] <;> rw [spr_bind e1, spr_bind e1] <;> simp only [hn.2, Bool.not_false, if_true] <;> rfl
 unfold binA
 simp only [conc, a1, b1, Option.map_some]
 cases neg with
 | false =>
  simp only [Bool.false_eq_true, if_false]
  rw [spr_bind (g _ (.inl rfl))]
  show (spr P (Op.equal t (.agg vs.toArray) (.agg ws.toArray) >>= fun r => pure (.bool r))).bind ofv = _
  rw [spr_bind e2]
  rfl
 | true =>
  simp only [if_true]
  rw [spr_bind (g _ (.inr rfl))]
  show (spr P (Op.equal t (.agg vs.toArray) (.agg ws.toArray) >>= fun r => pure (.bool (!r)))).bind ofv = _
  rw [spr_bind e2]
  rfl
theorem spr_equal_array {d : Nat} {t e : TypeId} {n g : Nat} {xs ys : Array Value} {cs ds : List AV} {r : Bool} (ht : P.underlying t = some (.array n e)) (hg : tagT P e = some g) (hs : szOf P e = some 1)
  (hx : ∀ (i : Nat) (a : AV), cs[i]? = some a → ∃ v, xs[i]? = some v ∧ toScalar a = some v) (hy : ∀ (i : Nat) (a : AV), ds[i]? = some a → ∃ v, ys[i]? = some v ∧ toScalar a = some v)
  (h : eqCells cs ds ((List.range' 0 n).map fun i => (i, g)) = some r) : spr P (Op.equalIn (d + 1 + 1) t (.agg xs) (.agg ys)) = some r := by
 unfold Op.equalIn
 rw [spr_bind (spr_underlying ht)]
 have e1 : spr P (sizeOf e) = some 1 := by
  unfold szOf at hs
  obtain ⟨i, hi, h1⟩ := Option.map_eq_some_iff.1 hs
  have e0 : spr P (program) = some P := rfl
  unfold sizeOf typeInfo
  rw [spr_bindE, spr_bindE, e0, Option.bind_some, hi]
  show some i.size = some 1
  rw [h1]
 simp only []
 rw [spr_bind e1]
 rw [Std.Legacy.Range.forIn_eq_forIn_range']
 simp only [Std.Legacy.Range.size, Nat.sub_zero, Nat.add_sub_cancel, Nat.div_one]
 clear ht
 generalize 0 = m at h ⊢
 induction n generalizing m with
 | zero =>
  simp only [List.range'_zero, List.map_nil, eqCells] at h
  exact h
 | succ n ih =>
  rw [List.range'_succ, List.map_cons] at h
  rw [List.range'_succ, List.forIn_cons]
  simp only [eqCells] at h
  split at h
  ·rename_i a b ha hb
   obtain ⟨u, hu, hu'⟩ := hx _ _ ha
   obtain ⟨v, hv, hv'⟩ := hy _ _ hb
   have p1 : spr P (part e xs (m * 1)) = some u := by rw [Nat.mul_one]; exact spr_part hg hu
   have p2 : spr P (part e ys (m * 1)) = some v := by rw [Nat.mul_one]; exact spr_part hg hv
   split at h
   ·rename_i hc
    have p3 := spr_eqC (d := d) hg hu' hv' hc
    have := ih (m + 1) h
    rw [spr_bindE, spr_bindE, spr_bindE, p1, Option.bind_some, spr_bindE, p2, Option.bind_some, spr_bindE, p3, Option.bind_some]
    simp only [Bool.not_true, Bool.false_eq_true, if_false]
    rw [spr_bindE] at this
    exact this
   ·rename_i hc
    have p3 := spr_eqC (d := d) hg hu' hv' hc
    rw [spr_bindE, spr_bindE, spr_bindE, p1, Option.bind_some, spr_bindE, p2, Option.bind_some, spr_bindE, p3, Option.bind_some]
    simp only [Option.some.injEq] at h
    subst h
    rfl
   ·cases h
  ·cases h
theorem bin_eqa {t e : TypeId} {n : Nat} {ox oy : Operand} {cs ds : List AV} {offs : List (Nat × Nat)} {r neg : Bool} (ht : P.underlying t = some (.array n e)) (hf : flatA P t n e = some offs) (hc : cs.all scal = true) (hd : ds.all scal = true)
  (h : eqCells cs ds offs = some r) : binA P (if neg then .neq else .eql) t ox oy (.agg cs) (.agg ds) = some (.bool (if neg then !r else r)) := by
 unfold flatA at hf
 split at hf
 ·cases hf
 rename_i hn
 simp only [Bool.not_eq_true] at hn
 split at hf
 ·rename_i g hg hs
  split at hf
  ·simp only [Option.some.injEq] at hf
   subst hf
   obtain ⟨vs, a1, a2, a3⟩ := flat_conc hc
   obtain ⟨ws, b1, b2, b3⟩ := flat_conc hd
   have e2 : spr P (Op.equal t (.agg vs.toArray) (.agg ws.toArray)) = some r := spr_equal_array (d := 9998) ht hg hs (flat_at a2 a3) (flat_at b2 b3) h
   have g : ∀ op, (op = .eql ∨ op = .neq) → spr P (eqGuard op t ox oy (.agg vs.toArray) (.agg ws.toArray)) = some () := by
    intro op hop
    have e1 : spr P (program) = some P := rfl
    unfold eqGuard
    rcases hop with rfl | rfl <;> simp only [Bool.not_true, Bool.false_eq_true, if_false] <;> rw [spr_bind e1, spr_bind e1] <;> simp only [hn, Bool.not_false, if_true] <;> rfl
   unfold binA
   simp only [conc, a1, b1, Option.map_some]
   cases neg with
   | false =>
    simp only [Bool.false_eq_true, if_false]
    rw [spr_bind (g _ (.inl rfl))]
    show (spr P (Op.equal t (.agg vs.toArray) (.agg ws.toArray) >>= fun r => pure (.bool r))).bind ofv = _
    rw [spr_bind e2]
    rfl
   | true =>
    simp only [if_true]
    rw [spr_bind (g _ (.inr rfl))]
    show (spr P (Op.equal t (.agg vs.toArray) (.agg ws.toArray) >>= fun r => pure (.bool (!r)))).bind ofv = _
    rw [spr_bind e2]
    rfl
  ·cases hf
 ·cases hf
theorem mnx_fold {mx : Bool} {k : IntKind} : ∀ {l : List AV} {a m : Int}, mnxI mx k a l = some m → ∃ vs, l.mapM conc = some vs ∧ spr P (vs.foldlM (if mx then Builtin.max2 else Builtin.min2) (.int k a)) = some (.int k m)
 | [], a, m, h => by
  simp only [mnxI, Option.some.injEq] at h
  subst h
  exact ⟨[], rfl, rfl⟩
 | v :: l, a, m, h => by
  cases v with
  | int k' b =>
   simp only [mnxI] at h
   split at h
   ·rename_i hk
    subst hk
    obtain ⟨vs, h1, h2⟩ := mnx_fold h
    refine ⟨.int k b :: vs, ?_, ?_⟩
    ·simp [List.mapM_cons, conc, toScalar, h1]
    ·cases mx with
     | true =>
      have e : (if b > a then b else a) = max a b := by omega
      simp only [if_true, List.foldlM_cons, Builtin.max2, e] at h2 ⊢
      exact h2
     | false =>
      have e : (if b < a then b else a) = min a b := by omega
      simp only [Bool.false_eq_true, if_false, List.foldlM_cons, Builtin.min2, e] at h2 ⊢
      exact h2
   ·cases h
  | _ => simp [mnxI] at h
theorem mnx_sound {mx : Bool} {args : Array Operand} {ts : Array TypeId} {l : List SX} {p : Prop} {v : AV} (hs : Sat E rg) (hl : slXs A args.toList = some l) (hv : sv E (.mnx mx l) = some (p, v)) :
  opM P (evalA A rg) (.call { callee := .builtin (if mx then .max else .min), args := args, argTypes := ts }) = AM.pure v := by
 simp only [sv] at hv
 split at hv
 ·rename_i k a r ha
  split at hv
  ·rename_i m hm
   simp only [Option.some.injEq, Prod.mk.injEq] at hv
   obtain ⟨_, rfl⟩ := hv
   obtain ⟨vs, h1, h2⟩ := mnx_fold (P := P) hm
   have e : minmaxA P mx (.int k a :: r) = some (.int k m) := by
    unfold minmaxA
    have : (AV.int k a :: r).mapM conc = some (.int k a :: vs) := by simp [List.mapM_cons, conc, toScalar, h1]
    rw [this]
    cases mx <;> simp only [Bool.false_eq_true, if_false, if_true, Builtin.max_, Builtin.min_] at h2 ⊢ <;> rw [h2] <;> rfl
   cases mx <;> simp only [Bool.false_eq_true, if_false, if_true, opM, slXs_sound hs hl ha, lift_some_eq, pure_bind, builtinA, e]
  ·cases hv
 ·cases hv
theorem sv_pure {op : Op} {k : SK} {p : Prop} {v : AV} (hk : slK P A false op = some k) (hs : Sat E rg) (hv : sv E k = some (p, v)) (hp : p) : opM P (evalA A rg) op = AM.pure v := by
 cases op with
 | move x | assign x =>
  simp only [slK, Bool.false_eq_true, if_false] at hk
  obtain ⟨y, hy, rfl⟩ := omap hk
  simp only [sv] at hv
  split at hv
  ·rename_i a ha
   simp only [Option.some.injEq, Prod.mk.injEq] at hv
   obtain ⟨_, rfl⟩ := hv
   simp only [opM, ev_sound hs hy ha, lift_some_eq]
  ·cases hv
 | pick c a b =>
  simp only [slK, Bool.false_eq_true, if_false] at hk
  split at hk
  ·rename_i c' a' b' hc ha hb
   simp only [Option.some.injEq] at hk
   subst hk
   simp only [sv] at hv
   split at hv
   ·rename_i h1
    split at hv
    ·rename_i w hw
     simp only [Option.some.injEq, Prod.mk.injEq] at hv
     obtain ⟨_, rfl⟩ := hv
     simp only [opM, ev_sound hs hc h1, if_true, ev_sound hs ha hw, lift_some_eq]
    ·cases hv
   ·rename_i h1
    split at hv
    ·rename_i w hw
     simp only [Option.some.injEq, Prod.mk.injEq] at hv
     obtain ⟨_, rfl⟩ := hv
     simp only [opM, ev_sound hs hc h1, Bool.false_eq_true, if_false, ev_sound hs hb hw, lift_some_eq]
    ·cases hv
   ·cases hv
  ·cases hk
 | load t x =>
  simp only [slK, Bool.false_eq_true, if_false] at hk
  split at hk
  ·rename_i y n hy hn
   simp only [Option.some.injEq] at hk
   subst hk
   rcases cellsN_some hn with ⟨m, rfl, h1, h2⟩ | ⟨rfl, h1, m, h2⟩
   ·simp only [sv] at hv
    split at hv
    ·rename_i cs o ho
     split at hv
     ·rename_i l hl
      simp only [Option.some.injEq, Prod.mk.injEq] at hv
      obtain ⟨_, rfl⟩ := hv
      simp only [opM, ev_sound hs hy ho, lift_some_eq, pure_bind, loadT, h1, h2, cellsAt, if_true, hl, shapeOf]
     ·cases hv
    ·cases hv
   ·simp only [sv] at hv
    split at hv
    ·rename_i cs o ho
     split at hv
     ·rename_i w hw
      simp only [Option.some.injEq, Prod.mk.injEq] at hv
      obtain ⟨_, rfl⟩ := hv
      have hl : sliceL cs o 1 = some [w] := by
       have hlt := (List.getElem?_eq_some_iff.1 hw).1
       unfold sliceL
       rw [if_pos (by omega)]
       congr 1
       rw [List.drop_eq_getElem_cons hlt, (List.getElem?_eq_some_iff.1 hw).2]
       rfl
      simp only [opM, ev_sound hs hy ho, lift_some_eq, pure_bind, loadT, h1, h2, cellsAt, Bool.false_eq_true, if_false, hl, shapeOf]
     ·cases hv
    ·cases hv
  ·cases hk
 | fieldAddr t x i =>
  simp only [slK, Bool.false_eq_true, if_false] at hk
  split at hk
  ·rename_i y fs hy ht
   split at hk
   ·rename_i fd hfd
    split at hk
    ·rename_i m hm
     simp only [Option.some.injEq] at hk
     subst hk
     simp only [sv] at hv
     split at hv
     ·rename_i cs o ho
      simp only [Option.some.injEq, Prod.mk.injEq] at hv
      obtain ⟨_, rfl⟩ := hv
      simp only [opM, ev_sound hs hy ho, lift_some_eq, pure_bind, fieldAddrA, ht, hfd, hm, addA]
     ·rename_i id o ho
      simp only [Option.some.injEq, Prod.mk.injEq] at hv
      obtain ⟨_, rfl⟩ := hv
      simp only [opM, ev_sound hs hy ho, lift_some_eq, pure_bind, fieldAddrA, ht, hfd, hm, addA]
     ·cases hv
    ·cases hk
   ·cases hk
  ·cases hk
 | extract x i =>
  simp only [slK, Bool.false_eq_true, if_false] at hk
  obtain ⟨y, hy, rfl⟩ := omap hk
  simp only [sv] at hv
  split at hv
  ·rename_i vs hvs
   split at hv
   ·rename_i w hw
    simp only [Option.some.injEq, Prod.mk.injEq] at hv
    obtain ⟨_, rfl⟩ := hv
    simp only [opM, ev_sound hs hy hvs, hw, lift_some_eq]
   ·cases hv
  ·cases hv
 | nilCheck x =>
  simp only [slK, Bool.false_eq_true, if_false] at hk
  obtain ⟨y, hy, rfl⟩ := omap hk
  simp only [sv] at hv
  split at hv
  ·rename_i w hw
   split at hv
   ·rename_i hn
    simp only [Option.some.injEq, Prod.mk.injEq] at hv
    obtain ⟨_, rfl⟩ := hv
    simp only [opM, ev_sound hs hy hw, hn]
   ·cases hv
  ·cases hv
 | unOp op t x =>
  simp only [slK, Bool.false_eq_true, if_false] at hk
  obtain ⟨y, hy, rfl⟩ := omap hk
  simp only [sv] at hv
  split at hv
  ·rename_i kk n hn
   simp only [Option.some.injEq, Prod.mk.injEq] at hv
   obtain ⟨_, rfl⟩ := hv
   simp only [opM, ev_sound hs hy hn, lift_some_eq, pure_bind]
   rfl
  ·rename_i kk n hn
   simp only [Option.some.injEq, Prod.mk.injEq] at hv
   obtain ⟨_, rfl⟩ := hv
   simp only [opM, ev_sound hs hy hn, lift_some_eq, pure_bind]
   rfl
  ·rename_i b hn
   simp only [Option.some.injEq, Prod.mk.injEq] at hv
   obtain ⟨_, rfl⟩ := hv
   simp only [opM, ev_sound hs hy hn, lift_some_eq, pure_bind]
   rfl
  ·cases hv
 | makeFunc fn first cap =>
  simp only [slK, Bool.false_eq_true, if_false] at hk
  split at hk
  ·rename_i g
   split at hk
   ·rename_i a b ha hb
    simp only [Option.some.injEq] at hk
    subst hk
    simp only [sv] at hv
    split at hv
    ·rename_i u w hu hw
     simp only [Option.some.injEq, Prod.mk.injEq] at hv
     obtain ⟨_, rfl⟩ := hv
     simp only [opM, slXs_sound hs ha hu, slXs_sound hs hb hw, lift_some_eq, pure_bind]
    ·cases hv
   ·cases hk
  ·cases hk
 | binOp op t x y z =>
  simp only [slK, Bool.false_eq_true, if_false] at hk
  split at hk
  ·rename_i y' kk d hx hy ht
   split at hk
   ·rename_i hd
    have hyv : evalA A rg y = some (.nil kk) := ev_sound hs hy (v := .nil kk) rfl
    have fin : ∀ (neg : Bool) (bop : BinOp), (bop = .eql ∧ neg = false) ∨ (bop = .neq ∧ neg = true) → k = .isnil neg kk y' → opM P (evalA A rg) (.binOp bop t x y z) = AM.pure v := by
     intro neg bop hb hkk
     subst hkk
     simp only [sv] at hv
     split at hv
     ·rename_i w hw
      split at hv
      ·rename_i b k' h1 h2
       split at hv
       ·rename_i hke
        simp only [Option.some.injEq, Prod.mk.injEq] at hv
        obtain ⟨_, rfl⟩ := hv
        subst hke
        have hfit : nilFits P t k' w = true := by
         unfold nilFits
         rw [ht, h2]
         unfold nilAt at hd
         simp only [BEq.rfl, Bool.true_and]
         cases d <;> cases k' <;> first | rfl | cases hd
        simp only [opM, ev_sound hs hx hw, hyv, lift_some_eq, pure_bind]
        have hcn : conc (.nil k') = none := rfl
        rcases hb with ⟨rfl, rfl⟩ | ⟨rfl, rfl⟩
        ·unfold binA
         rw [hcn]
         cases hcw : conc w <;> simp [hfit, h1, lift_some_eq]
        ·unfold binA
         rw [hcn]
         cases hcw : conc w <;> simp [hfit, h1, lift_some_eq]
       ·cases hv
      ·cases hv
     ·cases hv
    split at hk
    ·simp only [Option.some.injEq] at hk
     exact fin false _ (.inl ⟨rfl, rfl⟩) hk.symm
    ·simp only [Option.some.injEq] at hk
     exact fin true _ (.inr ⟨rfl, rfl⟩) hk.symm
    ·cases hk
   ·cases hk
  ·rename_i x' y' _ hx hy ht
   have fin : ∀ (neg : Bool) (bop : BinOp), (bop = .eql ∧ neg = false) ∨ (bop = .neq ∧ neg = true) → k = .beq neg x' y' → opM P (evalA A rg) (.binOp bop t x y z) = AM.pure v := by
    intro neg bop hb hkk
    subst hkk
    simp only [sv] at hv
    split at hv
    ·rename_i a b ha hb'
     simp only [Option.some.injEq, Prod.mk.injEq] at hv
     obtain ⟨_, rfl⟩ := hv
     simp only [opM, ev_sound hs hx ha, ev_sound hs hy hb', lift_some_eq, pure_bind]
     rcases hb with ⟨rfl, rfl⟩ | ⟨rfl, rfl⟩
     ·rw [bin_beq ht]; rfl
     ·rw [bin_bne ht]; rfl
    ·cases hv
   split at hk
   ·simp only [Option.some.injEq] at hk
    exact fin false _ (.inl ⟨rfl, rfl⟩) hk.symm
   ·simp only [Option.some.injEq] at hk
    exact fin true _ (.inr ⟨rfl, rfl⟩) hk.symm
   ·cases hk
  ·rename_i x' y' fs _ hx hy ht
   have fin : ∀ (neg : Bool) (bop : BinOp), (bop = if neg then .neq else .eql) → (∃ o, flatS P t fs = some o ∧ k = .eqs neg o x' y') → opM P (evalA A rg) (.binOp bop t x y z) = AM.pure v := by
    rintro neg bop rfl ⟨o, ho, hkk⟩
    subst hkk
    simp only [sv] at hv
    split at hv
    ·rename_i cs ds ha hb'
     split at hv
     ·rename_i hsc
      simp only [Bool.and_eq_true] at hsc
      split at hv
      ·rename_i b hb
       simp only [Option.some.injEq, Prod.mk.injEq] at hv
       obtain ⟨_, rfl⟩ := hv
       simp only [opM, ev_sound hs hx ha, ev_sound hs hy hb', lift_some_eq, pure_bind]
       rw [bin_eqs ht ho hsc.1 hsc.2 hb]
       rfl
      ·cases hv
     ·cases hv
    ·cases hv
   split at hk
   ·obtain ⟨o, ho, rfl⟩ := omap hk
    exact fin false _ rfl ⟨o, ho, rfl⟩
   ·obtain ⟨o, ho, rfl⟩ := omap hk
    exact fin true _ rfl ⟨o, ho, rfl⟩
   ·cases hk
  ·rename_i x' y' n e _ hx hy ht
   have fin : ∀ (neg : Bool) (bop : BinOp), (bop = if neg then .neq else .eql) → (∃ o, flatA P t n e = some o ∧ k = .eqs neg o x' y') → opM P (evalA A rg) (.binOp bop t x y z) = AM.pure v := by
    rintro neg bop rfl ⟨o, ho, hkk⟩
    subst hkk
    simp only [sv] at hv
    split at hv
    ·rename_i cs ds ha hb'
     split at hv
     ·rename_i hsc
      simp only [Bool.and_eq_true] at hsc
      split at hv
      ·rename_i b hb
       simp only [Option.some.injEq, Prod.mk.injEq] at hv
       obtain ⟨_, rfl⟩ := hv
       simp only [opM, ev_sound hs hx ha, ev_sound hs hy hb', lift_some_eq, pure_bind]
       rw [bin_eqa ht ho hsc.1 hsc.2 hb]
       rfl
      ·cases hv
     ·cases hv
    ·cases hv
   split at hk
   ·obtain ⟨o, ho, rfl⟩ := omap hk
    exact fin false _ rfl ⟨o, ho, rfl⟩
   ·obtain ⟨o, ho, rfl⟩ := omap hk
    exact fin true _ rfl ⟨o, ho, rfl⟩
   ·cases hk
  ·rename_i x' y' d _ _ _ hx hy ht
   simp only [Option.some.injEq] at hk
   subst hk
   simp only [sv] at hv
   split at hv
   ·rename_i a b ha hb
    simp only [opM, ev_sound hs hx ha, ev_sound hs hy hb, lift_some_eq, pure_bind, bin2_sound hv hp]
   ·cases hv
  ·cases hk
 | convert s d x =>
  simp only [slK, Bool.false_eq_true, if_false] at hk
  split at hk
  ·rename_i y k1 k2 hy h1 h2
   simp only [Option.some.injEq] at hk
   subst hk
   simp only [sv] at hv
   split at hv
   ·rename_i kk n hn
    simp only [Option.some.injEq, Prod.mk.injEq] at hv
    obtain ⟨_, rfl⟩ := hv
    simp only [opM, ev_sound hs hy hn, lift_some_eq, pure_bind, convertA, h1, h2]
    have : spr P (convert s d (.int kk n)) = some (.int k2 (k2.wrap n)) := by
     unfold convert
     rw [spr_bind (spr_underlying h1), spr_bind (spr_underlying h2)]
     cases k1 <;> rfl
    rw [this]
    rfl
   ·cases hv
  ·rename_i y hy h1 h2
   simp only [Option.some.injEq] at hk
   subst hk
   simp only [sv] at hv
   split at hv
   ·rename_i a ha
    simp only [Option.some.injEq, Prod.mk.injEq] at hv
    obtain ⟨_, rfl⟩ := hv
    simp only [opM, ev_sound hs hy ha, lift_some_eq, pure_bind, convertA, h1, h2]
   ·cases hv
  ·rename_i y e hy h1 h2
   split at hk
   ·rename_i hb
    simp only [Option.some.injEq] at hk
    subst hk
    simp only [sv] at hv
    split at hv
    ·rename_i hn
     simp only [Option.some.injEq, Prod.mk.injEq] at hv
     obtain ⟨_, rfl⟩ := hv
     simp only [opM, ev_sound hs hy hn, lift_some_eq, pure_bind, convertA, h1, h2, hb, if_true]
    ·rename_i cs len hn
     split at hv
     ·rename_i l hl
      split at hv
      ·rename_i b hbb
       simp only [Option.some.injEq, Prod.mk.injEq] at hv
       obtain ⟨_, rfl⟩ := hv
       simp only [opM, ev_sound hs hy hn, lift_some_eq, pure_bind, convertA, h1, h2, hb, if_true, hl, hbb, Option.map_some]
      ·cases hv
     ·cases hv
    ·cases hv
   ·cases hk
  ·cases hk
 | build t ps =>
  simp only [slK, Bool.false_eq_true, if_false] at hk
  split at hk
  ·rename_i z fs hz ht
   split at hk
   ·rename_i hall
    obtain ⟨l, hl, rfl⟩ := omap hk
    simp only [sv] at hv
    split at hv
    ·rename_i cs hcs
     simp only [Option.some.injEq, Prod.mk.injEq] at hv
     obtain ⟨_, rfl⟩ := hv
     obtain ⟨vs, e1, e2⟩ := fillS_sound hs hl hcs
     simp only [opM, e1, lift_some_eq, pure_bind, buildA, hz, ht, hall, if_true, e2, Option.map_some]
    ·cases hv
   ·cases hk
  ·rename_i z n e hz ht
   split at hk
   ·rename_i s hs'
    obtain ⟨l, hl, rfl⟩ := omap hk
    simp only [sv] at hv
    split at hv
    ·rename_i cs hcs
     simp only [Option.some.injEq, Prod.mk.injEq] at hv
     obtain ⟨_, rfl⟩ := hv
     obtain ⟨vs, e1, e2⟩ := fillS_sound hs hl hcs
     simp only [opM, e1, lift_some_eq, pure_bind, buildA, hz, ht, hs', e2, Option.map_some]
    ·cases hv
   ·cases hk
  ·cases hk
 | slice t x lo hi mx =>
  cases mx with
  | some m => simp [slK] at hk
  | none =>
  simp only [slK, Bool.false_eq_true, if_false] at hk
  split at hk
  ·rename_i y slo shi hx hlo hhi ht
   simp only [Option.some.injEq] at hk
   subst hk
   simp only [sv] at hv
   split at hv
   ·rename_i tt htt
    split at hv
    ·rename_i l hh h1 h2
     simp only [Option.some.injEq, Prod.mk.injEq] at hv
     obtain ⟨rfl, rfl⟩ := hv
     obtain ⟨r1, e1, e2⟩ := evI_sound hs hlo h1
     obtain ⟨r2, e3, e4⟩ := evI_sound hs hhi h2
     simp only [opM, ev_sound hs hx htt, e1, e3, lift_some_eq, pure_bind, sliceA, ht, bounds_sound e2 e4 hp]
    ·cases hv
   ·cases hv
  ·rename_i y slo shi e hx hlo hhi ht
   obtain ⟨s, hs', rfl⟩ := omap hk
   simp only [sv] at hv
   split at hv
   ·rename_i htt
    split at hv
    ·rename_i l hh h1 h2
     simp only [Option.some.injEq, Prod.mk.injEq] at hv
     obtain ⟨rfl, rfl⟩ := hv
     obtain ⟨r1, e1, e2⟩ := evI_sound hs hlo h1
     obtain ⟨r2, e3, e4⟩ := evI_sound hs hhi h2
     simp only [opM, ev_sound hs hx htt, e1, e3, lift_some_eq, pure_bind, sliceA, ht, hs', bounds_sound (len := 0) e2 e4 (by omega)]
    ·cases hv
   ·rename_i cs len htt
    split at hv
    ·rename_i l hh h1 h2
     simp only [Option.some.injEq, Prod.mk.injEq] at hv
     obtain ⟨rfl, rfl⟩ := hv
     obtain ⟨r1, e1, e2⟩ := evI_sound hs hlo h1
     obtain ⟨r2, e3, e4⟩ := evI_sound hs hhi h2
     simp only [opM, ev_sound hs hx htt, e1, e3, lift_some_eq, pure_bind, sliceA, ht, hs', bounds_sound e2 e4 hp]
    ·cases hv
   ·rename_i id off len sz htt
    split at hv
    ·rename_i l hh h1 h2
     simp only [Option.some.injEq, Prod.mk.injEq] at hv
     obtain ⟨rfl, rfl⟩ := hv
     obtain ⟨r1, e1, e2⟩ := evI_sound hs hlo h1
     obtain ⟨r2, e3, e4⟩ := evI_sound hs hhi h2
     obtain ⟨rfl, hp⟩ := hp
     simp only [opM, ev_sound hs hx htt, e1, e3, lift_some_eq, pure_bind, sliceA, ht, hs', bounds_sound e2 e4 hp, if_true]
    ·cases hv
   ·cases hv
  ·cases hk
 | field t x i =>
  simp only [slK, Bool.false_eq_true, if_false] at hk
  split at hk
  ·rename_i y fs hy ht
   split at hk
   ·rename_i fd hfd
    obtain ⟨n, hn, rfl⟩ := omap hk
    rcases cellsN_some hn with ⟨m, rfl, h1, h2⟩ | ⟨rfl, h1, m, h2⟩
    ·simp only [sv] at hv
     split at hv
     ·rename_i cs ho
      split at hv
      ·rename_i l hl
       simp only [Option.some.injEq, Prod.mk.injEq] at hv
       obtain ⟨_, rfl⟩ := hv
       simp only [opM, ev_sound hs hy ho, lift_some_eq, pure_bind, fieldA, ht, hfd, partA, h1, h2, hl, Option.map_some]
      ·cases hv
     ·cases hv
    ·simp only [sv] at hv
     split at hv
     ·rename_i cs ho
      split at hv
      ·rename_i w hw
       simp only [Option.some.injEq, Prod.mk.injEq] at hv
       obtain ⟨_, rfl⟩ := hv
       simp only [opM, ev_sound hs hy ho, lift_some_eq, pure_bind, fieldA, ht, hfd, partA, h1, h2, hw]
      ·cases hv
     ·cases hv
   ·cases hk
  ·cases hk
 | index t x ix =>
  simp only [slK, Bool.false_eq_true, if_false] at hk
  split at hk
  ·rename_i y i' hy hi ht
   simp only [Option.some.injEq] at hk
   subst hk
   simp only [sv] at hv
   split at hv
   ·rename_i tt kk z h1 h2
    simp only [Option.some.injEq, Prod.mk.injEq] at hv
    obtain ⟨rfl, rfl⟩ := hv
    have hlt : z.toNat < tt.length := by omega
    simp only [opM, ev_sound hs hy h1, ev_sound hs hi h2, lift_some_eq, pure_bind, indexA, intIx, ht]
    rw [if_pos hp.1, List.getElem?_eq_getElem hlt, List.getD_eq_getElem?_getD, List.getElem?_eq_getElem hlt]
    rfl
   ·cases hv
  ·rename_i y i' n e hy hi ht
   split at hk
   ·rename_i s g q1 q2
    simp only [Option.some.injEq] at hk
    subst hk
    rcases cellsN_some q2 with ⟨m, rfl, g1, g2⟩ | ⟨rfl, g1, m, g2⟩
    ·simp only [sv] at hv
     split at hv
     ·rename_i cs kk z h1 h2
      simp only [Option.some.injEq, Prod.mk.injEq] at hv
      obtain ⟨rfl, rfl⟩ := hv
      simp only [opM, ev_sound hs hy h1, ev_sound hs hi h2, lift_some_eq, pure_bind, indexA, intIx, ht, q1]
      rw [if_pos ⟨hp.1, hp.2.1⟩]
      simp only [partA, g1, g2, sliceL, hp.2.2, if_true, Option.map_some]
      rfl
     ·cases hv
    ·simp only [sv] at hv
     split at hv
     ·rename_i cs kk z h1 h2
      simp only [Option.some.injEq, Prod.mk.injEq] at hv
      obtain ⟨rfl, rfl⟩ := hv
      simp only [opM, ev_sound hs hy h1, ev_sound hs hi h2, lift_some_eq, pure_bind, indexA, intIx, ht, q1]
      rw [if_pos ⟨hp.1, hp.2.1⟩]
      simp only [partA, g1, g2]
      rw [List.getD_eq_getElem?_getD, List.getElem?_eq_getElem hp.2.2]
      rfl
     ·cases hv
   ·cases hk
  ·cases hk
 | indexAddr t x ix =>
  simp only [slK, Bool.false_eq_true, if_false] at hk
  split at hk
  ·rename_i y i' n e hy hi ht
   obtain ⟨s, hs', rfl⟩ := omap hk
   simp only [sv] at hv
   split at hv
   ·rename_i cs o kk z m h1 h2 h3
    cases h3
    simp only [Option.some.injEq, Prod.mk.injEq] at hv
    obtain ⟨rfl, rfl⟩ := hv
    simp only [opM, ev_sound hs hy h1, ev_sound hs hi h2, lift_some_eq, pure_bind, indexAddrA, intIx, ht, hs', addA]
    rw [if_pos hp]
    rfl
   ·rename_i id o kk z m h1 h2 h3
    cases h3
    simp only [Option.some.injEq, Prod.mk.injEq] at hv
    obtain ⟨rfl, rfl⟩ := hv
    simp only [opM, ev_sound hs hy h1, ev_sound hs hi h2, lift_some_eq, pure_bind, indexAddrA, intIx, ht, hs', addA]
    rw [if_pos hp]
    rfl
   ·rename_i h3; cases h3
   ·rename_i h3; cases h3
   ·cases hv
  ·rename_i y i' e hy hi ht
   obtain ⟨s, hs', rfl⟩ := omap hk
   simp only [sv] at hv
   split at hv
   ·rename_i h3; cases h3
   ·rename_i h3; cases h3
   ·rename_i cs len kk z h1 h2 _
    simp only [Option.some.injEq, Prod.mk.injEq] at hv
    obtain ⟨rfl, rfl⟩ := hv
    simp only [opM, ev_sound hs hy h1, ev_sound hs hi h2, lift_some_eq, pure_bind, indexAddrA, intIx, ht, hs']
    rw [if_pos hp]
    rfl
   ·rename_i id off len sz kk z h1 h2 _
    simp only [Option.some.injEq, Prod.mk.injEq] at hv
    obtain ⟨rfl, rfl⟩ := hv
    obtain ⟨rfl, hp⟩ := hp
    simp only [opM, ev_sound hs hy h1, ev_sound hs hi h2, lift_some_eq, pure_bind, indexAddrA, intIx, ht, hs']
    rw [if_pos ⟨trivial, hp⟩]
    rfl
   ·cases hv
  ·cases hk
 | makeInterface t x =>
  simp only [slK, Bool.false_eq_true, if_false] at hk
  split at hk
  ·cases hk
  ·rename_i hni
   obtain ⟨y, hy, rfl⟩ := omap hk
   simp only [sv] at hv
   split at hv
   ·rename_i w hw
    simp only [Option.some.injEq, Prod.mk.injEq] at hv
    obtain ⟨_, rfl⟩ := hv
    simp only [opM, ev_sound hs hy hw, lift_some_eq, pure_bind, ifcA]
    rw [if_neg hni]
    rfl
   ·cases hv
 | typeAssert x t0 t ok =>
  simp only [slK, Bool.false_eq_true, if_false] at hk
  split at hk
  ·cases hk
  ·rename_i hni
   obtain ⟨y, hy, rfl⟩ := omap hk
   simp only [sv] at hv
   split at hv
   ·rename_i u w hw
    split at hv
    ·rename_i hu
     simp only [Option.some.injEq, Prod.mk.injEq] at hv
     obtain ⟨_, rfl⟩ := hv
     simp only [opM, ev_sound hs hy hw, lift_some_eq, pure_bind, assertA]
     rw [if_neg hni, if_pos hu]
     rfl
    ·cases hv
   ·cases hv
 | call c =>
  obtain ⟨callee, args, ats⟩ := c
  cases callee with
  | value x =>
   simp only [slK] at hk
   split at hk
   ·simp only [Option.some.injEq] at hk
    subst hk
    simp [sv] at hv
   ·cases hk
  | invoke x m =>
   simp only [slK] at hk
   split at hk
   ·simp only [Option.some.injEq] at hk
    subst hk
    simp [sv] at hv
   ·cases hk
  | builtin b =>
   cases b with
   | len =>
    simp only [slK, Bool.false_eq_true, if_false] at hk
    split at hk
    ·rename_i x t r ha ht
     split at hk
     ·rename_i y n e hy hu
      simp only [Option.some.injEq] at hk
      subst hk
      simp only [sv] at hv
      split at hv
      ·rename_i w hw
       simp only [Option.some.injEq, Prod.mk.injEq] at hv
       obtain ⟨_, rfl⟩ := hv
       simp only [opM, ha, ht, evs, ev_sound hs hy hw, Option.map_some, lift_some_eq, pure_bind, builtinA, lenA, hu]
      ·cases hv
     ·rename_i y e hy hu
      simp only [Option.some.injEq] at hk
      subst hk
      simp only [sv] at hv
      split at hv
      ·rename_i hq
       simp only [Option.some.injEq, Prod.mk.injEq] at hv
       obtain ⟨_, rfl⟩ := hv
       simp only [opM, ha, ht, evs, ev_sound hs hy hq, Option.map_some, lift_some_eq, pure_bind, builtinA, lenA, hu]
      ·rename_i id off n sz hq
       simp only [Option.some.injEq, Prod.mk.injEq] at hv
       obtain ⟨_, rfl⟩ := hv
       simp only [opM, ha, ht, evs, ev_sound hs hy hq, Option.map_some, lift_some_eq, pure_bind, builtinA, lenA, hu]
      ·rename_i cs n hq
       simp only [Option.some.injEq, Prod.mk.injEq] at hv
       obtain ⟨_, rfl⟩ := hv
       simp only [opM, ha, ht, evs, ev_sound hs hy hq, Option.map_some, lift_some_eq, pure_bind, builtinA, lenA, hu]
      ·cases hv
     ·rename_i y hy hu
      simp only [Option.some.injEq] at hk
      subst hk
      simp only [sv] at hv
      split at hv
      ·rename_i t hq
       simp only [Option.some.injEq, Prod.mk.injEq] at hv
       obtain ⟨_, rfl⟩ := hv
       simp only [opM, ha, ht, evs, ev_sound hs hy hq, Option.map_some, lift_some_eq, pure_bind, builtinA, lenA, hu]
      ·cases hv
     ·cases hk
    ·cases hk
   | min =>
    simp only [slK, Bool.false_eq_true, if_false] at hk
    obtain ⟨l, hl, rfl⟩ := omap hk
    exact mnx_sound hs hl hv
   | max =>
    simp only [slK, Bool.false_eq_true, if_false] at hk
    obtain ⟨l, hl, rfl⟩ := omap hk
    exact mnx_sound hs hl hv
   | _ => simp [slK] at hk
 | _ => simp [slK] at hk
end
end Go.Abs
