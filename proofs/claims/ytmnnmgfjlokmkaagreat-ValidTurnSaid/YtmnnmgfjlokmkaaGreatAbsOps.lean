import Derived.Test.YtmnnmgfjlokmkaaGreatAbsOpsH
import Derived.Laws.Externs
open Go.RowKit (Below)
namespace Go.Abs
section
variable {P : Program} {B : Nat} {w0 : Anchor} {w : World} {μ : Mu} {M : Mem} {h h' : Heap} {n n' : Nat} {lg : Log}
theorem fail_eq {α : Type} {x : Option α} {y : α} (hx : x = none) (e : x = some y) : False := by rw [hx] at e; cases e
theorem Step1.value {S : Sem Next} {cv : Value} {v : AV} (sr : SR B w0 μ M h w) (hr : VR μ M v cv) (e : S.run P w = .ok (.value cv) w) : Step1 P B w0 μ M n n h w v S :=
 ⟨μ, w, _, cv, e, .inl rfl, sr, .refl _, fun _ _ => rfl, hr⟩
theorem VR.undef {μ : Mu} {M : Mem} : VR μ M .undef undef := .tup [] #[] rfl (by simp)
theorem Step1.skip {S : Sem Next} {w' : World} (sr : SR B w0 μ M h' w') (e : S.run P w = .ok .skip w') : Step1 P B w0 μ M n n h' w .undef S :=
 ⟨μ, w', _, undef, e, .inr ⟨rfl, rfl⟩, sr, .refl _, fun _ _ => rfl, .undef⟩
theorem vrs_arr {cs : List AV} {a : Array Operand} {f : Operand → Value} (hv : VRs μ M cs (a.toList.map f)) : VRs μ M cs (a.map f).toList := by simpa using hv
theorem two_of {x y : AV} {vs : List Value} (hv : VRs μ M [x, y] vs) : ∃ xv yv, vs = [xv, yv] ∧ VR μ M x xv ∧ VR μ M y yv := by
 have := hv.1
 match vs, this with
 | [a, b], _ => exact ⟨a, b, rfl, hv.2 0 x a rfl rfl, hv.2 1 y b rfl rfl⟩
theorem one_of {x : AV} {vs : List Value} (hv : VRs μ M [x] vs) : ∃ xv, vs = [xv] ∧ VR μ M x xv := by
 have := hv.1
 match vs, this with
 | [a], _ => exact ⟨a, rfl, hv.2 0 x a rfl rfl⟩
theorem noIface {P : Program} {t : TypeId} (h : ¬ isIface P t = true) : ∃ d, P.underlying t = some d ∧ ∀ ms, d ≠ .interface ms := by
 unfold isIface at h
 split at h
 ·exact absurd rfl h
 ·rename_i d hn hd
  exact ⟨d, hd, fun ms e => hn ms e⟩
 ·exact absurd rfl h
theorem clearA_sim (sr : SR B w0 μ M h w) {ts : Array TypeId} {ty : TypeId} {x v : AV} {xv : Value} (hx : VR μ M x xv)
  (ex : clearA P ts.toList x h n = some (v, h', n', lg)) : n' = n ∧ v = .undef ∧ ∃ cv w', (Builtin.clear_ ts ty #[xv]).run P w = .ok cv w' ∧ SR B w0 μ M h' w' ∧ VR μ M v cv := by
 obtain ⟨tl, rfl⟩ : ∃ tl : List TypeId, ts = tl.toArray := ⟨ts.toList, by simp⟩
 simp only at ex
 unfold clearA at ex
 split at ex
 ·rename_i x0 t tl id off len sz
  obtain ⟨e, _, _, _, _, e1, f1, _⟩ := bind_some ex
  obtain ⟨he, rfl, rfl⟩ := lift_some e1
  obtain ⟨s, _, _, _, _, e2, f2, _⟩ := bind_some f1
  obtain ⟨hs, rfl, rfl⟩ := lift_some e2
  obtain ⟨z, _, _, _, _, e3, f3, _⟩ := bind_some f2
  obtain ⟨hz, rfl, rfl⟩ := lift_some e3
  split at f3
  ·rename_i hc
   obtain ⟨rfl, hpos, hzl⟩ := hc
   cases hx with
   | sl _ _ _ _ cap rg a hr hlc hcap =>
    split at f3
    ·rename_i h0
     subst h0
     obtain ⟨rfl, rfl, rfl⟩ := pure_some f3
     refine ⟨rfl, rfl, .tuple #[], w, ?_, sr, .undef⟩
     simp [Builtin.clear_, run_underlying (elem_of he)]
    ·rename_i h0
     obtain ⟨u, _, _, _, _, e4, f4, _⟩ := bind_some f3
     obtain ⟨rfl, rfl, rfl⟩ := pure_some f4
     obtain ⟨zv, hzr, hzo, _⟩ := zeroOf_run hz
     have hzv := ofv_vr (μ := μ) (M := M) hzo
     have hzs : zv.cells.size = s := by have := hzv.cells.1; simp at this; omega
     have hzz := zeros_vrs hzv (by omega) (len * s)
     obtain ⟨rfl, b, o, w', hpv, hrun, hsr⟩ := storeAtA_sim (P := P) sr (.ptr id off rg hr) hzz e4
     simp only [Value.pointer.injEq, Option.some.injEq, Addr.mk.injEq, and_true] at hpv
     obtain ⟨rfl, rfl⟩ := hpv
     obtain ⟨rfl, _⟩ := hcap (by omega)
     refine ⟨rfl, rfl, .tuple #[], w', ?_, hsr, .undef⟩
     have hzc : (Builtin.zeroCells zv.cells len).toList = ((Array.range (len * s)).map fun i => zv.cells[i % zv.cells.size]!).toList := by
      unfold Builtin.zeroCells
      rw [hzs]
     cases len with
     | zero => exact absurd rfl h0
     | succ m =>
      rw [hzc.symm] at hrun
      simp [Builtin.clear_, run_underlying (elem_of he), hzr, hrun]
  ·exact (fail_some f3).elim
 ·exact (fail_some ex).elim
theorem idxL_eq (c : Nat) : ∀ (l pre : List UInt8), idxL c l pre.length = (match ((List.range' pre.length l.length).find? fun i => ((pre ++ l).getD i 0).toNat == c) with | some i => (i : Int) | none => -1)
 | [], pre => rfl
 | b :: l, pre => by
  unfold idxL
  have h1 : (pre ++ b :: l).getD pre.length 0 = b := by simp
  have h2 := idxL_eq c l (pre ++ [b])
  simp only [List.length_append, List.length_cons, List.length_nil, List.append_assoc, List.singleton_append] at h2
  rw [List.length_cons, List.range'_succ, List.find?_cons, h1]
  by_cases hb : b.toNat = c
  ·rw [if_pos (by simpa using hb)]
   simp [hb]
  ·rw [if_neg (by simpa using hb)]
   have : (b.toNat == c) = false := by simpa using hb
   rw [this]
   exact h2
theorem find_congr {p q : Nat → Bool} : ∀ {l : List Nat}, (∀ i ∈ l, p i = q i) → l.find? p = l.find? q
 | [], _ => rfl
 | a :: l, h => by
  rw [List.find?_cons, List.find?_cons, h a (List.mem_cons_self ..), find_congr fun i hi => h i (List.mem_cons_of_mem _ hi)]
theorem firstIdx_eq (s : List UInt8) (c : UInt8) : firstIdx ⟨s.toArray⟩ c = idxL c.toNat s 0 := by
 have h := idxL_eq c.toNat s []
 simp only [List.length_nil, List.nil_append] at h
 rw [h]
 unfold firstIdx
 have hsz : (ByteArray.mk s.toArray).size = s.length := by simp [ByteArray.size]
 rw [hsz, List.range_eq_range']
 have hc : (List.range' 0 s.length).find? (fun i => (ByteArray.mk s.toArray)[i]! == c) = (List.range' 0 s.length).find? (fun i => (s.getD i 0).toNat == c.toNat) := by
  apply find_congr
  intro i hi
  have hi : i < s.length := by simpa using hi
  have : (ByteArray.mk s.toArray)[i]! = s[i] := by
   rw [getElem!_pos (ByteArray.mk s.toArray) i (by rw [hsz]; exact hi)]
   rfl
  rw [this, List.getD_eq_getElem?_getD, List.getElem?_eq_getElem hi, Option.getD_some]
  rw [Bool.eq_iff_iff]
  simp [UInt8.toNat_inj]
 rw [hc]
 rfl
theorem extA_sim (sr : SR B w0 μ M h w) (hB : B ≤ w0.w.heap.size) (hfree : ∀ id, n ≤ id → id < n' → μ id = none) {k : EK} {vs : List AV} {args : Array Value} (hv : VRs μ M vs args.toList) {v : AV}
  (e : extA k vs h n = some (v, h', n', lg)) : ∃ cv w' μ', (k.sem args).run P w = .ok cv w' ∧ SR B w0 μ' M h' w' ∧ μ.le μ' ∧ (∀ id, ¬(n ≤ id ∧ id < n') → μ' id = μ id) ∧ VR μ' M v cv := by
 unfold extA at e
 split at e
 ·rename_i s c
  obtain ⟨rfl, rfl, rfl⟩ := pure_some e
  obtain ⟨xv, yv, h1, h2, h3⟩ := two_of hv
  have ha : args = #[xv, yv] := by apply Array.ext'; rw [h1]
  obtain rfl : xv = .string ⟨s.toArray⟩ := by cases h2; rfl
  obtain rfl : yv = .int .u8 c := by cases h3; rfl
  subst ha
  refine ⟨.int .i64 (firstIdx ⟨s.toArray⟩ c.toNat.toUInt8), w, μ, by unfold EK.sem; exact run_indexByte_string _ _ w, sr, fun _ _ h => h, fun _ _ => rfl, ?_⟩
  rw [firstIdx_eq]
  exact .int _ _
 ·rename_i t id
  obtain ⟨o, _, _, _, _, e1, f1, _⟩ := bind_some e
  obtain ⟨ho, rfl, rfl⟩ := get_some e1
  cases o with
  | cells cs => exact (fail_some f1).elim
  | map es =>
   simp only at f1
   obtain ⟨id', _, _, _, _, e2, f2, _⟩ := bind_some f1
   obtain ⟨rfl, rfl, rfl⟩ := new_some e2
   obtain ⟨rfl, rfl, rfl⟩ := pure_some f2
   obtain ⟨xv, h1, h2⟩ := one_of hv
   have ha : args = #[xv] := by apply Array.ext'; rw [h1]
   subst ha
   cases h2 with
   | ifc _ _ cv hcv =>
    cases hcv with
    | map _ r hr =>
     obtain ⟨r', q1, _, hlt, p1, p2, en, cl, q2, q3, q4⟩ := sr.live id _ ho
     rw [hr] at q1
     cases q1
     have hn := hfree id' (Nat.le_refl _) (by omega)
     have hle : μ.le (upd μ id' (some ⟨w.heap.size, 0, 1⟩)) := upd_le hn _
     refine ⟨.iface t (.map (some w.heap.size)), w.alloc (.map en cl), upd μ id' (some ⟨w.heap.size, 0, 1⟩), ?_, ?_, hle, upd_other _, .ifc t _ _ (.map id' ⟨w.heap.size, 0, 1⟩ (by simp [upd]))⟩
     ·have h0 : (EK.clone.sem #[.iface t (.map (some r.b))]) = (do
        let .map entries clock ← Go.getObj r.b | stuck "maps.clone: a map expected"
        pure (.iface t (.map (some (← newObj (.map entries clock)))))) := rfl
      rw [h0]
      have hg : (Go.getObj r.b).run P w = .ok (.map en cl) w := by simp [Go.getObj, Sem.run, q2]
      simp [Sem.run_bind, hg]
     ·refine sr.add (sr.le_size hB) ((Below.refl _ _).alloc (Nat.le_refl _) _) (fun b hb c t lo hi e0 => by
       have hlt := (Array.getElem?_eq_some_iff.1 e0).1
       obtain rfl : b = w.heap.size := by simp at hlt; omega
       rw [heap_alloc_new w _] at e0
       cases e0) id' hn ⟨w.heap.size, 0, 1⟩ rfl (by simp) (.map es) ⟨rfl, rfl, en, cl, heap_alloc_new w _, q3, ?_⟩
      intro i e x he hx
      obtain ⟨a, b⟩ := q4 i e x he hx
      exact ⟨a.mono hle (Mem.le.refl _), b.mono hle (Mem.le.refl _)⟩
 ·exact (fail_some e).elim
theorem opM_sim (sr : SR B w0 μ M h w) (hB : B ≤ w0.w.heap.size) (hfree : ∀ id, n ≤ id → id < n' → μ id = none) {ev : Operand → Option AV} {ρ : Operand → Value} (hev : EvR μ M ev ρ) {o : Oper} {v : AV}
  (e : opM P ev o.op h n = some (v, h', n', lg)) : Step1 P B w0 μ M n n' h' w v (execOp ρ o) := by
 obtain ⟨dst, op, type, pos, after, guard⟩ := o
 simp only at e
 cases op with
 | move x =>
  obtain ⟨h1, rfl, rfl⟩ := lift_some e
  exact Step1.value sr (hev x v h1) rfl
 | assign x =>
  obtain ⟨h1, rfl, rfl⟩ := lift_some e
  exact Step1.value sr (hev x v h1) rfl
 | pick c a b =>
  simp only [opM] at e
  cases hc : ev c with
  | none => rw [hc] at e; exact (fail_some e).elim
  | some cv =>
   rw [hc] at e
   cases cv with
   | bool t =>
    obtain ⟨h1, rfl, rfl⟩ := lift_some e
    have hb : ρ c = .bool t := by
     have := hev c _ hc
     generalize ρ c = y at this ⊢
     cases this
     rfl
    have h2 := hev _ _ h1
    refine Step1.value sr h2 ?_
    cases t <;> simp [execOp, hb, asBool]
   | _ => exact (fail_some e).elim
 | alloc t =>
  simp only [opM] at e
  obtain ⟨z, _, _, _, _, e1, f1, _⟩ := bind_some e
  obtain ⟨hz, rfl, rfl⟩ := lift_some e1
  split at f1
  ·rename_i hc
   obtain ⟨id, _, _, _, _, e2, f2, _⟩ := bind_some f1
   obtain ⟨rfl, rfl, rfl⟩ := new_some e2
   obtain ⟨rfl, rfl, rfl⟩ := pure_some f2
   obtain ⟨zv, hzr, hzo, _⟩ := zeroOf_run hz
   have hzv := ofv_vr (μ := μ) (M := M) hzo
   have hn := hfree id (Nat.le_refl _) (by omega)
   have hl := hzv.cells.1
   refine Step1.val (w' := w.alloc (.cells zv.cells t)) (cv := .pointer (some ⟨w.heap.size, 0, none⟩)) ?_ (sr.newCells (sr.le_size hB) hn zv.cells t (0, 0) z.cells z.cells.length (Nat.le_refl _) (by simp at hl; omega) (by simp) ?_) (upd_le hn _) (upd_other _) ?_
   ·simp [Instr.alloc, hzr, newVar, newRow]
   ·rw [List.take_of_length_le (by omega)]; exact hzv.cells
   ·exact .ptr id 0 ⟨w.heap.size, 0, z.cells.length⟩ (by simp [upd])
  ·exact (fail_some f1).elim
 | box t x =>
  simp only [opM] at e
  obtain ⟨z, _, _, _, _, e1, f1, _⟩ := bind_some e
  obtain ⟨hx, rfl, rfl⟩ := lift_some e1
  split at f1
  ·rename_i hc
   obtain ⟨id, _, _, _, _, e2, f2, _⟩ := bind_some f1
   obtain ⟨rfl, rfl, rfl⟩ := new_some e2
   obtain ⟨rfl, rfl, rfl⟩ := pure_some f2
   have hzv := hev x z hx
   have hn := hfree id (Nat.le_refl _) (by omega)
   have hl := hzv.cells.1
   refine Step1.val (w' := w.alloc (.cells (ρ x).cells t)) (cv := .pointer (some ⟨w.heap.size, 0, none⟩)) ?_ (sr.newCells (sr.le_size hB) hn (ρ x).cells t (0, 0) z.cells z.cells.length (Nat.le_refl _) (by simp at hl; omega) (by simp) ?_) (upd_le hn _) (upd_other _) ?_
   ·simp [Instr.box, newVar, newRow]
   ·rw [List.take_of_length_le (by omega)]; exact hzv.cells
   ·exact .ptr id 0 ⟨w.heap.size, 0, z.cells.length⟩ (by simp [upd])
  ·exact (fail_some f1).elim
 | build t ps =>
  simp only [opM] at e
  obtain ⟨qs, _, _, _, _, e1, f1, _⟩ := bind_some e
  obtain ⟨hq, rfl, rfl⟩ := lift_some e1
  obtain ⟨hb, rfl, rfl⟩ := lift_some f1
  obtain ⟨hl, hr⟩ := evParts_rel hev hq
  obtain ⟨cv, hrun, hvr⟩ := build_sim (w := w) hl hr hb
  refine Step1.same sr hvr ?_
  rw [← hrun]
  congr 2
  apply Array.ext'
  simp
 | buildSlice t k ps =>
  simp only [opM] at e
  obtain ⟨qs, _, _, _, _, e1, f1, _⟩ := bind_some e
  obtain ⟨hq, rfl, rfl⟩ := lift_some e1
  obtain ⟨hl, hr⟩ := evParts_rel hev hq
  have := buildSlice_sim sr hB hfree hl hr f1
  have he : (List.map (fun x : Nat × Operand => (x.1, ρ x.2)) ps.toList).toArray = ps.map fun (i, x) => (i, ρ x) := by
   apply Array.ext'
   simp
  rw [he] at this
  exact this
 | load t a =>
  simp only [opM] at e
  obtain ⟨p, _, _, _, _, e1, f1, _⟩ := bind_some e
  obtain ⟨hp, rfl, rfl⟩ := lift_some e1
  obtain ⟨rfl, rfl, b, o, cv, hpv, hvr, hrun⟩ := loadT_sim sr (hev a p hp) f1
  refine Step1.same sr hvr ?_
  rw [hpv]
  simp [Instr.loadAt, Instr.sureAddr, hrun]
 | store t a x =>
  simp only [opM] at e
  obtain ⟨p, _, _, _, _, e1, f1, _⟩ := bind_some e
  obtain ⟨hp, rfl, rfl⟩ := lift_some e1
  obtain ⟨xv, _, _, _, _, e2, f2, _⟩ := bind_some f1
  obtain ⟨hx, rfl, rfl⟩ := lift_some e2
  obtain ⟨rfl, rfl, w', hrun, hsr⟩ := storeT_sim (P := P) sr (hev a p hp) (hev x xv hx) f2
  exact Step1.skip hsr (by simp [execOp, hrun])
 | nilCheck x =>
  simp only [opM] at e
  cases hx : ev x with
  | none => rw [hx] at e; exact (fail_some e).elim
  | some xv =>
   rw [hx] at e
   simp only at e
   cases hn : isNilA xv with
   | none => rw [hn] at e; exact (fail_some e).elim
   | some b =>
    rw [hn] at e
    cases b with
    | true => exact (fail_some e).elim
    | false =>
     obtain ⟨rfl, rfl, rfl⟩ := pure_some e
     have hvr := hev x v hx
     refine Step1.value sr hvr ?_
     simp only [execOp]
     generalize ρ x = y at hvr
     cases hvr <;> simp [isNilA] at hn <;> rfl
 | binOp op t x y yt =>
  simp only [opM] at e
  obtain ⟨a, _, _, _, _, e1, f1, _⟩ := bind_some e
  obtain ⟨ha, rfl, rfl⟩ := lift_some e1
  obtain ⟨b, _, _, _, _, e2, f2, _⟩ := bind_some f1
  obtain ⟨hb, rfl, rfl⟩ := lift_some e2
  obtain ⟨hv, rfl, rfl⟩ := lift_some f2
  obtain ⟨cv, hrun, hvr⟩ := binA_sim (P := P) sr (hev x a ha) (hev y b hb) hv
  exact Step1.same sr hvr hrun
 | unOp op t x =>
  simp only [opM] at e
  obtain ⟨a, _, _, _, _, e1, f1, _⟩ := bind_some e
  obtain ⟨ha, rfl, rfl⟩ := lift_some e1
  obtain ⟨hv, rfl, rfl⟩ := lift_some f1
  obtain ⟨c, hc, hv⟩ := bindo hv
  obtain ⟨r, hr, hv⟩ := bindo hv
  have := conc_eq hc (hev x a ha)
  refine Step1.same sr (ofv_vr hv) ?_
  rw [this]
  exact spr_run hr w
 | convert s d x =>
  simp only [opM] at e
  obtain ⟨a, _, _, _, _, e1, f1, _⟩ := bind_some e
  obtain ⟨ha, rfl, rfl⟩ := lift_some e1
  exact convertA_sim sr hB hfree (hev x a ha) f1
 | makeFunc fn first cap =>
  cases fn with
  | func f =>
   simp only [opM] at e
   obtain ⟨a, _, _, _, _, e1, f1, _⟩ := bind_some e
   obtain ⟨ha, rfl, rfl⟩ := lift_some e1
   obtain ⟨b, _, _, _, _, e2, f2, _⟩ := bind_some f1
   obtain ⟨hb, rfl, rfl⟩ := lift_some e2
   obtain ⟨rfl, rfl, rfl⟩ := pure_some f2
   have h1 := vrs_arr (evs_rel hev ha)
   have h2 := vrs_arr (evs_rel hev hb)
   refine Step1.same sr (cv := .func (.func f) (first.map ρ) (cap.map ρ)) ?_ rfl
   exact .fn f a b _ _ (by have := h1.1; simpa using this) (by have := h2.1; simpa using this)
    (fun i x y hx hy => h1.2 i x y hx (by simpa using hy)) (fun i x y hx hy => h2.2 i x y hx (by simpa using hy))
  | _ => exact (fail_some (h := h) (n := n) e).elim
 | makeSlice t l c =>
  simp only [opM] at e
  obtain ⟨a, _, _, _, _, e1, f1, _⟩ := bind_some e
  obtain ⟨ha, rfl, rfl⟩ := lift_some e1
  obtain ⟨b, _, _, _, _, e2, f2, _⟩ := bind_some f1
  obtain ⟨hb, rfl, rfl⟩ := lift_some e2
  exact makeSliceA_sim sr hB hfree (hev l a ha) (hev c b hb) f2
 | makeMap t r =>
  cases r with
  | some _ => exact (fail_some (h := h) (n := n) e).elim
  | none =>
   simp only [opM] at e
   cases hu : P.underlying t with
   | none => rw [hu] at e; exact (fail_some e).elim
   | some d =>
    rw [hu] at e
    cases d with
    | map kt et =>
     simp only at e
     obtain ⟨id, _, _, _, _, e2, f2, _⟩ := bind_some e
     obtain ⟨rfl, rfl, rfl⟩ := new_some e2
     obtain ⟨rfl, rfl, rfl⟩ := pure_some f2
     have hn := hfree id (Nat.le_refl _) (by omega)
     refine Step1.val (w' := w.alloc (.map #[] 0)) (cv := .map (some w.heap.size)) (by simp [Instr.makeMap])
      (sr.add (sr.le_size hB) ((Below.refl _ _).alloc (Nat.le_refl _) _) (fun b hb c t lo hi e0 => by
       have hlt := (Array.getElem?_eq_some_iff.1 e0).1
       obtain rfl : b = w.heap.size := by simp at hlt; omega
       rw [heap_alloc_new w _] at e0
       cases e0) id hn ⟨w.heap.size, 0, 1⟩ rfl (by simp) (.map []) ⟨rfl, rfl, #[], 0, heap_alloc_new w _, rfl, by simp⟩) (upd_le hn _) (upd_other _) ?_
     exact .map id ⟨w.heap.size, 0, 1⟩ (by simp [upd])
    | _ => exact (fail_some e).elim
 | slice t x lo hi mx =>
  cases mx with
  | some _ => exact (fail_some (h := h) (n := n) e).elim
  | none =>
   simp only [opM] at e
   obtain ⟨a, _, _, _, _, e1, f1, _⟩ := bind_some e
   obtain ⟨ha, rfl, rfl⟩ := lift_some e1
   obtain ⟨l, _, _, _, _, e2, f2, _⟩ := bind_some f1
   obtain ⟨hl, rfl, rfl⟩ := lift_some e2
   obtain ⟨r, _, _, _, _, e3, f3, _⟩ := bind_some f2
   obtain ⟨hr, rfl, rfl⟩ := lift_some e3
   obtain ⟨rfl, rfl, cv, hrun, hvr⟩ := sliceA_sim sr (hev x a ha) (evo_rel hev hl) (evo_rel hev hr) f3
   exact Step1.same sr hvr hrun
 | fieldAddr t x i =>
  simp only [opM] at e
  obtain ⟨a, _, _, _, _, e1, f1, _⟩ := bind_some e
  obtain ⟨ha, rfl, rfl⟩ := lift_some e1
  obtain ⟨hv, rfl, rfl⟩ := lift_some f1
  obtain ⟨cv, hrun, hvr⟩ := fieldAddrA_sim (w := w) (hev x a ha) hv
  exact Step1.same sr hvr hrun
 | field t x i =>
  simp only [opM] at e
  obtain ⟨a, _, _, _, _, e1, f1, _⟩ := bind_some e
  obtain ⟨ha, rfl, rfl⟩ := lift_some e1
  obtain ⟨hv, rfl, rfl⟩ := lift_some f1
  obtain ⟨cv, hrun, hvr⟩ := fieldA_sim (w := w) (hev x a ha) hv
  exact Step1.same sr hvr hrun
 | indexAddr t x ix =>
  simp only [opM] at e
  obtain ⟨a, _, _, _, _, e1, f1, _⟩ := bind_some e
  obtain ⟨ha, rfl, rfl⟩ := lift_some e1
  obtain ⟨b, _, _, _, _, e2, f2, _⟩ := bind_some f1
  obtain ⟨hb, rfl, rfl⟩ := lift_some e2
  obtain ⟨hv, rfl, rfl⟩ := lift_some f2
  obtain ⟨cv, hrun, hvr⟩ := indexAddrA_sim (w := w) (hev x a ha) (hev ix b hb) hv
  exact Step1.same sr hvr hrun
 | index t x ix =>
  simp only [opM] at e
  obtain ⟨a, _, _, _, _, e1, f1, _⟩ := bind_some e
  obtain ⟨ha, rfl, rfl⟩ := lift_some e1
  obtain ⟨b, _, _, _, _, e2, f2, _⟩ := bind_some f1
  obtain ⟨hb, rfl, rfl⟩ := lift_some e2
  obtain ⟨hv, rfl, rfl⟩ := lift_some f2
  obtain ⟨cv, hrun, hvr⟩ := indexA_sim (w := w) (hev x a ha) (hev ix b hb) hv
  exact Step1.same sr hvr hrun
 | lookup t x k ok =>
  simp only [opM] at e
  obtain ⟨a, _, _, _, _, e1, f1, _⟩ := bind_some e
  obtain ⟨ha, rfl, rfl⟩ := lift_some e1
  obtain ⟨b, _, _, _, _, e2, f2, _⟩ := bind_some f1
  obtain ⟨hb, rfl, rfl⟩ := lift_some e2
  obtain ⟨rfl, rfl, cv, hrun, hvr⟩ := lookupA_sim (P := P) sr (hev x a ha) (hev k b hb) f2
  exact Step1.same sr hvr hrun
 | mapUpdate t m k x =>
  simp only [opM] at e
  obtain ⟨a, _, _, _, _, e1, f1, _⟩ := bind_some e
  obtain ⟨ha, rfl, rfl⟩ := lift_some e1
  obtain ⟨b, _, _, _, _, e2, f2, _⟩ := bind_some f1
  obtain ⟨hb, rfl, rfl⟩ := lift_some e2
  obtain ⟨c, _, _, _, _, e3, f3, _⟩ := bind_some f2
  obtain ⟨hc, rfl, rfl⟩ := lift_some e3
  obtain ⟨rfl, rfl, w', hrun, hsr⟩ := mapUpdateA_sim (P := P) sr (hev m a ha) (hev k b hb) (hev x c hc) f3
  exact Step1.skip hsr (by simp [execOp, hrun])
 | insert t m k x =>
  simp only [opM] at e
  obtain ⟨a, _, _, _, _, e1, f1, _⟩ := bind_some e
  obtain ⟨ha, rfl, rfl⟩ := lift_some e1
  obtain ⟨b, _, _, _, _, e2, f2, _⟩ := bind_some f1
  obtain ⟨hb, rfl, rfl⟩ := lift_some e2
  obtain ⟨c, _, _, _, _, e3, f3, _⟩ := bind_some f2
  obtain ⟨hc, rfl, rfl⟩ := lift_some e3
  obtain ⟨rfl, rfl, w', hrun, hsr⟩ := mapUpdateA_sim (P := P) sr (hev m a ha) (hev k b hb) (hev x c hc) f3
  exact Step1.skip hsr (by simp [execOp, hrun])
 | extract t i =>
  simp only [opM] at e
  cases ht : ev t with
  | none => rw [ht] at e; exact (fail_some e).elim
  | some tv =>
   rw [ht] at e
   cases tv with
   | tup vs =>
    obtain ⟨hv, rfl, rfl⟩ := lift_some e
    have hvr := hev t _ ht
    generalize hρ : ρ t = y at hvr
    cases hvr with
    | tup _ us h1 h2 =>
     have hlt : i < us.size := by rw [← h1]; exact (List.getElem?_eq_some_iff.1 hv).1
     refine Step1.same sr (h2 i v us[i] hv (Array.getElem?_eq_getElem hlt)) ?_
     rw [hρ]
     simp [Instr.extract, hlt]
   | _ => exact (fail_some e).elim
 | makeInterface t x =>
  simp only [opM] at e
  obtain ⟨a, _, _, _, _, e1, f1, _⟩ := bind_some e
  obtain ⟨ha, rfl, rfl⟩ := lift_some e1
  obtain ⟨hv, rfl, rfl⟩ := lift_some f1
  unfold ifcA at hv
  split at hv
  ·cases hv
  ·rename_i hni
   simp only [Option.some.injEq] at hv
   subst hv
   obtain ⟨d, hd, hdi⟩ := noIface hni
   refine Step1.same sr (.ifc t a _ (hev x a ha)) ?_
   simp only [Instr.makeInterface, Sem.run_bind, run_underlying hd, Result.andThen_ok]
   cases d <;> first | exact absurd rfl (hdi _) | simp
 | typeAssert x xt t ok =>
  simp only [opM] at e
  obtain ⟨a, _, _, _, _, e1, f1, _⟩ := bind_some e
  obtain ⟨ha, rfl, rfl⟩ := lift_some e1
  obtain ⟨hv, rfl, rfl⟩ := lift_some f1
  have hvr := hev x a ha
  cases a with
  | ifc u b =>
   simp only [assertA] at hv
   split at hv
   ·cases hv
   ·rename_i hni
    split at hv
    ·rename_i hu
     subst hu
     simp only [Option.some.injEq] at hv
     subst hv
     obtain ⟨d, hd, hdi⟩ := noIface hni
     generalize hρ : ρ x = y at hvr
     cases hvr with
     | ifc _ _ cv hb =>
      cases ok with
      | true =>
       refine Step1.same sr (cv := .tuple #[cv, .bool true]) (by
        simp only [if_true]
        exact .tup _ _ rfl (fun i a v ha hv => (VRs.cons hb (.cons (.bool true) .nil)).2 i a v ha (by simpa using hv))) ?_
       simp only [hρ, Instr.typeAssert, Sem.run_bind, run_underlying hd, Result.andThen_ok]
       cases d <;> first | exact absurd rfl (hdi _) | simp
      | false =>
       refine Step1.same sr (cv := cv) (by simpa using hb) ?_
       simp only [hρ, Instr.typeAssert, Sem.run_bind, run_underlying hd, Result.andThen_ok]
       cases d <;> first | exact absurd rfl (hdi _) | simp
    ·cases hv
  | _ => cases hv
 | call c =>
  obtain ⟨callee, args, argTypes⟩ := c
  cases callee with
  | builtin b =>
   simp only [opM] at e
   obtain ⟨vs, _, _, _, _, e1, f1, _⟩ := bind_some e
   obtain ⟨hvs, rfl, rfl⟩ := lift_some e1
   have hrel := evs_rel hev hvs
   have hargs : (args.map ρ).toList = args.toList.map ρ := by simp
   cases b with
   | len =>
    obtain ⟨tl, htl⟩ : ∃ tl, argTypes.toList = tl := ⟨_, rfl⟩
    rw [htl] at f1
    cases vs with
    | nil => exact (fail_eq rfl f1).elim
    | cons x vs =>
     cases vs with
     | cons _ _ => exact (fail_eq rfl f1).elim
     | nil =>
      cases tl with
      | nil => exact (fail_eq rfl f1).elim
      | cons t tl =>
       obtain ⟨xv, hx1, hx2⟩ := one_of hrel
       have ht : argTypes[0]? = some t := by rw [← Array.getElem?_toList, htl]; rfl
       have ha : (args.map ρ)[0]? = some xv := by rw [← Array.getElem?_toList, hargs, hx1]; rfl
       obtain ⟨rfl, rfl, cv, hrun, hvr⟩ := lenA_sim (ty := type) sr ht ha hx2 f1
       exact Step1.same sr hvr hrun
   | append =>
    match vs, f1 with
    | [x, y], f1 =>
     obtain ⟨xv, yv, hx1, hx2, hy2⟩ := two_of hrel
     have ha : args.map ρ = #[xv, yv] := by apply Array.ext'; rw [hargs, hx1]
     have := appendA_sim (ty := type) sr hB hfree hx2 hy2 f1
     rw [← ha] at this
     exact this
    | [], f1 => exact (fail_eq rfl f1).elim
    | [_], f1 => exact (fail_eq rfl f1).elim
    | _ :: _ :: _ :: _, f1 => exact (fail_eq rfl f1).elim
   | copy =>
    match vs, f1 with
    | [x, y], f1 =>
     obtain ⟨xv, yv, hx1, hx2, hy2⟩ := two_of hrel
     have ha : args.map ρ = #[xv, yv] := by apply Array.ext'; rw [hargs, hx1]
     obtain ⟨rfl, cv, w', hrun, hsr, hvr⟩ := copyA_sim (ty := type) sr hx2 hy2 f1
     rw [← ha] at hrun
     exact Step1.val hrun hsr (.refl _) (fun _ _ => rfl) hvr
    | [], f1 => exact (fail_eq rfl f1).elim
    | [_], f1 => exact (fail_eq rfl f1).elim
    | _ :: _ :: _ :: _, f1 => exact (fail_eq rfl f1).elim
   | min =>
    obtain ⟨hv, rfl, rfl⟩ := lift_some f1
    obtain ⟨cv, hrun, hvr⟩ := minmax_sim (ts := argTypes) (ty := type) (w := w) hrel hv
    refine Step1.same sr hvr ?_
    have ha : (args.toList.map ρ).toArray = args.map ρ := by apply Array.ext'; simp
    rw [ha] at hrun
    exact hrun
   | max =>
    obtain ⟨hv, rfl, rfl⟩ := lift_some f1
    obtain ⟨cv, hrun, hvr⟩ := minmax_sim (ts := argTypes) (ty := type) (w := w) hrel hv
    refine Step1.same sr hvr ?_
    have ha : (args.toList.map ρ).toArray = args.map ρ := by apply Array.ext'; simp
    rw [ha] at hrun
    exact hrun
   | clear =>
    match vs, f1 with
    | [x], f1 =>
     obtain ⟨xv, hx1, hx2⟩ := one_of hrel
     have ha : args.map ρ = #[xv] := by apply Array.ext'; rw [hargs, hx1]
     obtain ⟨rfl, rfl, cv, w', hrun, hsr, hvr⟩ := clearA_sim (ty := type) sr hx2 f1
     rw [← ha] at hrun
     exact Step1.val hrun hsr (.refl _) (fun _ _ => rfl) hvr
    | [], f1 => exact (fail_eq rfl f1).elim
    | _ :: _ :: _, f1 => exact (fail_eq rfl f1).elim
   | _ => exact (fail_eq rfl f1).elim
  | _ => exact (fail_eq rfl e).elim
 | _ => exact (fail_eq rfl e).elim
end
end Go.Abs
