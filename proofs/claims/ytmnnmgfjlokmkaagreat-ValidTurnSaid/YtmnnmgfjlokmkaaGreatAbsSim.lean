import Derived.Test.YtmnnmgfjlokmkaaGreatAbsFrame
open Go.RowKit (Below)
namespace Go.Abs
def GlobOK (A : Ann) (M : Mem) : Prop := ∀ g cs, A.glob g = some cs → ∀ μ, VR μ M (.tptr cs 0) (.pointer (some ⟨g, 0, none⟩))
theorem GlobOK.mono {A : Ann} {M M' : Mem} (h : GlobOK A M) (hM : M.le M') : GlobOK A M' := fun g cs e μ => (h g cs e μ).mono (.refl _) hM
structure RegR (μ : Mu) (M : Mem) (nt : Nat) (regs : Nat → AV) (a : Act) : Prop where
 size : a.tmps.size = nt
 defers : a.defers = []
 val : ∀ t, VR μ M (regs t) (a.tmps.getD t undef)
theorem RegR.mono {μ μ' : Mu} {M M' : Mem} {nt : Nat} {regs : Nat → AV} {a : Act} (h : RegR μ M nt regs a) (hμ : μ.le μ') (hM : M.le M') : RegR μ' M' nt regs a :=
 ⟨h.size, h.defers, fun t => (h.val t).mono hμ hM⟩
def putR (dst : Option Tmp) (v : AV) (regs : Nat → AV) : Nat → AV := match dst with | none => regs | some d => upd regs d v
def dstOk (nt : Nat) : Option Tmp → Bool
 | none => true
 | some d => decide (d < nt)
theorem RegR.put {μ : Mu} {M : Mem} {nt : Nat} {regs : Nat → AV} {a : Act} (h : RegR μ M nt regs a) {dst : Option Tmp} (hd : dstOk nt dst = true) {v : AV} {cv : Value} (hv : VR μ M v cv) :
  RegR μ M nt (putR dst v regs) (a.put dst cv) := by
 cases dst with
 | none => exact h
 | some d =>
  simp only [dstOk, decide_eq_true_eq] at hd
  refine ⟨by simp [Act.put, h.size], by simp [Act.put, h.defers], fun t => ?_⟩
  simp only [Act.put, putR, upd]
  have hs := h.size
  by_cases e : t = d
  ·subst e
   rw [if_pos rfl]
   have : (a.tmps.setIfInBounds t cv).getD t undef = cv := by
    simp [Array.getD_eq_getD_getElem?, hs, hd]
   rw [this]
   exact hv
  ·rw [if_neg e]
   have : (a.tmps.setIfInBounds d cv).getD t undef = a.tmps.getD t undef := by
    simp [Array.getD_eq_getD_getElem?, Ne.symm e]
   rw [this]
   exact h.val t
theorem evR {A : Ann} {μ : Mu} {M : Mem} {nt : Nat} {regs : Nat → AV} {a : Act} (h : RegR μ M nt regs a) (hg : GlobOK A M) : EvR μ M (evalA A regs) a.eval := by
 intro x v e
 cases x with
 | tmp t => simp only [evalA, Option.some.injEq] at e; subst e; exact h.val t
 | const c => exact ofv_vr e
 | global g =>
  simp only [evalA] at e
  obtain ⟨cs, hcs, rfl⟩ := mapo e
  exact hg g cs hcs μ
 | func f =>
  simp only [evalA, Option.some.injEq] at e
  subst e
  exact .fn f [] [] #[] #[] rfl rfl (by simp) (by simp)
def Ended (B : Nat) (w0 : Anchor) (μ : Mu) (M : Mem) (n n' : Nat) (h' : Heap) (v : AV) (e : Ending) (w' : World) : Prop :=
 ∃ cv μ' M', e = .returned cv ∧ SR B w0 μ' M' h' w' ∧ μ.le μ' ∧ M.le M' ∧ (∀ id, ¬(n ≤ id ∧ id < n') → μ' id = μ id) ∧ VR μ' M' v cv
def CallRes (P : Program) (f : Nat) (args : Array Value) (w : World) (R : Ending → World → Prop) : Prop :=
 ((callFunc f args).run P w = .ok (.enter f args) w ∧ Calls P f args w R) ∨ ∃ cv w', (callFunc f args).run P w = .ok (.value cv) w' ∧ R (.returned cv) w'
theorem CallRes.mono {P : Program} {f : Nat} {args : Array Value} {w : World} {R R' : Ending → World → Prop} (c : CallRes P f args w R) (h : ∀ e w', R e w' → R' e w') : CallRes P f args w R' := by
 rcases c with ⟨a, b⟩ | ⟨cv, w', a, b⟩
 ·exact .inl ⟨a, b.mono h⟩
 ·exact .inr ⟨cv, w', a, h _ _ b⟩
def CallSim (P : Program) (A : Ann) (call : Nat → List AV → AM AV) : Prop :=
 ∀ (B : Nat) (w0 : Anchor) (f : Nat) (vs : List AV) (h : Heap) (n : Nat) (v : AV) (h' : Heap) (n' : Nat) (lg : Log) (μ : Mu) (M : Mem) (w : World) (args : Array Value),
  B ≤ w0.w.heap.size → Fresh h n → call f vs h n = some (v, h', n', lg) → SR B w0 μ M h w → GlobOK A M → (∀ id, n ≤ id → id < n' → μ id = none) → VRs μ M vs args.toList →
  CallRes P f args w (Ended B w0 μ M n n' h' v)
section
variable {P : Program} {A : Ann} {call : Nat → List AV → AM AV} {B : Nat} {w0 : Anchor} {w : World} {μ : Mu} {M : Mem} {g ht ht' : Heap} {n n' nt : Nat} {lg : Log}
theorem frz1_n {v v' : AV} {h h' : Heap} (e : frz1 v h n = some (v', h', n', lg)) : n' = n := by
 have plain : frz1 v = AM.pure v → n' = n := by
  intro hp
  rw [hp] at e
  obtain ⟨_, _, rfl⟩ := pure_some e
  rfl
 cases v with
 | sl id off len sz =>
  unfold frz1 at e
  simp only at e
  obtain ⟨o1, _, _, _, _, q1, q2, _⟩ := bind_some e
  obtain ⟨_, rfl, rfl⟩ := get_some q1
  cases o1 with
  | map es => exact (fail_some q2).elim
  | cells cs =>
   obtain ⟨_, _, _, _, _, q3, q4, _⟩ := bind_some q2
   obtain ⟨_, rfl, rfl⟩ := lift_some q3
   obtain ⟨_, _, _, _, _, q5, q6, _⟩ := bind_some q4
   obtain ⟨rfl, rfl⟩ := kill_some q5
   obtain ⟨_, _, rfl⟩ := pure_some q6
   rfl
 | ptr id off =>
  unfold frz1 at e
  simp only at e
  obtain ⟨o1, _, _, _, _, q1, q2, _⟩ := bind_some e
  obtain ⟨_, rfl, rfl⟩ := get_some q1
  cases o1 with
  | map es => exact (fail_some q2).elim
  | cells cs =>
   obtain ⟨_, _, _, _, _, q5, q6, _⟩ := bind_some q2
   obtain ⟨rfl, rfl⟩ := kill_some q5
   obtain ⟨_, _, rfl⟩ := pure_some q6
   rfl
 | _ => exact plain (by unfold frz1; rfl)
theorem frz1_sim {v v' : AV} {h h' : Heap} {cv : Value} (e : frz1 v h n = some (v', h', n', lg)) (sr : SR B w0 μ M h w) (hv : VR μ M v cv) :
  n' = n ∧ ∃ M', SR B w0 μ M' h' w ∧ M.le M' ∧ VR μ M' v' cv := by
 have plain : frz1 v = AM.pure v → n' = n ∧ ∃ M', SR B w0 μ M' h' w ∧ M.le M' ∧ VR μ M' v' cv := by
  intro hp
  rw [hp] at e
  obtain ⟨rfl, rfl, rfl⟩ := pure_some e
  exact ⟨rfl, M, sr, .refl _, hv⟩
 cases v with
 | sl id off len sz =>
  unfold frz1 at e
  simp only at e
  obtain ⟨o, h1, n1, _, _, e1, f1, _⟩ := bind_some e
  obtain ⟨ho, rfl, rfl⟩ := get_some e1
  cases o with
  | map es => exact (fail_some f1).elim
  | cells cs =>
   obtain ⟨cs1, _, _, _, _, e2, f2, _⟩ := bind_some f1
   obtain ⟨hs, rfl, rfl⟩ := lift_some e2
   obtain ⟨u, _, _, _, _, e3, f3, _⟩ := bind_some f2
   obtain ⟨rfl, rfl⟩ := kill_some e3
   obtain ⟨rfl, rfl, rfl⟩ := pure_some f3
   cases hv with
   | sl _ _ _ _ cap r a hr hlc hcap =>
    obtain ⟨r', g1, _, _, g4, _, vs0, g6, g7⟩ := sr.cellsOf ho
    rw [hr] at g1
    cases g1
    obtain ⟨s1, s2⟩ := sr.freeze ho hr
    have hcs1 := (sliceL_vrs hs g6).mono (.refl _) s2
    have hlen := sliceL_len hs
    refine ⟨rfl, _, s1, s2, ?_⟩
    have hpos : ∀ {i : Nat} {c : AV}, cs1[i]? = some c → i < len * sz ∧ 0 < cap := by
     intro i c hc
     have := (List.getElem?_eq_some_iff.1 hc).1
     refine ⟨by omega, ?_⟩
     rcases Nat.eq_zero_or_pos len with h0 | h0
     ·subst h0; rw [Nat.zero_mul] at hlen; omega
     ·omega
    refine .tsl cs1 len cap a (fun i => vs0.getD (off + i) undef) hlc ?_ ?_ ?_
    ·intro hne
     have : 0 < cap := by
      rcases hne with h0 | h0
      ·omega
      ·cases cs1 with
       | nil => exact absurd rfl h0
       | cons c l => exact (hpos (i := 0) (c := c) rfl).2
     obtain ⟨rfl, _⟩ := hcap this
     rfl
    ·intro i c hc
     obtain ⟨hi, hc0⟩ := hpos hc
     obtain ⟨rfl, _⟩ := hcap hc0
     have hadd : addMem M w r cs.length r.b (r.o + off + i) = w.cell? ⟨r.b, r.o + off + i, none⟩ := by
      unfold addMem
      rw [if_pos ⟨rfl, by omega, by omega⟩]
     refine hadd.trans ?_
     have hlt : off + i < vs0.length := by rw [← g6.1]; omega
     rw [List.getD_eq_getElem?_getD, List.getElem?_eq_getElem hlt]
     simp only [Option.getD_some]
     rw [Nat.add_assoc]
     exact g7 _ _ (List.getElem?_eq_getElem hlt)
    ·intro i c hc
     obtain ⟨hi, _⟩ := hpos hc
     have hlt : off + i < vs0.length := by rw [← g6.1]; omega
     refine hcs1.2 i c _ hc ?_
     rw [List.getElem?_take, if_pos hi, List.getElem?_drop, List.getD_eq_getElem?_getD, List.getElem?_eq_getElem hlt]
     rfl
 | ptr id off =>
  unfold frz1 at e
  simp only at e
  obtain ⟨o, h1, n1, _, _, e1, f1, _⟩ := bind_some e
  obtain ⟨ho, rfl, rfl⟩ := get_some e1
  cases o with
  | map es => exact (fail_some f1).elim
  | cells cs =>
   obtain ⟨u, _, _, _, _, e3, f3, _⟩ := bind_some f1
   obtain ⟨rfl, rfl⟩ := kill_some e3
   obtain ⟨rfl, rfl, rfl⟩ := pure_some f3
   cases hv with
   | ptr _ _ r hr =>
    obtain ⟨r', g1, _, _, g4, _, vs0, g6, g7⟩ := sr.cellsOf ho
    rw [hr] at g1
    cases g1
    obtain ⟨s1, s2⟩ := sr.freeze ho hr
    have hcs1 := g6.mono (.refl μ) s2
    refine ⟨rfl, _, s1, s2, ?_⟩
    refine .tptr cs off r.b r.o (fun i => vs0.getD i undef) ?_ ?_
    ·intro i c hc
     have hi := (List.getElem?_eq_some_iff.1 hc).1
     have hadd : addMem M w r cs.length r.b (r.o + i) = w.cell? ⟨r.b, r.o + i, none⟩ := by
      unfold addMem
      rw [if_pos ⟨rfl, by omega, by omega⟩]
     refine hadd.trans ?_
     have hlt : i < vs0.length := by rw [← g6.1]; omega
     rw [List.getD_eq_getElem?_getD, List.getElem?_eq_getElem hlt]
     simp only [Option.getD_some]
     exact g7 _ _ (List.getElem?_eq_getElem hlt)
    ·intro i c hc
     have hi := (List.getElem?_eq_some_iff.1 hc).1
     have hlt : i < vs0.length := by rw [← g6.1]; omega
     refine hcs1.2 i c _ hc ?_
     rw [List.getD_eq_getElem?_getD, List.getElem?_eq_getElem hlt]
     rfl
 | bool b => exact plain (by unfold frz1; rfl)
 | int k n => exact plain (by unfold frz1; rfl)
 | str s => exact plain (by unfold frz1; rfl)
 | nil k => exact plain (by unfold frz1; rfl)
 | agg cs => exact plain (by unfold frz1; rfl)
 | tup cs => exact plain (by unfold frz1; rfl)
 | tptr cs off => exact plain (by unfold frz1; rfl)
 | tsl cs len => exact plain (by unfold frz1; rfl)
 | map id => exact plain (by unfold frz1; rfl)
 | fn f a b => exact plain (by unfold frz1; rfl)
 | ifc t a => exact plain (by unfold frz1; rfl)
theorem run_typeInfo0 {P : Program} {w : World} {t : TypeId} {i : TypeInfo} (h : P.info? t = some i) : (typeInfo t).run P w = .ok i w := by
 simp [typeInfo, h]
theorem wrapNil {a : Addr} {s1 s2 : String} {ts : Array TypeId} {t : TypeId} : Builtin.ssaWrapNilChk_ ts t #[.pointer (some a), strVal s1, strVal s2] = pure (.pointer (some a)) := rfl
theorem meth_run {P : Program} {w : World} {t : TypeId} {name : String} {f : Nat} {oe : Option TypeId} {cv cr : Value} (h : methA P t name = some (f, oe))
  (hl : match oe with
   | none => cr = cv
   | some e => ∃ b o, cv = .pointer (some ⟨b, o, none⟩) ∧ (loadVar e ⟨b, o, none⟩).run P w = .ok cr w) : (method (P.types.size + Made.depth) t cv name).run P w = .ok (f, cr) w := by
 obtain ⟨k, hk⟩ : ∃ k, P.types.size + Made.depth = k + 1 := ⟨P.types.size + Made.depth - 1, by unfold Made.depth; omega⟩
 rw [hk]
 unfold methA at h
 split at h
 ·cases h
 ·rename_i i hi
  split at h
  ·cases h
  ·rename_i m hm
   split at h
   ·rename_i hp
    have hp : m.path = #[] := by
     apply Array.ext'
     simpa using hp
    split at h
    ·rename_i f' el hf hu
     simp only [Option.some.injEq, Prod.mk.injEq] at h
     obtain ⟨rfl, rfl⟩ := h
     simp only at hl
     subst hl
     simp [method, run_typeInfo0 hi, hm, hp, follow, hf, receiverAt, run_underlying hu, Place.get]
    ·rename_i f' el hf hu
     simp only [Option.some.injEq, Prod.mk.injEq] at h
     obtain ⟨rfl, rfl⟩ := h
     obtain ⟨b, o, rfl, hrun⟩ := hl
     simp [method, run_typeInfo0 hi, hm, hp, follow, hf, receiverAt, run_underlying hu, Place.get, wrapNil, asAddr, hrun]
    ·cases h
   ·cases h
theorem lift_q {α : Type} {x : Option α} {h : Heap} {n : Nat} {b : α} {h2 : Heap} {n2 : Nat} {lg : Log} (e : AM.lift x h n = some (b, h2, n2, lg)) : lg = ([], []) := by
 cases x with
 | none => cases e
 | some a =>
  simp only [AM.lift, AM.pure, Option.some.injEq, Prod.mk.injEq] at e
  exact e.2.2.2.symm
theorem loadT_quiet {P : Program} {t : TypeId} {p v : AV} {h h' : Heap} {n n' : Nat} {lg : Log} (e : loadT P t p h n = some (v, h', n', lg)) : lg.2 = [] := by
 unfold loadT at e
 obtain ⟨agg, h1, n1, l1, l2, e1, f1, rfl⟩ := bind_some e
 obtain ⟨m, h2, n2, l3, l4, e2, f2, rfl⟩ := bind_some f1
 obtain ⟨cs, h3, n3, l5, l6, e3, f3, rfl⟩ := bind_some f2
 have a1 := lift_q e1
 have a2 := lift_q e2
 have a3 := lift_q f3
 have a4 : l5.2 = [] := by
  cases p with
  | ptr id off =>
   simp only [cellsAt] at e3
   obtain ⟨ob, h4, n4, l7, l8, e4, f4, rfl⟩ := bind_some e3
   have b1 : l7.2 = [] := by
    unfold AM.get at e4
    cases hid : h2 id with
    | none => rw [hid] at e4; cases e4
    | some o => rw [hid] at e4; simp only [Option.some.injEq, Prod.mk.injEq] at e4; rw [← e4.2.2.2]
   have b2 : l8 = ([], []) := by
    cases ob with
    | cells cs => exact lift_q f4
    | map es => cases f4
   simp [b1, b2]
  | tptr cs off => rw [lift_q e3]
  | _ => cases e3
 simp [a1, a2, a3, a4]
theorem opV_sim (hc : CallSim P A call) (hl : ∀ f vs, Local (call f vs)) (hB : B ≤ w0.w.heap.size) (hf : Fresh ht n) {f0 : Nat} {o : Oper} {r0 regs : Nat → AV} {v : AV} (e : opV call P A f0 o r0 ht n = some (v, ht', n', lg))
  (ha : Agree g ht n n' lg) (hr : ∀ t, Operand.tmp t ∈ o.op.operands → regs t = r0 t) (sr : SR B w0 μ M g w) (hg : GlobOK A M) (hfree : ∀ id, n ≤ id → id < n' → μ id = none) {a : Act} (rr : RegR μ M nt regs a)
  {K : Act → World → Prop} {Q : Exit → Act → World → Prop}
  (hK : ∀ cv w' μ' M', SR B w0 μ' M' (over g ht' n n' lg.2) w' → μ.le μ' → M.le M' → (∀ id, ¬(n ≤ id ∧ id < n') → μ' id = μ id) → VR μ' M' v cv → K (a.put o.dst cv) w') : o.wp P a w K Q := by
 have hlop := local_opV P A f0 hl o r0
 obtain ⟨hfc, ec⟩ := local_cut hlop hf e ha
 have hev : ∀ x ∈ o.op.operands, evalA A r0 x = evalA A regs x := by
  intro x hx
  cases x with
  | tmp t => simp only [evalA]; rw [hr t (by simpa using hx)]
  | _ => rfl
 have evr := evR rr hg
 have scut := sr.cut (lg := lg)
 obtain ⟨m, hm⟩ : ∃ m, m = opV call P A f0 o r0 := ⟨_, rfl⟩
 rw [← hm] at ec
 unfold opV at hm
 split at hm
 ·rename_i x args ts hop
  subst hm
  cases hx : evalA A r0 x with
  | none => rw [hx] at ec; exact (fail_some ec).elim
  | some fv =>
   rw [hx] at ec
   cases fv with
   | fn f first cap =>
    simp only at ec
    obtain ⟨vs, h1, n1, l1, l2, e1, e2, hlg⟩ := bind_some ec
    obtain ⟨hvs, rfl, rfl⟩ := lift_some e1
    have hl1 : l1 = ([], []) := by
     rw [hvs] at e1
     simp only [AM.lift, AM.pure, Option.some.injEq, Prod.mk.injEq] at e1
     exact e1.2.2.2.symm
    subst hl1
    simp only [List.nil_append] at hlg
    subst hlg
    have hmx : x ∈ o.op.operands := by rw [hop]; simp [Op.operands, Call.operands]
    have hfx := evr x _ (by rw [← hev x hmx]; exact hx)
    have hargs : VRs μ M vs (args.toList.map a.eval) := by
     refine evs_rel evr ?_
     rw [← hvs]
     exact (evs_congr (fun y hy => hev y (by rw [hop]; simp [Op.operands, Call.operands]; right; simpa using hy))).symm
    generalize hfe : a.eval x = fval at hfx
    cases hfx with
    | fn _ _ _ fvs cvs q1 q2 q3 q4 =>
     have hfv : VRs μ M first fvs.toList := ⟨by simpa using q1, fun i y z hy hz => q3 i y z hy (by simpa using hz)⟩
     have hcv : VRs μ M cap cvs.toList := ⟨by simpa using q2, fun i y z hy hz => q4 i y z hy (by simpa using hz)⟩
     rcases hc B (w0.with g μ (l2.1, l2.2) w) f (first ++ vs ++ cap) _ _ v _ n' _ μ M w (fvs ++ args.map a.eval ++ cvs) hB hfc e2 scut hg hfree (by simpa using (hfv.append hargs).append hcv) with ⟨k1, k2⟩ | ⟨cv, w', k1, k2⟩
     rotate_left
     ·unfold Oper.wp
      have hrun : (execOp a.eval o).run P w = .ok (.value cv) w' := by
       unfold execOp
       rw [hop]
       simp only [resolve, hfe, Deferred.ofValue, Sem.run_bind, Sem.run_pure, Result.andThen_ok, invoke]
       exact k1
      rw [hrun, Oper.upon_value]
      obtain ⟨cv, μ', M', h0, s1, s2, s3, s4, s5⟩ := k2
      cases h0
      exact hK cv w' μ' M' (sr.uncut s1 s2 s3) s2 s3 s4 s5
     unfold Oper.wp
     have hrun : (execOp a.eval o).run P w = .ok (.enter f (fvs ++ args.map a.eval ++ cvs)) w := by
      unfold execOp
      rw [hop]
      simp only [resolve, hfe, Deferred.ofValue, Sem.run_bind, Sem.run_pure, Result.andThen_ok, invoke]
      exact k1
     rw [hrun, Oper.upon_enter]
     refine k2.mono ?_
     rintro e' w' ⟨cv, μ', M', rfl, s1, s2, s3, s4, s5⟩
     exact hK cv w' μ' M' (sr.uncut s1 s2 s3) s2 s3 s4 s5
   | _ => exact (fail_some ec).elim
 ·rename_i x name args ts hop
  subst hm
  cases hx : evalA A r0 x with
  | none => rw [hx] at ec; exact (fail_some ec).elim
  | some fv =>
   rw [hx] at ec
   cases fv with
   | ifc t v1 =>
    simp only at ec
    cases hmt : methA P t name with
    | none => rw [hmt] at ec; exact (fail_some ec).elim
    | some ge =>
     rw [hmt] at ec
     obtain ⟨f, oe⟩ := ge
     have hmx : x ∈ o.op.operands := by rw [hop]; simp [Op.operands, Call.operands]
     have hfx := evr x _ (by rw [← hev x hmx]; exact hx)
     generalize hfe : a.eval x = fval at hfx
     cases hfx with
     | ifc _ _ cv hcv =>
      have key : ∃ rv cr l1 l2, VR μ M rv cr ∧ AM.bind (AM.lift (evs (evalA A r0) args.toList)) (fun vs => call f (rv :: vs)) (cutTo g lg) n = some (v, over (cutTo g lg) ht' n n' lg.2, n', l2) ∧ lg = (l1 ++ l2.1, l2.2) ∧
        (method (P.types.size + Made.depth) t cv name).run P w = .ok (f, cr) w := by
       cases oe with
       | none => exact ⟨v1, cv, [], lg, hcv, ec, by simp, meth_run hmt rfl⟩
       | some el =>
        simp only at ec
        obtain ⟨u, h1, n1, l1, l2, e1, e2, hlg⟩ := bind_some ec
        have hq := loadT_quiet e1
        obtain ⟨rfl, rfl, b, ob, cu, hpv, hvr, hrun⟩ := loadT_sim scut hcv e1
        exact ⟨u, cu, l1.1, l2, hvr, e2, by rw [hlg, hq]; rfl, meth_run hmt ⟨b, ob, hpv, hrun⟩⟩
      obtain ⟨rv, cr, l1, l2, hrv, e0, hlg, hmeth⟩ := key
      obtain ⟨vs, h1, n1, l3, l4, e1, e2, hlg2⟩ := bind_some e0
      obtain ⟨hvs, rfl, rfl⟩ := lift_some e1
      have hl3 := lift_q e1
      subst hl3
      simp only [List.nil_append] at hlg2
      have hl24 : l2 = l4 := hlg2
      subst hl24
      have hargs : VRs μ M vs (args.toList.map a.eval) := by
       refine evs_rel evr ?_
       rw [← hvs]
       exact (evs_congr (fun y hy => hev y (by rw [hop]; simp [Op.operands, Call.operands]; right; simpa using hy))).symm
      have hrun0 : (execOp a.eval o).run P w = (callFunc f (#[cr] ++ args.map a.eval)).run P w := by
       unfold execOp
       rw [hop]
       have hx0 : (#[Value.iface t cv] ++ args.map a.eval)[0]? = some (.iface t cv) := by rw [Array.getElem?_append_left (by simp)]; rfl
       have hx1 : (#[Value.iface t cv] ++ args.map a.eval).extract 1 (#[Value.iface t cv] ++ args.map a.eval).size = args.map a.eval := by
        apply Array.ext'
        simp [List.extract]
        exact List.take_of_length_le (by simp)
       simp only [resolve, hfe, Sem.run_bind, Sem.run_pure, Result.andThen_ok, invoke, hx0, hx1, callMethod, run_program, hmeth]
      unfold Oper.wp
      rw [hrun0]
      rcases hc B (w0.with g μ lg w) f (rv :: vs) _ _ v _ n' _ μ M w (#[cr] ++ args.map a.eval) hB hfc e2 scut hg hfree (by simpa using VRs.cons hrv hargs) with ⟨k1, k2⟩ | ⟨cv, w', k1, k2⟩
      rotate_left
      ·rw [k1, Oper.upon_value]
       obtain ⟨cv, μ', M', h0, s1, s2, s3, s4, s5⟩ := k2
       cases h0
       exact hK cv w' μ' M' (sr.uncut s1 s2 s3) s2 s3 s4 s5
      have hrun := k1
      rw [hrun, Oper.upon_enter]
      refine k2.mono ?_
      rintro e' w' ⟨cv2, μ', M', rfl, s1, s2, s3, s4, s5⟩
      exact hK cv2 w' μ' M' (sr.uncut s1 s2 s3) s2 s3 s4 s5
   | _ => exact (fail_some ec).elim
 ·rename_i hno hno2
  subst hm
  rw [opM_congr o.op hev] at ec
  by_cases hro : roAt A f0 o.dst = true
  ·rw [if_pos hro] at ec
   unfold shut hush at ec
   split at ec
   ·cases ec
   ·rename_i v1 h1 n1 lg1 ec1
    simp only [Option.some.injEq, Prod.mk.injEq] at ec
    obtain ⟨rfl, rfl, rfl, _⟩ := ec
    obtain ⟨v0, h2, n2, l2, l3, e2, e3, _⟩ := bind_some ec1
    have hn : n1 = n2 := frz1_n e3
    subst hn
    obtain ⟨μ', w', nx, cv, k1, k2, k3, k4, k5, k6⟩ := opM_sim (o := o) scut hB hfree evr e2
    obtain ⟨_, M', t1, t2, t3⟩ := frz1_sim e3 k3 k6
    unfold Oper.wp
    rw [k1]
    have := sr.uncut t1 k4 t2
    rcases k2 with rfl | ⟨rfl, rfl⟩
    ·rw [Oper.upon_value]
     exact hK cv w' μ' M' this k4 t2 k5 t3
    ·rw [Oper.upon_skip]
     exact hK undef w' μ' M' this k4 t2 k5 t3
  ·rw [if_neg hro] at ec
   obtain ⟨μ', w', nx, cv, k1, k2, k3, k4, k5, k6⟩ := opM_sim (o := o) scut hB hfree evr ec
   unfold Oper.wp
   rw [k1]
   have := sr.uncut k3 k4 (.refl _)
   rcases k2 with rfl | ⟨rfl, rfl⟩
   ·rw [Oper.upon_value]
    exact hK cv w' μ' M this k4 (.refl _) k5 k6
   ·rw [Oper.upon_skip]
    exact hK undef w' μ' M this k4 (.refl _) k5 k6
theorem wanted_sim {ops : Array Oper} {o : Oper} {regs : Nat → AV} {a : Act} {b : Bool} (rr : RegR μ M nt regs a) (e : wantedA ops o regs = some b) : Region.wanted o (yielded ops a.tmps) = b := by
 unfold wantedA at e
 unfold Region.wanted
 cases hg : o.guard with
 | none => rw [hg] at e; simp only [Option.some.injEq] at e; subst e; rfl
 | some jw =>
  obtain ⟨j, want⟩ := jw
  rw [hg] at e
  simp only at e ⊢
  cases hd : (ops[j]?).bind (·.dst) with
  | none => rw [hd] at e; cases e
  | some d =>
   rw [hd] at e
   simp only at e
   cases hr : regs d with
   | bool c =>
    rw [hr] at e
    simp only [Option.some.injEq] at e
    subst e
    have hv := rr.val d
    rw [hr] at hv
    have hv' : a.tmps.getD d undef = .bool c := by
     generalize a.tmps.getD d undef = y at hv
     cases hv
     rfl
    have hy : yielded ops a.tmps j = some c := by
     unfold yielded
     rw [hd]
     simp only [Option.bind_some]
     cases ht : a.tmps[d]? with
     | none => rw [Array.getD_eq_getD_getElem?, ht] at hv'; simp [undef] at hv'
     | some u => rw [Array.getD_eq_getD_getElem?, ht] at hv'; simp at hv'; subst hv'; rfl
    rw [hy]
    simp
   | tup l =>
    cases l with
    | cons x l => rw [hr] at e; cases e
    | nil =>
     rw [hr] at e
     simp only [Option.some.injEq] at e
     subst e
     have hv := rr.val d
     rw [hr] at hv
     have hy : yielded ops a.tmps j = none := by
      unfold yielded
      rw [hd]
      simp only [Option.bind_some]
      cases ht : a.tmps[d]? with
      | none => rfl
      | some u =>
       rw [Array.getD_eq_getD_getElem?, ht] at hv
       simp only [Option.getD_some] at hv
       cases hv
       rfl
     rw [hy]
     rfl
   | _ => rw [hr] at e; cases e
structure OpDone (call : Nat → List AV → AM AV) (P : Program) (A : Ann) (f nt : Nat) (ops : Array Oper) (o : Oper) (fr : Fr) (ht : Heap) (n : Nat) (fr' : Fr) (ht' : Heap) (n' : Nat) (lg : Log) (v : AV) : Prop where
 step : stepA call P A f nt ops o fr ht n = some (fr', ht', n', lg)
 regs : fr'.regs = putR o.dst v fr.regs
 dst : dstOk nt o.dst = true
 kind : (wantedA ops o fr.regs = some true ∧ opV call P A f o fr.regs ht n = some (v, ht', n', lg)) ∨ (wantedA ops o fr.regs = some false ∧ v = .undef ∧ ht' = ht ∧ n' = n ∧ lg = ([], []))
theorem lift_log {α : Type} {x : Option α} {h : Heap} {n : Nat} {b : α} {h2 : Heap} {n2 : Nat} {lg : Log} (e : AM.lift x h n = some (b, h2, n2, lg)) : lg = ([], []) := by
 cases x with
 | none => cases e
 | some a =>
  simp only [AM.lift, AM.pure, Option.some.injEq, Prod.mk.injEq] at e
  exact e.2.2.2.symm
theorem stepA_done {f : Nat} {ops : Array Oper} {o : Oper} {fr fr' : Fr} (e : stepA call P A f nt ops o fr ht n = some (fr', ht', n', lg)) : ∃ v, OpDone call P A f nt ops o fr ht n fr' ht' n' lg v := by
 have e0 := e
 unfold stepA at e
 cases hw : wantedA ops o fr.regs with
 | none => rw [hw] at e; exact (fail_some e).elim
 | some b =>
  rw [hw] at e
  cases b with
  | true =>
   simp only at e
   obtain ⟨v, h1, n1, l1, l2, e1, e2, rfl⟩ := bind_some e
   have hl2 := lift_log e2
   subst hl2
   obtain ⟨hp, rfl, rfl⟩ := lift_some e2
   refine ⟨v, e0, ?_, ?_, .inl ⟨hw, by simpa using e1⟩⟩
   ·unfold putA at hp
    cases hd : o.dst with
    | none => rw [hd] at hp; simp only [Option.some.injEq] at hp; subst hp; rfl
    | some d =>
     rw [hd] at hp
     simp only at hp
     split at hp
     ·simp only [Option.some.injEq] at hp; subst hp; rfl
     ·cases hp
   ·unfold putA at hp
    cases hd : o.dst with
    | none => rfl
    | some d =>
     rw [hd] at hp
     simp only at hp
     split at hp
     ·simpa [dstOk]
     ·cases hp
  | false =>
   simp only at e
   have hlg := lift_log e
   obtain ⟨hp, rfl, rfl⟩ := lift_some e
   refine ⟨.undef, e0, ?_, ?_, .inr ⟨hw, rfl, rfl, rfl, hlg⟩⟩
   ·cases hd : o.dst with
    | none => rw [hd] at hp; simp only [Option.some.injEq] at hp; subst hp; rfl
    | some d =>
     rw [hd] at hp
     simp only at hp
     split at hp
     ·simp only [Option.some.injEq] at hp; subst hp; rfl
     ·cases hp
   ·cases hd : o.dst with
    | none => rfl
    | some d =>
     rw [hd] at hp
     simp only at hp
     split at hp
     ·simpa [dstOk]
     ·cases hp
theorem OpDone.sim (hc : CallSim P A call) (hl : ∀ f vs, Local (call f vs)) (hB : B ≤ w0.w.heap.size) (hf : Fresh ht n) {f : Nat} {ops : Array Oper} {o : Oper} {fr fr' : Fr} {v : AV} (d : OpDone call P A f nt ops o fr ht n fr' ht' n' lg v)
  {i : Nat} (hi : ops[i]? = some o) (ha : Agree g ht n n' lg) {regs : Nat → AV} (hr : ∀ t, t ∈ o.looksAt ops → regs t = fr.regs t) (sr : SR B w0 μ M g w) (hg : GlobOK A M) (hfree : ∀ id, n ≤ id → id < n' → μ id = none) {a : Act} (rr : RegR μ M nt regs a)
  {K : Act → World → Prop} {Q : Exit → Act → World → Prop}
  (hK : ∀ a' w' μ' M', SR B w0 μ' M' (over g ht' n n' lg.2) w' → μ.le μ' → M.le M' → (∀ id, ¬(n ≤ id ∧ id < n') → μ' id = μ id) → RegR μ' M' nt (putR o.dst v regs) a' → K a' w') : wpOp P ops Q i K a w := by
 have hops : ∀ t, Operand.tmp t ∈ o.op.operands → regs t = fr.regs t := fun t ht' => hr t (by
  unfold Oper.looksAt
  refine List.mem_append_left _ (List.mem_filterMap.2 ⟨.tmp t, by simpa using ht', rfl⟩))
 have hwant : wantedA ops o regs = wantedA ops o fr.regs := by
  unfold wantedA
  cases hgd : o.guard with
  | none => rfl
  | some jw =>
   obtain ⟨j, want⟩ := jw
   simp only
   cases hd : (ops[j]?).bind (·.dst) with
   | none => rfl
   | some t =>
    simp only
    rw [hr t (by
     unfold Oper.looksAt
     refine List.mem_append_right _ ?_
     rw [hgd]
     simp only
     rw [hd]
     simp)]
 unfold wpOp
 rw [hi]
 simp only
 rcases d.kind with ⟨hw, hv⟩ | ⟨hw, rfl, rfl, rfl, rfl⟩
 ·rw [wanted_sim rr (hwant.trans hw)]
  simp only [if_true]
  refine .inl (opV_sim hc hl hB hf hv ha hops sr hg hfree rr ?_)
  intro cv w' μ' M' s1 s2 s3 s4 s5
  exact hK _ w' μ' M' s1 s2 s3 s4 ((rr.mono s2 s3).put d.dst s5)
 ·rw [wanted_sim rr (hwant.trans hw)]
  simp only [Bool.false_eq_true, if_false]
  refine hK _ w μ M ?_ (.refl _) (.refl _) (fun _ _ => rfl) (rr.put d.dst .undef)
  rw [over_nil]
  exact sr
end
end Go.Abs
