/- The evaluator's second form is sound: steps, rows, regions. -/
import Derived.Test.YtpkplkccncfkgaaGreatAbsXa
namespace Go.Abs

theorem lkE_cons {d t : Nat} {v : AV} {ρ : EV} : lkE t ((d, v) :: ρ) = if t = d then some v else lkE t ρ := by
  show Bool.rec (motive := fun _ => Option AV) (lkE t ρ) (some v) (Nat.beq t d) = _
  cases h : Nat.beq t d with
  | true => rw [if_pos (beq_eq h)]
  | false => rw [if_neg (beq_ne h)]
theorem EnvOK.put {ρ : EV} {rg : Nat → AV} (h : EnvOK ρ rg) (d : Nat) (v : AV) : EnvOK ((d, v) :: ρ) (upd rg d v) := by
  intro t u e
  rw [lkE_cons] at e
  unfold upd
  split at e
  · rename_i ht
    rw [if_pos ht]
    exact Option.some.inj e
  · rename_i ht
    rw [if_neg ht]
    exact h t u e

section
variable {P : Program} {A : Ann} {f nt : Nat} {r : AV}

/- what a step comes to -/
def ZOut (P : Program) (A : Ann) (f nt : Nat) (ops : Array Oper) (o0 : Oper) (o : SO) (ρ : EV) (fr : Fr) (s : HS) (h : Heap) (n : Nat) (K : AV → HS → RT) (r : AV) : Prop :=
  ∃ fr' v h' n' lg s', (∃ k0, ∀ k, k0 ≤ k → stepA (callN P A k) P A f nt ops o0 fr h n = some (fr', h', n', lg)) ∧ Nx (unb s) h n lg (unb s') h' n' ∧ s'.bx = fr'.boxes ∧ EnvOK (bindE o.dst v ρ) fr'.regs ∧ (∀ t, o.dst ≠ some t → fr'.regs t = fr.regs t) ∧ K v s' = some r

theorem zput_box {o0 : Oper} {v : AV} {s1 : HS} {fr : Fr} {d : Nat} (hd0 : o0.dst = some d) (hdn : d < nt) (hb1 : s1.bx = fr.boxes) : ∃ bxs, putA A f nt o0 v fr = some ⟨upd fr.regs d v, bxs⟩ ∧ (pushB A f o0 v s1).bx = bxs := by
  refine ⟨if isBox o0.op && !A.esc f d then (match v with | .ptr id _ => id :: fr.boxes | _ => fr.boxes) else fr.boxes, ?_, ?_⟩
  · unfold putA
    rw [hd0]
    simp only []
    rw [if_pos hdn]
    rfl
  · unfold pushB
    rw [hd0]
    simp only []
    split
    · cases v <;> first | exact hb1 | (show _ :: s1.bx = _ :: fr.boxes; rw [hb1])
    · exact hb1
theorem zput_ok {ops : Array Oper} {o0 : Oper} {o : SO} {cl : CL} {ρ : EV} {s : HS} {K : AV → HS → RT} {fr : Fr} {h : Heap} {n : Nat} (hc : CLok P A cl) (h1 : o.dst = o0.dst) (h2 : o.k = slAll P A f o0.dst o0.op) (hd : dokO nt o.dst = true) (hw : wantedA ops o0 fr.regs = some true)
    (hf : EnvOK ρ fr.regs) (hb : s.bx = fr.boxes) (hr : Rel s h n) (e : dZ (kD cl ρ o.k) s K = some r) : ZOut P A f nt ops o0 o ρ fr s h n K r := by
  have e' : kC o.k cl (mkR fr.regs) s K = some r := by
    unfold kD at e
    cases hk : okK ρ o.k with
    | false => rw [hk] at e; exact (nn e).elim
    | true =>
      rw [hk] at e
      replace e : dZ (kD0 cl ρ o.k) s K = some r := e
      by_cases hn : (∀ op x y, o.k = .bin op x y → op ≠ .rem ∧ askQ ρ (opN op) = false) ∧ ∀ kd x, o.k = .cv kd x → askQ ρ 20 = false
      · have hc := kdC hf.r cl hn.1 hn.2 hk
        cases hd0 : kD0 cl ρ o.k with
        | known v => rw [hd0] at e hc; rw [hc s K]; exact e
        | val h => rw [hd0] at e hc; rw [hc s K]; exact e
        | heap h => rw [hd0] at e hc; rw [hc s K]; exact e
      · have hx : (∃ op x y, o.k = .bin op x y ∧ (op = .rem ∨ askQ ρ (opN op) = true)) ∨ ∃ kd x, o.k = .cv kd x ∧ askQ ρ 20 = true := by
          by_cases h1 : ∃ kd x, o.k = .cv kd x ∧ askQ ρ 20 = true
          · exact .inr h1
          · refine .inl (Classical.byContradiction fun h2 => hn ⟨fun op x y hk => ?_, fun kd x hk => ?_⟩)
            · refine ⟨fun h => h2 ⟨op, x, y, hk, .inl h⟩, ?_⟩
              cases ha : askQ ρ (opN op) with
              | false => rfl
              | true => exact absurd ⟨op, x, y, hk, .inr ha⟩ h2
            · cases ha : askQ ρ 20 with
              | false => rfl
              | true => exact absurd ⟨kd, x, hk, ha⟩ h1
        rcases hx with ⟨op, x, y, hk', ho⟩ | ⟨kd, x, hk', ha⟩
        · rw [hk'] at e hk ⊢
          obtain ⟨h0, hz⟩ := and2 hk
          show hB (binC op) (evC x) (evC y) cl (mkR fr.regs) s K = some r
          unfold hB
          simp only [evX hf.r h0, evX hf.r hz]
          replace e : dZ (binD cl ρ op (regX x) (xvE ρ x) (xvE ρ y)) s K = some r := e
          unfold binD at e
          cases ha : askQ ρ (opN op) with
          | true =>
            rw [ha] at e
            replace e : cl .rem [xvE ρ x, xvE ρ y, .int .i64 (.ofNat (regX x)), .int .i64 (.ofNat (opN op))] s K = some r := e
            replace e := hc.2 _ _ _ _ e
            cases op <;> exact e
          | false =>
            rw [ha] at e
            rcases ho with rfl | ho
            · replace e : cl .rem [xvE ρ x, xvE ρ y, .int .i64 (.ofNat (regX x))] s K = some r := e
              exact hc.2 _ _ _ _ e
            · rw [ha] at ho; cases ho
        · rw [hk'] at e hk ⊢
          have h0 : okX ρ x = true := hk
          show hCv kd (evC x) cl (mkR fr.regs) s K = some r
          unfold hCv
          simp only [evX hf.r h0]
          replace e : dZ (cvD cl ρ kd (regX x) (xvE ρ x)) s K = some r := e
          unfold cvD at e
          rw [ha] at e
          replace e : cl .rem [xvE ρ x, .int kd (.ofNat 0), .int .i64 (.ofNat (regX x)), .int .i64 (.ofNat 20)] s K = some r := e
          exact hc.2 _ _ _ _ e
  obtain ⟨v, h', n', lg, s1, ⟨k0, hv⟩, nx, e2⟩ := kC_ok o.k _ cl o0 (mkR fr.regs) s _ fr.regs h n hc h2 (mkR_regs _) hr e'
  have fin : ∀ {fr'}, putA A f nt o0 v fr = some fr' → ∃ k0, ∀ k, k0 ≤ k → stepA (callN P A k) P A f nt ops o0 fr h n = some (fr', h', n', lg) := by
    intro fr' hp
    refine ⟨k0, fun k hk => ?_⟩
    unfold stepA
    rw [hw]
    simp only [AM.bind]
    rw [hv k hk]
    simp only [hp]
    simp [AM.lift, AM.pure]
  cases hdst : o.dst with
  | none =>
    have hp : pushB A f o0 v s1 = s1 := by unfold pushB; rw [← h1, hdst]
    rw [hp] at e2
    refine ⟨fr, v, h', n', lg, s1, fin (by unfold putA; rw [← h1, hdst]), nx.ub, by rw [nx.bx]; exact hb, ?_, fun _ _ => rfl, e2⟩
    rw [hdst]
    exact hf
  | some d =>
    rw [hdst] at hd
    have hdn : d < nt := ble_le hd
    have hd0 : o0.dst = some d := h1.symm.trans hdst
    obtain ⟨bxs, hp, hbx⟩ := zput_box (A := A) (f := f) (nt := nt) (v := v) hd0 hdn (show s1.bx = fr.boxes by rw [nx.bx]; exact hb)
    refine ⟨⟨upd fr.regs d v, bxs⟩, v, h', n', lg, _, fin hp, ?_, hbx, ?_, ?_, e2⟩
    · rw [ub_push]
      exact nx.ub
    · rw [hdst]
      exact hf.put d v
    · intro t ht
      rw [hdst] at ht
      show upd fr.regs d v t = _
      unfold upd
      rw [if_neg (fun e => ht (by rw [e]))]

theorem zund_ok {ops : Array Oper} {o0 : Oper} {o : SO} {ρ : EV} {s : HS} {K : AV → HS → RT} {fr : Fr} {h : Heap} {n : Nat} (h1 : o.dst = o0.dst) (hd : dokO nt o.dst = true) (hw : wantedA ops o0 fr.regs = some false)
    (hf : EnvOK ρ fr.regs) (hb : s.bx = fr.boxes) (hr : Rel s h n) (e : K .undef s = some r) : ZOut P A f nt ops o0 o ρ fr s h n K r := by
  cases hdst : o.dst with
  | none =>
    refine ⟨fr, .undef, h, n, ([], []), s, ⟨0, fun k _ => ?_⟩, Nx.refl hr.ub, hb, by rw [hdst]; exact hf, fun _ _ => rfl, e⟩
    unfold stepA
    rw [hw, ← h1, hdst]
    rfl
  | some d =>
    rw [hdst] at hd
    refine ⟨{ fr with regs := upd fr.regs d .undef }, .undef, h, n, ([], []), s, ⟨0, fun k _ => ?_⟩, Nx.refl hr.ub, hb, by rw [hdst]; exact hf.put d _, ?_, e⟩
    · unfold stepA
      rw [hw, ← h1, hdst]
      simp only []
      rw [if_pos (show d < nt from ble_le hd)]
      rfl
    · intro t ht
      rw [hdst] at ht
      show upd fr.regs d .undef t = _
      unfold upd
      rw [if_neg (fun e => ht (by rw [e]))]

theorem wantV_el {v : AV} {w : Bool} {y n : RT} (e : wantV v w y n = some r) : (∃ b, v = .bool b ∧ ((b == w) = true ∧ y = some r ∨ (b == w) = false ∧ n = some r)) ∨ (v = .tup [] ∧ n = some r) := by
  cases v with
  | bool b =>
    replace e : Bool.rec (motive := fun _ => RT) n y (eqB b w) = some r := e
    rw [eqB_eq] at e
    rcases br_b e with ⟨hb, e⟩ | ⟨hb, e⟩
    · exact .inl ⟨b, rfl, .inr ⟨hb, e⟩⟩
    · exact .inl ⟨b, rfl, .inl ⟨hb, e⟩⟩
  | tup l =>
    cases l with
    | nil => exact .inr ⟨rfl, e⟩
    | cons _ _ => exact (nn e).elim
  | _ => exact (nn e).elim

theorem stepZ_ok {ops : Array Oper} {o0 : Oper} {o : SO} {cl : CL} {ρ : EV} {s : HS} {K : AV → HS → RT} {fr : Fr} {h : Heap} {n : Nat} (hc : CLok P A cl) (ho : slO P A f ops o0 = some o) (hd : dokO nt o.dst = true)
    (hf : EnvOK ρ fr.regs) (hb : s.bx = fr.boxes) (hr : Rel s h n) (e : stepZ cl o ρ s K = some r) : ZOut P A f nt ops o0 o ρ fr s h n K r := by
  obtain ⟨h1, h2, h3⟩ := slO_some ho
  obtain ⟨dst, g, k⟩ := o
  rcases h3 with ⟨g1, g2⟩ | ⟨j, w, e', g1, g2, g3⟩
  · simp only at g2
    subst g2
    exact zput_ok (o := ⟨dst, none, k⟩) hc h1 h2 hd (by unfold wantedA; rw [g1]) hf hb hr e
  · simp only at g2
    subst g2
    cases hk : okR ρ e' with
    | false =>
      replace e : (Bool.rec (motive := fun _ => ZK) (fun _ _ => none) (zG (xrE ρ e') w (dZ (kD cl ρ k))) (okR ρ e') : ZK) s K = some r := e
      rw [hk] at e
      exact (nn e).elim
    | true =>
      replace e : (Bool.rec (motive := fun _ => ZK) (fun _ _ => none) (zG (xrE ρ e') w (dZ (kD cl ρ k))) (okR ρ e') : ZK) s K = some r := e
      rw [hk] at e
      replace e : wantV (xrE ρ e') w (dZ (kD cl ρ k) s K) (K .undef s) = some r := e
      have hreg : fr.regs e' = xrE ρ e' := hf _ _ (okR_el hk).2
      have hw : wantedA ops o0 fr.regs = (match xrE ρ e' with
        | .bool b => some (b == w)
        | .tup [] => some false
        | _ => none) := by
        unfold wantedA
        rw [g1]
        simp only [g3, hreg]
        rfl
      rcases wantV_el e with ⟨b, hv, ⟨hbw, e⟩ | ⟨hbw, e⟩⟩ | ⟨hv, e⟩
      · rw [hv] at hw
        simp only [hbw] at hw
        exact zput_ok (o := ⟨dst, some (e', w), k⟩) hc h1 h2 hd hw hf hb hr e
      · rw [hv] at hw
        simp only [hbw] at hw
        exact zund_ok (o := ⟨dst, some (e', w), k⟩) h1 hd hw hf hb hr e
      · rw [hv] at hw
        exact zund_ok (o := ⟨dst, some (e', w), k⟩) h1 hd hw hf hb hr e

theorem stepE_Z {cl : CL} {o : SO} {ρ : EV} {s : HS} {K : EV → HS → RT} (e : stepE cl o ρ s K = some r) : stepZ cl o ρ s (fun v s => K (bindE o.dst v ρ) s) = some r := by
  obtain ⟨dst, g, k⟩ := o
  cases g with
  | none =>
    replace e : DK3.rec (motive := fun _ => RT) (fun v => K (bindE dst v ρ) s) (fun h => h fun v => K (bindE dst v ρ) s) (fun h => h s fun v s => K (bindE dst v ρ) s) (kD cl ρ k) = some r := e
    show dZ (kD cl ρ k) s _ = some r
    cases hd : kD cl ρ k <;> (rw [hd] at e; exact e)
  | some g =>
    replace e : Bool.rec (motive := fun _ => RT) none (DK3.rec (motive := fun _ => RT) (fun u => gK (xrE ρ g.1) g.2 u fun v => K (bindE dst v ρ) s) (fun h => gV (xrE ρ g.1) g.2 h fun v => K (bindE dst v ρ) s) (fun h => gH (xrE ρ g.1) g.2 h s fun v s => K (bindE dst v ρ) s) (kD cl ρ k)) (okR ρ g.1) = some r := e
    show (Bool.rec (motive := fun _ => ZK) (fun _ _ => none) (zG (xrE ρ g.1) g.2 (dZ (kD cl ρ k))) (okR ρ g.1) : ZK) s _ = some r
    cases hk : okR ρ g.1 with
    | false => rw [hk] at e; exact (nn e).elim
    | true =>
      rw [hk] at e
      cases hd : kD cl ρ k <;> (rw [hd] at e; exact e)

/- registers that a row leaves as they were -/
theorem opsE_ok {ops : Array Oper} {cl : CL} (hc : CLok P A cl) : ∀ {l0 : List Oper} {l : List SO} {ρ : EV} {s : HS} {K : EV → HS → RT} {fr : Fr} {h : Heap} {n : Nat}, slOs P A f ops l0 = some l → (l.all fun o => dokO nt o.dst) = true → EnvOK ρ fr.regs → s.bx = fr.boxes → Rel s h n → opsE cl l ρ s K = some r →
    ∃ fr' h' n' lgs ρ' s', (∃ k0, ∀ k, k0 ≤ k → runLog (callN P A k) P A f nt ops l0 fr h n = some (fr', h', n', lgs)) ∧ Nx (unb s) h n (joinLogs lgs) (unb s') h' n' ∧ EnvOK ρ' fr'.regs ∧ s'.bx = fr'.boxes ∧ (∀ t, t ∉ dstL l → fr'.regs t = fr.regs t) ∧ K ρ' s' = some r
  | [], l, ρ, s, K, fr, h, n, hl, hd, hf, hb, hr, e => by
    simp only [slOs, Option.some.injEq] at hl
    subst hl
    exact ⟨fr, h, n, [], ρ, s, ⟨0, fun k _ => rfl⟩, Nx.refl hr.ub, hf, hb, fun _ _ => rfl, e⟩
  | o0 :: l0, l, ρ, s, K, fr, h, n, hl, hd, hf, hb, hr, e => by
    simp only [slOs] at hl
    split at hl
    · rename_i o l' ho hl'
      simp only [Option.some.injEq] at hl
      subst hl
      simp only [List.all_cons, Bool.and_eq_true] at hd
      replace e : stepE cl o ρ s (fun ρ s => opsE cl l' ρ s K) = some r := e
      obtain ⟨fr1, v, h1, n1, lg1, s1, ⟨k1, c1⟩, nx1, hb1, hf1, hq1, e⟩ := stepZ_ok hc ho hd.1 hf hb hr (stepE_Z e)
      obtain ⟨fr2, h2, n2, lgs, ρ2, s2, ⟨k2, c2⟩, nx2, hf2, hb2, hq2, e⟩ := opsE_ok hc hl' hd.2 hf1 hb1 nx1.rel.bu e
      refine ⟨fr2, h2, n2, (lg1, n, n1) :: lgs, ρ2, s2, ⟨max k1 k2, fun k hk => ?_⟩, ?_, hf2, hb2, ?_, e⟩
      · unfold runLog
        rw [c1 k (by omega)]
        simp only
        rw [c2 k (by omega)]
      · have := nx1.trans nx2
        simpa [joinLogs] using this
      · intro t ht
        have ht : t ∉ dstL l' ∧ o.dst ≠ some t := by
          obtain ⟨dst, g, k⟩ := o
          cases dst with
          | none => exact ⟨ht, nofun⟩
          | some d =>
            replace ht : t ∉ d :: dstL l' := ht
            simp only [List.mem_cons, not_or] at ht
            exact ⟨ht.2, fun e => ht.1 (Option.some.inj e).symm⟩
        rw [hq2 t ht.1, hq1 t ht.2]
    · cases hl

/- where a load looks -/
theorem kQE_eq {ρ : EV} {R : RG} (hR : EnvR ρ R) {k : SK} (hk : okK ρ k = true) (K : Nat → Nat → Nat → RT) (no : RT) : kQ k R K no = kQE ρ k K no := by
  cases k with
  | ld x m => exact evX hR hk _
  | _ => rfl
theorem dZ_okK {cl : CL} {ρ : EV} {k : SK} {s : HS} {K : AV → HS → RT} (e : dZ (kD cl ρ k) s K = some r) : okK ρ k = true := by
  unfold kD at e
  cases hk : okK ρ k with
  | true => rfl
  | false => rw [hk] at e; exact (nn e).elim
theorem soQE_el {ops : Array Oper} {o0 : Oper} {o : SO} {cl : CL} {ρ : EV} {fr : Fr} {s : HS} {K0 : AV → HS → RT} (ho : slO P A f ops o0 = some o) (hf : EnvOK ρ fr.regs) (e0 : stepZ cl o ρ s K0 = some r) {r' : AV} {K : Nat → Nat → Nat → RT} {no : RT} (e : soQE ρ o K no = some r') :
    (∃ p : Nat × Nat × Nat, ldOf P A f ops o0 fr = some p ∧ K p.1 p.2.1 p.2.2 = some r') ∨ (ldOf P A f ops o0 fr = none ∧ no = some r') := by
  obtain ⟨h1, h2, h3⟩ := slO_some ho
  obtain ⟨dst, g, k⟩ := o
  rcases h3 with ⟨g1, g2⟩ | ⟨j, w, e', g1, g2, g3⟩
  · simp only at g2
    subst g2
    have hk : okK ρ k = true := dZ_okK e0
    refine kQ_el h2 (by unfold wantedA; rw [g1]) (mkR_regs fr.regs) ?_
    exact (kQE_eq hf.r hk K no).trans e
  · simp only at g2
    subst g2
    replace e0 : (Bool.rec (motive := fun _ => ZK) (fun _ _ => none) (zG (xrE ρ e') w (dZ (kD cl ρ k))) (okR ρ e') : ZK) s K0 = some r := e0
    cases hk : okR ρ e' with
    | false => rw [hk] at e0; exact (nn e0).elim
    | true =>
      rw [hk] at e0
      replace e0 : wantV (xrE ρ e') w (dZ (kD cl ρ k) s K0) (K0 .undef s) = some r := e0
      replace e : wantV (xrE ρ e') w (kQE ρ k K no) no = some r' := e
      have hreg : fr.regs e' = xrE ρ e' := hf _ _ (okR_el hk).2
      have hw : wantedA ops o0 fr.regs = (match xrE ρ e' with
        | .bool b => some (b == w)
        | .tup [] => some false
        | _ => none) := by
        unfold wantedA
        rw [g1]
        simp only [g3, hreg]
        rfl
      rcases wantV_el e with ⟨b, hv, ⟨hbw, e⟩ | ⟨hbw, e⟩⟩ | ⟨hv, e⟩
      · rw [hv] at hw e0
        simp only [hbw] at hw
        have hk2 : okK ρ k = true := by
          rcases wantV_el e0 with ⟨b', hv', ⟨_, e0⟩ | ⟨hb', _⟩⟩ | ⟨hv', _⟩
          · exact dZ_okK e0
          · cases hv'
            rw [hbw] at hb'
            cases hb'
          · cases hv'
        refine kQ_el h2 hw (mkR_regs fr.regs) ?_
        exact (kQE_eq hf.r hk2 K no).trans e
      · rw [hv] at hw
        simp only [hbw] at hw
        exact .inr ⟨ldOf_none (by rw [hw]; simp), e⟩
      · rw [hv] at hw
        exact .inr ⟨ldOf_none (by rw [hw]; simp), e⟩

theorem lgE_ok {ops : Array Oper} {o0 : Oper} {o : SO} {cl : CL} {ρ : EV} {s : HS} {K : AV → LE → HS → RT} {fr : Fr} {h : Heap} {n : Nat} (hc : CLok P A cl) (ho : slO P A f ops o0 = some o) (hd : dokO nt o.dst = true)
    (hf : EnvOK ρ fr.regs) (hb : s.bx = fr.boxes) (hr : Rel s h n) (e : lgE (soQE ρ o) (stepZ cl o ρ) s K = some r) :
    ∃ fr' v h' n' lg le s', (∃ k0, ∀ k, k0 ≤ k → stepA (callN P A k) P A f nt ops o0 fr h n = some (fr', h', n', lg)) ∧ Nx (unb s) h n lg (unb s') h' n' ∧ LEok (lg, n, n') le ∧ LEh ⟨h, n, lg, ldOf P A f ops o0 fr, h', n'⟩ le ∧ s'.bx = fr'.boxes ∧ EnvOK (bindE o.dst v ρ) fr'.regs ∧ (∀ t, o.dst ≠ some t → fr'.regs t = fr.regs t) ∧ K v le s' = some r := by
  obtain ⟨H, m, bx, thr, rd, wr, mw⟩ := s
  have hm : m = n := hr.num
  subst hm
  replace e : stepZ cl o ρ ⟨H, m, bx, m, [], [], mw⟩ (fun v s' => HS.rec (motive := fun _ => RT) (fun h n' bx _ rd' wr' mw => mergeC rd' thr rd fun rd => mergeC wr' thr wr fun wr => K v ⟨rd', wr', m, n', soQE ρ o, H, h⟩ ⟨h, n', bx, thr, rd, wr, mw⟩) s') = some r := e
  have e0 := e
  obtain ⟨fr1, v, h1, n1, lg1, s1, hk, nx, hb1, hf1, hq1, e⟩ := stepZ_ok (s := ⟨H, m, bx, m, [], [], mw⟩) hc ho hd hf hb ⟨hr.look, hr.ok, hr.num, hr.mw, Nat.le_refl _⟩ e
  obtain ⟨H1, m1, bx1, thr1, rd1, wr1, mw1⟩ := s1
  replace e : mergeC rd1 thr rd (fun rd => mergeC wr1 thr wr fun wr => K v ⟨rd1, wr1, m, m1, soQE ρ o, H, H1⟩ ⟨H1, m1, bx1, thr, rd, wr, mw1⟩) = some r := e
  obtain ⟨rd2, a1, a2, e⟩ := mergeC_el e
  obtain ⟨wr2, b1, b2, e⟩ := mergeC_el e
  have hthr : thr ≤ m := hr.thr
  have hn1 : m1 = n1 := nx.rel.num
  refine ⟨fr1, v, h1, n1, lg1, ⟨rd1, wr1, m, m1, soQE ρ o, H, H1⟩, ⟨H1, m1, bx1, thr, rd2, wr2, mw1⟩, hk, ?_, ?_, ?_, hb1, hf1, hq1, e⟩
  · refine ⟨⟨nx.rel.look, nx.rel.ok, nx.rel.num, nx.rel.mw, Nat.le_trans hthr nx.le⟩, nx.le, rfl, rfl, ?_, ?_, nx.own, nx.mw, nx.mw2, nx.mwle, nx.frame⟩
    · rintro id (hi | ⟨hl, hi⟩)
      · exact a1 id hi
      · exact a2 id (nx.rd id (.inr ⟨Nat.lt_of_lt_of_le hl hthr, hi⟩)) hl
    · rintro id (hi | ⟨hl, hi⟩)
      · exact b1 id hi
      · exact b2 id (nx.wr id (.inr ⟨Nat.lt_of_lt_of_le hl hthr, hi⟩)) hl
  · exact ⟨rfl, hn1, nx.le, fun id hi hl => nx.rd id (.inr ⟨hl, hi⟩), fun id hi hl => nx.wr id (.inr ⟨hl, hi⟩), nx.own⟩
  · exact ⟨hr.look, nx.rel.look, fun K no r e => soQE_el ho hf e0 e⟩

theorem logE_ok {ops : Array Oper} {cl : CL} (hc : CLok P A cl) : ∀ {l0 : List Oper} {l : List SO} {ρ : EV} {s : HS} {K : List LE → EV → HS → RT} {fr : Fr} {h : Heap} {n : Nat}, slOs P A f ops l0 = some l → (l.all fun o => dokO nt o.dst) = true → EnvOK ρ fr.regs → s.bx = fr.boxes → Rel s h n → logE cl l ρ s K = some r →
    ∃ fr' h' n' cs es ρ' s', (∃ k0, ∀ k, k0 ≤ k → ChT (callN P A k) P A f nt ops l0 fr h n cs fr' h' n') ∧ Nx (unb s) h n (joinLogs (cs.map Ct.log)) (unb s') h' n' ∧ LEs n (cs.map Ct.log) es ∧ LEhs cs es ∧ EnvOK ρ' fr'.regs ∧ s'.bx = fr'.boxes ∧ (∀ t, t ∉ dstL l → fr'.regs t = fr.regs t) ∧ K es ρ' s' = some r
  | [], l, ρ, s, K, fr, h, n, hl, hd, hf, hb, hr, e => by
    simp only [slOs, Option.some.injEq] at hl
    subst hl
    exact ⟨fr, h, n, [], [], ρ, s, ⟨0, fun k _ => ⟨rfl, rfl, rfl⟩⟩, Nx.refl hr.ub, trivial, trivial, hf, hb, fun _ _ => rfl, e⟩
  | o0 :: l0, l, ρ, s, K, fr, h, n, hl, hd, hf, hb, hr, e => by
    simp only [slOs] at hl
    split at hl
    · rename_i o l' ho hl'
      simp only [Option.some.injEq] at hl
      subst hl
      simp only [List.all_cons, Bool.and_eq_true] at hd
      replace e : lgE (soQE ρ o) (stepZ cl o ρ) s (fun v le s => logE cl l' (bindE o.dst v ρ) s fun es ρ s => K (le :: es) ρ s) = some r := e
      obtain ⟨fr1, v, h1, n1, lg1, le, s1, ⟨k1, c1⟩, nx1, hle, hlh, hb1, hf1, hq1, e⟩ := lgE_ok hc ho hd.1 hf hb hr e
      obtain ⟨fr2, h2, n2, cs, es, ρ2, s2, ⟨k2, c2⟩, nx2, hes, hhs, hf2, hb2, hq2, e⟩ := logE_ok hc hl' hd.2 hf1 hb1 nx1.rel.bu e
      refine ⟨fr2, h2, n2, ⟨h, n, lg1, ldOf P A f ops o0 fr, h1, n1⟩ :: cs, le :: es, ρ2, s2, ⟨max k1 k2, fun k hk => ?_⟩, ?_, ⟨Nat.le_refl _, hle, hes⟩, ⟨hlh, hhs⟩, hf2, hb2, ?_, e⟩
      · exact ⟨rfl, rfl, rfl, fr1, c1 k (by omega), c2 k (by omega)⟩
      · have := nx1.trans nx2
        simpa [joinLogs, Ct.log] using this
      · intro t ht
        have ht : t ∉ dstL l' ∧ o.dst ≠ some t := by
          obtain ⟨dst, g, k⟩ := o
          cases dst with
          | none => exact ⟨ht, nofun⟩
          | some d =>
            replace ht : t ∉ d :: dstL l' := ht
            simp only [List.mem_cons, not_or] at ht
            exact ⟨ht.2, fun e => ht.1 (Option.some.inj e).symm⟩
        rw [hq2 t ht.1, hq1 t ht.2]
    · cases hl

/- a region -/
theorem regE_ok {ops : Array Oper} {dr : Bool} {i : Nat} {cl : CL} {l : List SO} {ρ : EV} {s : HS} {K : EV → HS → RT} {fr : Fr} {h : Heap} {n : Nat} (hc : CLok P A cl) (hl : slOs P A f ops ops.toList = some l) (hd : (l.all fun o => dokO nt o.dst) = true)
    (hf : EnvOK ρ fr.regs) (hb : s.bx = fr.boxes) (hr : Rel s h n) (e : regE cl (if dr then ecPs A f ops else []) l ρ s K = some r) :
    ∃ fr' h' n' lg ρ' s', (∃ k0, ∀ k, k0 ≤ k → ∀ j, exec (callN P A k) P A f nt j (.region i ops dr) fr h n = some ((.norm, fr'), h', n', lg)) ∧ Nx (unb s) h n lg (unb s') h' n' ∧ EnvOK ρ' fr'.regs ∧ s'.bx = fr'.boxes ∧ (∀ t, t ∉ dstL l → fr'.regs t = fr.regs t) ∧ K ρ' s' = some r := by
  have fin : ∀ {fr' h' n' lg} {k : Nat} (j : Nat), (if dr then runDraw (callN P A k) P A f nt ops fr else runOps (callN P A k) P A f nt ops ops.toList fr) h n = some (fr', h', n', lg) → exec (callN P A k) P A f nt j (.region i ops dr) fr h n = some ((.norm, fr'), h', n', lg) := by
    intro fr' h' n' lg k j this
    simp only [exec]
    unfold AM.bind
    rw [this]
    simp [AM.pure]
  generalize hps : (if dr then ecPs A f ops else []) = ps at e
  cases ps with
  | nil =>
    replace e : opsE cl l ρ s K = some r := e
    obtain ⟨fr', h', n', lgs, ρ', s', ⟨k0, hk⟩, nx, hf', hb', hq, e⟩ := opsE_ok hc hl hd hf hb hr e
    refine ⟨fr', h', n', _, ρ', s', ⟨k0, fun k hle j => fin j ?_⟩, nx, hf', hb', hq, e⟩
    cases dr with
    | false => exact runOps_of_log ops _ _ _ _ (hk k hle)
    | true =>
      simp only [if_true] at hps ⊢
      unfold runDraw
      rw [hk k hle]
      simp only
      rw [if_pos (calm_of (hk k hle) (by rw [hps]; simp))]
  | cons p ps =>
    have hdr : dr = true := by cases dr <;> first | rfl | simp at hps
    subst hdr
    simp only [if_true] at hps
    replace e : logE cl l ρ s (fun es ρ s => Bool.rec (motive := fun _ => RT) (excC es (K ρ s) (p :: ps)) (K ρ s) (calmB es (p :: ps))) = some r := e
    obtain ⟨fr', h', n', cs, es, ρ', s', ⟨k0, hk⟩, nx, hes, hhs, hf', hb', hq, e⟩ := logE_ok hc hl hd hf hb hr e
    have hno : ∀ q ∈ ecPs A f ops, ∀ x y, cs[q.1]? = some x → cs[q.2]? = some y → clashB (nthE es q.1) (nthE es q.2) = true → clash x.log y.log = false := by
      intro q hq x y hx hy hb
      have hlt := open_lt (List.mem_filter.1 (show q ∈ (openPairs ops).filter _ from hq)).1
      have gx : (cs.map Ct.log)[q.1]? = some x.log := by rw [List.getElem?_map, hx]; rfl
      have gy : (cs.map Ct.log)[q.2]? = some y.log := by rw [List.getElem?_map, hy]; rfl
      exact clash_no (hes.at gx).2 (hes.at gy).2 (hes.lt hlt gx gy) hb
    have main : K ρ' s' = some r ∧ ∀ q ∈ ecPs A f ops, ∀ x y, cs[q.1]? = some x → cs[q.2]? = some y → clash x.log y.log = false ∨ ((Stab x y ∨ Stab y x) ∧ Live cs x ∧ Live cs y) := by
      rcases br_b e with ⟨_, e⟩ | ⟨hcb, e⟩
      · obtain ⟨e, h2⟩ := exc_el hhs e
        refine ⟨e, fun q hq x y hx hy => ?_⟩
        rcases h2 q (by rw [← hps]; exact hq) x y hx hy with h3 | h3
        · exact .inl (hno q hq x y hx hy h3)
        · exact .inr h3
      · exact ⟨e, fun q hq x y hx hy => .inl (hno q hq x y hx hy (calmB_el hcb q (by rw [← hps]; exact hq)))⟩
    refine ⟨fr', h', n', _, ρ', s', ⟨k0, fun k hle j => fin j ?_⟩, nx, hf', hb', hq, main.1⟩
    simp only [if_true]
    exact draw_of (hk k hle) main.2
end
end Go.Abs
