/- The quick evaluator is sound: rows of operations. -/
import Derived.Test.YtpkplkccncfkgaaGreatAbsEHe
import Derived.Test.YtpkplkccncfkgaaGreatAbsLd
namespace Go.Abs

/- the boxes set aside -/
def unb (s : HS) : HS := { s with bx := [] }
theorem Nx.ub {s s' : HS} {h h' : Heap} {n n' : Nat} {lg : Log} (a : Nx s h n lg s' h' n') : Nx (unb s) h n lg (unb s') h' n' :=
  ⟨⟨a.rel.look, a.rel.ok, a.rel.num, a.rel.mw, a.rel.thr⟩, a.le, rfl, a.thr, a.rd, a.wr, a.own, a.mw, a.mw2, a.mwle, a.frame⟩
theorem Rel.ub {s : HS} {h : Heap} {n : Nat} (a : Rel s h n) : Rel (unb s) h n := ⟨a.look, a.ok, a.num, a.mw, a.thr⟩
theorem Rel.bu {s : HS} {h : Heap} {n : Nat} (a : Rel (unb s) h n) : Rel s h n := ⟨a.look, a.ok, a.num, a.mw, a.thr⟩
theorem ub_push {A : Ann} {f : Nat} {o : Oper} {v : AV} {s : HS} : unb (pushB A f o v s) = unb s := by
  unfold pushB
  split
  · split
    · split <;> rfl
    · rfl
  · rfl

/- registers and boxes -/
def FrR (R : RG) (s : HS) (fr : Fr) : Prop := Regs R fr.regs ∧ s.bx = fr.boxes

section
variable {P : Program} {A : Ann} {f nt : Nat} {r : AV}

theorem kC_put {o : Oper} {v : AV} {s : HS} {R : RG} {fr : Fr} {d : Nat} (hd : o.dst = some d) (hn : d < nt) (hf : FrR R s fr) (ht : d ≤ 511) : ∃ fr', putA A f nt o v fr = some fr' ∧ FrR (putT R d v) (pushB A f o v s) fr' := by
  refine ⟨{ regs := upd fr.regs d v, boxes := if isBox o.op && !A.esc f d then (match v with | .ptr id _ => id :: fr.boxes | _ => fr.boxes) else fr.boxes }, ?_, ?_, ?_⟩
  · unfold putA
    rw [hd]
    simp only []
    rw [if_pos hn]
    rfl
  · exact hf.1.put v ht
  · unfold pushB
    rw [hd]
    simp only []
    split
    · cases v <;> first | exact hf.2 | (show _ :: s.bx = _ :: fr.boxes; rw [hf.2])
    · exact hf.2

/- an operation that is done -/
theorem put_ok {ops : Array Oper} {o0 : Oper} {o : SO} {cl : CL} {R : RG} {s : HS} {K : RG → HS → RT} {fr : Fr} {h : Heap} {n : Nat} (hc : CLok P A cl) (h1 : o.dst = o0.dst) (h2 : o.k = slAll P A f o0.dst o0.op) (hd : dokO nt o.dst = true) (hw : wantedA ops o0 fr.regs = some true)
    (hf : FrR R s fr) (hr : Rel s h n) (e : putO o.dst (kC o.k) cl R s K = some r) :
    ∃ fr' h' n' lg R' s', (∃ k0, ∀ k, k0 ≤ k → stepA (callN P A k) P A f nt ops o0 fr h n = some (fr', h', n', lg)) ∧ Nx (unb s) h n lg (unb s') h' n' ∧ FrR R' s' fr' ∧ K R' s' = some r := by
  have fin : ∀ {v h' n' lg fr'} {k0 : Nat}, (∀ k, k0 ≤ k → opV (callN P A k) P A f o0 fr.regs h n = some (v, h', n', lg)) → putA A f nt o0 v fr = some fr' → ∃ k0, ∀ k, k0 ≤ k → stepA (callN P A k) P A f nt ops o0 fr h n = some (fr', h', n', lg) := by
    intro v h' n' lg fr' k0 hv hp
    refine ⟨k0, fun k hk => ?_⟩
    unfold stepA
    rw [hw]
    simp only [AM.bind]
    rw [hv k hk]
    simp only [hp]
    simp [AM.lift, AM.pure]
  cases hdst : o.dst with
  | none =>
    rw [hdst] at e
    replace e : kC o.k cl R s (fun _ s => K R s) = some r := e
    obtain ⟨v, h', n', lg, s1, ⟨k0, hv⟩, nx, e⟩ := kC_ok o.k _ cl o0 R s _ fr.regs h n hc h2 hf.1 hr e
    have hp : pushB A f o0 v s1 = s1 := by unfold pushB; rw [← h1, hdst]
    rw [hp] at e
    refine ⟨fr, h', n', lg, R, s1, fin hv (by unfold putA; rw [← h1, hdst]), nx.ub, ⟨hf.1, by rw [nx.bx]; exact hf.2⟩, e⟩
  | some d =>
    rw [hdst] at e hd
    replace e : kC o.k cl R s (fun v s => pT d v R fun R => K R s) = some r := e
    obtain ⟨v, h', n', lg, s1, ⟨k0, hv⟩, nx, e⟩ := kC_ok o.k _ cl o0 R s _ fr.regs h n hc h2 hf.1 hr e
    obtain ⟨ht, e⟩ := pT_el e
    obtain ⟨fr', p1, p2⟩ := kC_put (A := A) (f := f) (nt := nt) (o := o0) (v := v) (s := s1) (R := R) (fr := fr) (h1.symm.trans hdst) (ble_le hd) ⟨hf.1, by rw [nx.bx]; exact hf.2⟩ ht
    refine ⟨fr', h', n', lg, _, _, fin hv p1, ?_, p2, e⟩
    rw [ub_push]
    exact nx.ub

theorem und_ok {ops : Array Oper} {o0 : Oper} {o : SO} {cl : CL} {R : RG} {s : HS} {K : RG → HS → RT} {fr : Fr} {h : Heap} {n : Nat} (h1 : o.dst = o0.dst) (hd : dokO nt o.dst = true) (hw : wantedA ops o0 fr.regs = some false)
    (hf : FrR R s fr) (hr : Rel s h n) (e : undO o.dst cl R s K = some r) :
    ∃ fr' h' n' lg R' s', (∃ k0, ∀ k, k0 ≤ k → stepA (callN P A k) P A f nt ops o0 fr h n = some (fr', h', n', lg)) ∧ Nx (unb s) h n lg (unb s') h' n' ∧ FrR R' s' fr' ∧ K R' s' = some r := by
  cases hdst : o.dst with
  | none =>
    rw [hdst] at e
    refine ⟨fr, h, n, ([], []), R, s, ⟨0, fun k _ => ?_⟩, Nx.refl hr.ub, hf, e⟩
    unfold stepA
    rw [hw, ← h1, hdst]
    rfl
  | some d =>
    rw [hdst] at e hd
    replace e : pT d .undef R (fun R => K R s) = some r := e
    obtain ⟨ht, e⟩ := pT_el e
    refine ⟨{ fr with regs := upd fr.regs d .undef }, h, n, ([], []), _, s, ⟨0, fun k _ => ?_⟩, Nx.refl hr.ub, ⟨hf.1.put _ ht, hf.2⟩, e⟩
    unfold stepA
    rw [hw, ← h1, hdst]
    simp only []
    rw [if_pos (show d < nt from ble_le hd)]
    rfl

theorem step_ok {ops : Array Oper} {o0 : Oper} {o : SO} {cl : CL} {R : RG} {s : HS} {K : RG → HS → RT} {fr : Fr} {h : Heap} {n : Nat} (hc : CLok P A cl) (ho : slO P A f ops o0 = some o) (hd : dokO nt o.dst = true)
    (hf : FrR R s fr) (hr : Rel s h n) (e : stepC o cl R s K = some r) :
    ∃ fr' h' n' lg R' s', (∃ k0, ∀ k, k0 ≤ k → stepA (callN P A k) P A f nt ops o0 fr h n = some (fr', h', n', lg)) ∧ Nx (unb s) h n lg (unb s') h' n' ∧ FrR R' s' fr' ∧ K R' s' = some r := by
  obtain ⟨h1, h2, h3⟩ := slO_some ho
  obtain ⟨dst, g, k⟩ := o
  rcases h3 with ⟨g1, g2⟩ | ⟨j, w, e', g1, g2, g3⟩
  · simp only at g2
    subst g2
    replace e : putO dst (kC k) cl R s K = some r := e
    exact put_ok (o := ⟨dst, none, k⟩) hc h1 h2 hd (by unfold wantedA; rw [g1]) hf hr e
  · simp only at g2
    subst g2
    replace e : xT e' R (fun v => wantV v w (putO dst (kC k) cl R s K) (undO dst cl R s K)) = some r := e
    have hv := hf.1.sat
    obtain ⟨e1, e⟩ := xT_el e
    have hreg := hv _ _ e1
    have hw : wantedA ops o0 fr.regs = (match lookT R e' with
      | .bool b => some (b == w)
      | .tup [] => some false
      | _ => none) := by
      unfold wantedA
      rw [g1]
      simp only [g3, hreg]
      rfl
    generalize lookT R e' = v at e hw
    cases v with
    | bool b =>
      replace e : Bool.rec (motive := fun _ => RT) (undO dst cl R s K) (putO dst (kC k) cl R s K) (eqB b w) = some r := e
      rw [eqB_eq] at e
      simp only at hw
      rcases br_b e with ⟨hb, e⟩ | ⟨hb, e⟩
      · rw [hb] at hw
        exact und_ok (o := ⟨dst, some (e', w), k⟩) h1 hd hw hf hr e
      · rw [hb] at hw
        exact put_ok (o := ⟨dst, some (e', w), k⟩) hc h1 h2 hd hw hf hr e
    | tup l =>
      cases l with
      | nil => exact und_ok (o := ⟨dst, some (e', w), k⟩) h1 hd hw hf hr e
      | cons _ _ => exact (nn e).elim
    | _ => exact (nn e).elim

/- rows -/
theorem ops_ok {ops : Array Oper} {cl : CL} (hc : CLok P A cl) : ∀ {l0 : List Oper} {l : List SO} {R : RG} {s : HS} {K : RG → HS → RT} {fr : Fr} {h : Heap} {n : Nat}, slOs P A f ops l0 = some l → (l.all fun o => dokO nt o.dst) = true → FrR R s fr → Rel s h n → opsC l cl R s K = some r →
    ∃ fr' h' n' lgs R' s', (∃ k0, ∀ k, k0 ≤ k → runLog (callN P A k) P A f nt ops l0 fr h n = some (fr', h', n', lgs)) ∧ Nx (unb s) h n (joinLogs lgs) (unb s') h' n' ∧ FrR R' s' fr' ∧ K R' s' = some r
  | [], l, R, s, K, fr, h, n, hl, hd, hf, hr, e => by
    simp only [slOs, Option.some.injEq] at hl
    subst hl
    exact ⟨fr, h, n, [], R, s, ⟨0, fun k _ => rfl⟩, Nx.refl hr.ub, hf, e⟩
  | o0 :: l0, l, R, s, K, fr, h, n, hl, hd, hf, hr, e => by
    simp only [slOs] at hl
    split at hl
    · rename_i o l' ho hl'
      simp only [Option.some.injEq] at hl
      subst hl
      simp only [List.all_cons, Bool.and_eq_true] at hd
      replace e : stepC o cl R s (fun R s => opsC l' cl R s K) = some r := e
      obtain ⟨fr1, h1, n1, lg1, R1, s1, ⟨k1, c1⟩, nx1, hf1, e⟩ := step_ok hc ho hd.1 hf hr e
      obtain ⟨fr2, h2, n2, lgs, R2, s2, ⟨k2, c2⟩, nx2, hf2, e⟩ := ops_ok hc hl' hd.2 hf1 nx1.rel.bu e
      refine ⟨fr2, h2, n2, (lg1, n, n1) :: lgs, R2, s2, ⟨max k1 k2, fun k hk => ?_⟩, ?_, hf2, e⟩
      · unfold runLog
        rw [c1 k (by omega)]
        simp only
        rw [c2 k (by omega)]
      · have := nx1.trans nx2
        simpa [joinLogs] using this
    · cases hl

/- what is told of one -/
structure LEok (x : LogN) (e : LE) : Prop where
  a : e.a = x.2.1
  b : e.b = x.2.2
  le : x.2.1 ≤ x.2.2
  rd : ∀ id ∈ x.1.1, id < x.2.1 → id ∈ e.rd
  wr : ∀ id ∈ x.1.2, id < x.2.1 → id ∈ e.wr
  own : ∀ id, id ∈ x.1.1 ∨ id ∈ x.1.2 → id < x.2.2

def LEs : Nat → List LogN → List LE → Prop
  | _, [], [] => True
  | n, x :: l, e :: m => n ≤ x.2.1 ∧ LEok x e ∧ LEs x.2.2 l m
  | _, _, _ => False

/- where a load looks, as the evaluator finds it -/
theorem ldOf_none {ops : Array Oper} {o0 : Oper} {fr : Fr} (h : wantedA ops o0 fr.regs ≠ some true) : ldOf P A f ops o0 fr = none := by
  unfold ldOf
  split
  · rename_i hw
    exact absurd hw h
  · rfl
theorem kQ_el {ops : Array Oper} {o0 : Oper} {k : SK} {R : RG} {fr : Fr} {K : Nat → Nat → Nat → RT} {no : RT} (hk : k = slAll P A f o0.dst o0.op) (hw : wantedA ops o0 fr.regs = some true) (hf : Regs R fr.regs) (e : kQ k R K no = some r) :
    (∃ p : Nat × Nat × Nat, ldOf P A f ops o0 fr = some p ∧ K p.1 p.2.1 p.2.2 = some r) ∨ (ldOf P A f ops o0 fr = none ∧ no = some r) := by
  have miss : (∀ x m, k ≠ .ld x m) → ldOf P A f ops o0 fr = none := by
    intro hx
    unfold ldOf
    split
    · rename_i t a h1 h2 h3
      split
      · rename_i id off m h4 h5
        exfalso
        have h6 : ∃ x, slX A a = some x := by
          cases a with
          | tmp t => exact ⟨_, rfl⟩
          | const v =>
            simp only [evalA] at h4
            simp only [slX, h4]
            exact ⟨_, rfl⟩
          | global g =>
            simp only [evalA] at h4
            cases hg : A.glob g with
            | none => rw [hg] at h4; cases h4
            | some cs => simp only [slX, hg]; exact ⟨_, rfl⟩
          | func g => exact ⟨_, rfl⟩
        have h7 : ∃ n, cellsN P t = some n := by
          unfold cellsT at h5
          unfold cellsN
          split at h5
          · rename_i a1 a2
            rw [a1, a2]
            exact ⟨_, rfl⟩
          · rename_i a1 a2
            rw [a1, a2]
            exact ⟨_, rfl⟩
          · cases h5
        obtain ⟨x, h6⟩ := h6
        obtain ⟨n, h7⟩ := h7
        refine hx x n ?_
        rw [hk]
        unfold slAll
        rw [h1, h2]
        simp only [slK, Bool.false_eq_true, if_false, h6, h7]
      · rfl
    · rfl
  cases k with
  | ld x m =>
    obtain ⟨t, a, hop, q1, q2, hro⟩ := load_inv hk
    replace e : evC x R (fun v => ptrQ v (fun id off => K id off (nOf m)) no) = some r := e
    obtain ⟨v, h1, e⟩ := evC_el e
    have hv := ev_sound hf.sat q1 h1
    have hc : cellsT P t = some (nOf m) := by
      unfold cellsN at q2
      unfold cellsT
      split at q2
      · rename_i a1 a2
        rw [a1, a2]
        simp only [Option.some.injEq] at q2
        subst q2
        rfl
      · rename_i a1 a2
        rw [a1, a2]
        simp only [Option.some.injEq] at q2
        subst q2
        rfl
      · cases q2
    have hl : ldOf P A f ops o0 fr = match v with
        | .ptr id off => some (id, off, nOf m)
        | _ => none := by
      unfold ldOf
      rw [hop, hro, hw]
      simp only [hv, hc]
      cases v <;> rfl
    cases v with
    | ptr id off => exact .inl ⟨_, hl, e⟩
    | _ => exact .inr ⟨hl, e⟩
  | _ => exact .inr ⟨miss (by intro x m h; cases h), e⟩
theorem soQ_el {ops : Array Oper} {o0 : Oper} {o : SO} {R : RG} {fr : Fr} {K : Nat → Nat → Nat → RT} {no : RT} (ho : slO P A f ops o0 = some o) (hf : Regs R fr.regs) (e : soQ o R K no = some r) :
    (∃ p : Nat × Nat × Nat, ldOf P A f ops o0 fr = some p ∧ K p.1 p.2.1 p.2.2 = some r) ∨ (ldOf P A f ops o0 fr = none ∧ no = some r) := by
  obtain ⟨h1, h2, h3⟩ := slO_some ho
  obtain ⟨dst, g, k⟩ := o
  rcases h3 with ⟨g1, g2⟩ | ⟨j, w, e', g1, g2, g3⟩
  · simp only at g2
    subst g2
    exact kQ_el h2 (by unfold wantedA; rw [g1]) hf e
  · simp only at g2
    subst g2
    replace e : xT e' R (fun v => wantV v w (kQ k R K no) no) = some r := e
    have hv := hf.sat
    obtain ⟨e1, e⟩ := xT_el e
    have hreg := hv _ _ e1
    have hw : wantedA ops o0 fr.regs = (match lookT R e' with
      | .bool b => some (b == w)
      | .tup [] => some false
      | _ => none) := by
      unfold wantedA
      rw [g1]
      simp only [g3, hreg]
      rfl
    generalize lookT R e' = v at e hw
    cases v with
    | bool b =>
      replace e : Bool.rec (motive := fun _ => RT) no (kQ k R K no) (eqB b w) = some r := e
      rw [eqB_eq] at e
      simp only at hw
      rcases br_b e with ⟨hb, e⟩ | ⟨hb, e⟩
      · rw [hb] at hw
        exact .inr ⟨ldOf_none (by rw [hw]; simp), e⟩
      · rw [hb] at hw
        exact kQ_el h2 hw hf e
    | tup l =>
      cases l with
      | nil => exact .inr ⟨ldOf_none (by rw [hw]; simp), e⟩
      | cons _ _ => exact (nn e).elim
    | _ => exact (nn e).elim

/- a step, with what stood ahead of it and behind it -/
structure Ct where
  h : Heap
  n : Nat
  lg : Log
  pl : Pl
  h1 : Heap
  n1 : Nat
def Ct.log (c : Ct) : LogN := (c.lg, c.n, c.n1)
def ChT (call : Nat → List AV → AM AV) (P : Program) (A : Ann) (f nt : Nat) (ops : Array Oper) : List Oper → Fr → Heap → Nat → List Ct → Fr → Heap → Nat → Prop
  | [], fr, h, n, [], fr', h', n' => fr' = fr ∧ h' = h ∧ n' = n
  | o :: r, fr, h, n, c :: cs, fr', h', n' => c.h = h ∧ c.n = n ∧ c.pl = ldOf P A f ops o fr ∧ ∃ fr1, stepA call P A f nt ops o fr h n = some (fr1, c.h1, c.n1, c.lg) ∧ ChT call P A f nt ops r fr1 c.h1 c.n1 cs fr' h' n'
  | _, _, _, _, _, _, _, _ => False

/- what is kept of a step, and the step -/
structure LEh (c : Ct) (e : LE) : Prop where
  h0 : ∀ id, e.h0.look id = c.h id
  h1 : ∀ id, e.h1.look id = c.h1 id
  q : ∀ (K : Nat → Nat → Nat → RT) (no : RT) (r : AV), e.q K no = some r → (∃ p : Nat × Nat × Nat, c.pl = some p ∧ K p.1 p.2.1 p.2.2 = some r) ∨ (c.pl = none ∧ no = some r)
def LEhs : List Ct → List LE → Prop
  | [], [] => True
  | c :: l, e :: m => LEh c e ∧ LEhs l m
  | _, _ => False

theorem stepL_ok {ops : Array Oper} {o0 : Oper} {o : SO} {cl : CL} {R : RG} {s : HS} {K : LE → RG → HS → RT} {fr : Fr} {h : Heap} {n : Nat} (hc : CLok P A cl) (ho : slO P A f ops o0 = some o) (hd : dokO nt o.dst = true)
    (hf : FrR R s fr) (hr : Rel s h n) (e : stepL (soQ o) (stepC o) cl R s K = some r) :
    ∃ fr' h' n' lg le R' s', (∃ k0, ∀ k, k0 ≤ k → stepA (callN P A k) P A f nt ops o0 fr h n = some (fr', h', n', lg)) ∧ Nx (unb s) h n lg (unb s') h' n' ∧ LEok (lg, n, n') le ∧ LEh ⟨h, n, lg, ldOf P A f ops o0 fr, h', n'⟩ le ∧ FrR R' s' fr' ∧ K le R' s' = some r := by
  obtain ⟨H, m, bx, thr, rd, wr, mw⟩ := s
  have hm : m = n := hr.num
  subst hm
  replace e : stepC o cl R ⟨H, m, bx, m, [], [], mw⟩ (fun R' s' => HS.rec (motive := fun _ => RT) (fun h n' bx _ rd' wr' mw => mergeC rd' thr rd fun rd => mergeC wr' thr wr fun wr => K ⟨rd', wr', m, n', soQ o R, H, h⟩ R' ⟨h, n', bx, thr, rd, wr, mw⟩) s') = some r := e
  obtain ⟨fr1, h1, n1, lg1, R1, s1, hk, nx, hf1, e⟩ := step_ok (s := ⟨H, m, bx, m, [], [], mw⟩) hc ho hd hf ⟨hr.look, hr.ok, hr.num, hr.mw, Nat.le_refl _⟩ e
  obtain ⟨H1, m1, bx1, thr1, rd1, wr1, mw1⟩ := s1
  replace e : mergeC rd1 thr rd (fun rd => mergeC wr1 thr wr fun wr => K ⟨rd1, wr1, m, m1, soQ o R, H, H1⟩ R1 ⟨H1, m1, bx1, thr, rd, wr, mw1⟩) = some r := e
  obtain ⟨rd2, a1, a2, e⟩ := mergeC_el e
  obtain ⟨wr2, b1, b2, e⟩ := mergeC_el e
  have hthr : thr ≤ m := hr.thr
  have hn1 : m1 = n1 := nx.rel.num
  refine ⟨fr1, h1, n1, lg1, ⟨rd1, wr1, m, m1, soQ o R, H, H1⟩, R1, ⟨H1, m1, bx1, thr, rd2, wr2, mw1⟩, hk, ?_, ?_, ?_, hf1, e⟩
  · refine ⟨⟨nx.rel.look, nx.rel.ok, nx.rel.num, nx.rel.mw, Nat.le_trans hthr nx.le⟩, nx.le, rfl, rfl, ?_, ?_, nx.own, nx.mw, nx.mw2, nx.mwle, nx.frame⟩
    · rintro id (hi | ⟨hl, hi⟩)
      · exact a1 id hi
      · exact a2 id (nx.rd id (.inr ⟨Nat.lt_of_lt_of_le hl hthr, hi⟩)) hl
    · rintro id (hi | ⟨hl, hi⟩)
      · exact b1 id hi
      · exact b2 id (nx.wr id (.inr ⟨Nat.lt_of_lt_of_le hl hthr, hi⟩)) hl
  · exact ⟨rfl, hn1, nx.le, fun id hi hl => nx.rd id (.inr ⟨hl, hi⟩), fun id hi hl => nx.wr id (.inr ⟨hl, hi⟩), nx.own⟩
  · exact ⟨hr.look, nx.rel.look, fun K no r e => soQ_el ho hf.1 e⟩

theorem log_ok {ops : Array Oper} {cl : CL} (hc : CLok P A cl) : ∀ {l0 : List Oper} {l : List SO} {R : RG} {s : HS} {K : List LE → RG → HS → RT} {fr : Fr} {h : Heap} {n : Nat}, slOs P A f ops l0 = some l → (l.all fun o => dokO nt o.dst) = true → FrR R s fr → Rel s h n → logC l cl R s K = some r →
    ∃ fr' h' n' cs es R' s', (∃ k0, ∀ k, k0 ≤ k → ChT (callN P A k) P A f nt ops l0 fr h n cs fr' h' n') ∧ Nx (unb s) h n (joinLogs (cs.map Ct.log)) (unb s') h' n' ∧ LEs n (cs.map Ct.log) es ∧ LEhs cs es ∧ FrR R' s' fr' ∧ K es R' s' = some r
  | [], l, R, s, K, fr, h, n, hl, hd, hf, hr, e => by
    simp only [slOs, Option.some.injEq] at hl
    subst hl
    exact ⟨fr, h, n, [], [], R, s, ⟨0, fun k _ => ⟨rfl, rfl, rfl⟩⟩, Nx.refl hr.ub, trivial, trivial, hf, e⟩
  | o0 :: l0, l, R, s, K, fr, h, n, hl, hd, hf, hr, e => by
    simp only [slOs] at hl
    split at hl
    · rename_i o l' ho hl'
      simp only [Option.some.injEq] at hl
      subst hl
      simp only [List.all_cons, Bool.and_eq_true] at hd
      replace e : stepL (soQ o) (stepC o) cl R s (fun le R s => logC l' cl R s fun es R s => K (le :: es) R s) = some r := e
      obtain ⟨fr1, h1, n1, lg1, le, R1, s1, ⟨k1, c1⟩, nx1, hle, hlh, hf1, e⟩ := stepL_ok hc ho hd.1 hf hr e
      obtain ⟨fr2, h2, n2, cs, es, R2, s2, ⟨k2, c2⟩, nx2, hes, hhs, hf2, e⟩ := log_ok hc hl' hd.2 hf1 nx1.rel.bu e
      refine ⟨fr2, h2, n2, ⟨h, n, lg1, ldOf P A f ops o0 fr, h1, n1⟩ :: cs, le :: es, R2, s2, ⟨max k1 k2, fun k hk => ?_⟩, ?_, ⟨Nat.le_refl _, hle, hes⟩, ⟨hlh, hhs⟩, hf2, e⟩
      · exact ⟨rfl, rfl, rfl, fr1, c1 k (by omega), c2 k (by omega)⟩
      · have := nx1.trans nx2
        simpa [joinLogs, Ct.log] using this
    · cases hl

/- a chain tells all of the runs -/
section
variable {call : Nat → List AV → AM AV} {ops : Array Oper}
theorem cht_log : ∀ {l : List Oper} {fr : Fr} {h : Heap} {n : Nat} {cs : List Ct} {fr' : Fr} {h' : Heap} {n' : Nat}, ChT call P A f nt ops l fr h n cs fr' h' n' → runLog call P A f nt ops l fr h n = some (fr', h', n', cs.map Ct.log) ∧ cs.length = l.length
  | [], fr, h, n, [], fr', h', n', ch => by
    obtain ⟨rfl, rfl, rfl⟩ := ch
    exact ⟨rfl, rfl⟩
  | [], fr, h, n, _ :: _, fr', h', n', ch => ch.elim
  | o :: l, fr, h, n, [], fr', h', n', ch => ch.elim
  | o :: l, fr, h, n, c :: cs, fr', h', n', ch => by
    obtain ⟨rfl, rfl, _, fr1, hs, ch⟩ := ch
    obtain ⟨e1, e2⟩ := cht_log ch
    refine ⟨?_, by simp [e2]⟩
    unfold runLog
    rw [hs]
    simp only
    rw [e1]
    rfl
theorem cht_D : ∀ {l : List Oper} {fr : Fr} {h : Heap} {n : Nat} {cs : List Ct} {fr' : Fr} {h' : Heap} {n' : Nat}, ChT call P A f nt ops l fr h n cs fr' h' n' → runD call P A f nt ops l fr h n = some ((fr', cs.map fun c => (c.log, c.pl)), h', n', joinLogs (cs.map Ct.log))
  | [], fr, h, n, [], fr', h', n', ch => by
    obtain ⟨rfl, rfl, rfl⟩ := ch
    rfl
  | [], fr, h, n, _ :: _, fr', h', n', ch => ch.elim
  | o :: l, fr, h, n, [], fr', h', n', ch => ch.elim
  | o :: l, fr, h, n, c :: cs, fr', h', n', ch => by
    obtain ⟨rfl, rfl, hp, fr1, hs, ch⟩ := ch
    have e1 := cht_D ch
    unfold runD
    simp only [AM.bind, withLog, hs, e1, AM.pure, ← hp]
    simp [joinLogs, Ct.log]
theorem cht_pl : ∀ {l : List Oper} {fr : Fr} {h : Heap} {n : Nat} {cs : List Ct} {fr' : Fr} {h' : Heap} {n' : Nat}, ChT call P A f nt ops l fr h n cs fr' h' n' → ∀ c ∈ cs, ∀ p, c.pl = some p → c.lg.1 = [p.1]
  | [], fr, h, n, [], fr', h', n', ch => by simp
  | [], fr, h, n, _ :: _, fr', h', n', ch => ch.elim
  | o :: l, fr, h, n, [], fr', h', n', ch => ch.elim
  | o :: l, fr, h, n, c :: cs, fr', h', n', ch => by
    obtain ⟨rfl, rfl, hp, fr1, hs, ch⟩ := ch
    intro d hd p hdp
    rcases List.mem_cons.1 hd with rfl | hd
    · rw [hdp] at hp
      obtain ⟨hw, hv⟩ := ld_opV (call := call) hp.symm
      unfold stepA at hs
      rw [hw] at hs
      simp only [AM.bind] at hs
      cases hx : opV call P A f o fr.regs d.h d.n with
      | none => rw [hx] at hs; cases hs
      | some x =>
        obtain ⟨v, h2, n2, l2⟩ := x
        obtain ⟨rfl, rfl, rfl, _⟩ := hv hx
        rw [hx] at hs
        simp only at hs
        cases hy : putA A f nt o v fr with
        | none => rw [hy] at hs; cases hs
        | some fr2 =>
          rw [hy] at hs
          simp only [AM.lift, AM.pure, List.append_nil, Option.some.injEq, Prod.mk.injEq] at hs
          rw [← hs.2.2.2]
    · exact cht_pl ch d hd p hdp

theorem lookL_of : ∀ {ps : List Pl} {h : Heap} {n : Nat}, (∀ p, some p ∈ ps → h p.1 ≠ none) → ∃ l, lookL ps h n = some (ps.map (snapOf h), h, n, (l, [])) ∧ ∀ x ∈ l, ∃ p : Nat × Nat × Nat, some p ∈ ps ∧ x = p.1
  | [], h, n, _ => ⟨[], rfl, by simp⟩
  | none :: ps, h, n, hp => by
    obtain ⟨l, e, hl⟩ := lookL_of (n := n) fun p hm => hp p (List.mem_cons_of_mem _ hm)
    refine ⟨l, ?_, fun x hx => ?_⟩
    · unfold lookL
      simp only [AM.bind, e, AM.pure, List.map_cons, snapOf, List.append_nil]
    · obtain ⟨p, h1, h2⟩ := hl x hx
      exact ⟨p, List.mem_cons_of_mem _ h1, h2⟩
  | some q :: ps, h, n, hp => by
    obtain ⟨l, e, hl⟩ := lookL_of (n := n) fun p hm => hp p (List.mem_cons_of_mem _ hm)
    have hq := hp q (List.mem_cons_self ..)
    refine ⟨q.1 :: l, ?_, fun x hx => ?_⟩
    · unfold lookL
      cases ho : h q.1 with
      | none => exact absurd ho hq
      | some o =>
        simp only [AM.bind, AM.look, AM.get, ho, e, AM.pure, List.map_cons, snapOf, sliceAt, List.append_nil]
        cases o <;> rfl
    · rcases List.mem_cons.1 hx with rfl | hx
      · exact ⟨q, List.mem_cons_self .., rfl⟩
      · obtain ⟨p, h1, h2⟩ := hl x hx
        exact ⟨p, List.mem_cons_of_mem _ h1, h2⟩

theorem cht_look {ps : List Pl} : ∀ {l : List Oper} {fr : Fr} {h : Heap} {n : Nat} {cs : List Ct} {fr' : Fr} {h' : Heap} {n' : Nat}, ChT call P A f nt ops l fr h n cs fr' h' n' → (∀ p, some p ∈ ps → h p.1 ≠ none ∧ ∀ c ∈ cs, c.h1 p.1 ≠ none) →
    ∃ sn lg, runLook call P A f nt ops ps l fr h n = some (sn, h', n', lg) ∧ (∀ x ∈ lg.1, x ∈ (joinLogs (cs.map Ct.log)).1 ∨ ∃ p : Nat × Nat × Nat, some p ∈ ps ∧ x = p.1) ∧ (∀ x ∈ lg.2, x ∈ (joinLogs (cs.map Ct.log)).2) ∧
      sn[0]? = some (ps.map (snapOf h)) ∧ ∀ (j : Nat) c, cs[j]? = some c → sn[j]? = some (ps.map (snapOf c.h)) ∧ sn[j + 1]? = some (ps.map (snapOf c.h1))
  | [], fr, h, n, [], fr', h', n', ch, hp => by
    obtain ⟨rfl, rfl, rfl⟩ := ch
    obtain ⟨l, e, hl⟩ := lookL_of (n := n') fun p hm => (hp p hm).1
    refine ⟨[ps.map (snapOf h')], (l, []), ?_, fun x hx => .inr (hl x hx), by simp, rfl, fun j c hj => by simp at hj⟩
    unfold runLook
    simp only [AM.bind, e, AM.pure, List.append_nil]
  | [], fr, h, n, _ :: _, fr', h', n', ch, _ => ch.elim
  | o :: l, fr, h, n, [], fr', h', n', ch, _ => ch.elim
  | o :: l, fr, h, n, c :: cs, fr', h', n', ch, hp => by
    obtain ⟨rfl, rfl, hpl, fr1, hs, ch⟩ := ch
    obtain ⟨l1, e, hl⟩ := lookL_of (n := c.n) fun p hm => (hp p hm).1
    obtain ⟨sn, lg, e2, b1, b2, b3, b4⟩ := cht_look ch fun p hm => ⟨(hp p hm).2 c (List.mem_cons_self ..), fun d hd => (hp p hm).2 d (List.mem_cons_of_mem _ hd)⟩
    refine ⟨ps.map (snapOf c.h) :: sn, (l1 ++ (c.lg.1 ++ lg.1), c.lg.2 ++ lg.2), ?_, ?_, ?_, rfl, ?_⟩
    · unfold runLook
      simp only [AM.bind, e, hs, e2, AM.pure, List.append_nil, List.nil_append]
    · intro x hx
      simp only [joinLogs, List.map_cons, List.flatMap_cons, List.mem_append] at hx ⊢
      rcases hx with hx | hx | hx
      · exact .inr (hl x hx)
      · exact .inl (.inl hx)
      · rcases b1 x hx with h1 | h1
        · exact .inl (.inr h1)
        · exact .inr h1
    · intro x hx
      simp only [joinLogs, List.map_cons, List.flatMap_cons, List.mem_append] at hx ⊢
      rcases hx with hx | hx
      · exact .inl hx
      · exact .inr (b2 x hx)
    · intro j d hj
      cases j with
      | zero =>
        simp only [List.getElem?_cons_zero, Option.some.injEq] at hj
        subst hj
        exact ⟨rfl, by simpa using b3⟩
      | succ j =>
        obtain ⟨a1, a2⟩ := b4 j d (by simpa using hj)
        exact ⟨by simpa using a1, by simpa using a2⟩
end

/- a load that stands still -/
def Stab (x y : Ct) : Prop := ∃ p c d, x.pl = some p ∧ sliceAt y.h p = some c ∧ sliceAt y.h1 p = some d ∧ eqV (.agg c) (.agg d) = true
def Live (cs : List Ct) (x : Ct) : Prop := ∀ p, x.pl = some p → ∀ c ∈ cs, c.h p.1 ≠ none ∧ c.h1 p.1 ≠ none

theorem stab_el {x y : Ct} {a b : LE} (hx : LEh x a) (hy : LEh y b) {ok no : RT} (e : stabC a b ok no = some r) : (Stab x y ∧ ok = some r) ∨ no = some r := by
  rcases hx.q _ _ _ e with ⟨p, hp, e⟩ | ⟨_, e⟩
  · obtain ⟨o, h1, e⟩ := HL.get_el e
    obtain ⟨cs, rfl, e⟩ : ∃ cs, o = .cells cs ∧ (sliC cs p.2.1 p.2.2 fun c => b.h1.get p.1 fun o => cellsC o fun cs => sliC cs p.2.1 p.2.2 fun d => Bool.rec (motive := fun _ => RT) no ok (eqV (.agg c) (.agg d))) = some r := by
      cases o with
      | cells cs => exact ⟨cs, rfl, e⟩
      | map _ => exact (nn e).elim
    obtain ⟨c, h2, e⟩ := sliC_el e
    obtain ⟨o, h3, e⟩ := HL.get_el e
    obtain ⟨ds, rfl, e⟩ : ∃ cs, o = .cells cs ∧ (sliC cs p.2.1 p.2.2 fun d => Bool.rec (motive := fun _ => RT) no ok (eqV (.agg c) (.agg d))) = some r := by
      cases o with
      | cells cs => exact ⟨cs, rfl, e⟩
      | map _ => exact (nn e).elim
    obtain ⟨d, h4, e⟩ := sliC_el e
    rcases br_b e with ⟨_, e⟩ | ⟨hq, e⟩
    · exact .inr e
    · refine .inl ⟨⟨p, c, d, hp, ?_, ?_, hq⟩, e⟩
      · unfold sliceAt
        rw [← hy.h0, h1]
        exact h2
      · unfold sliceAt
        rw [← hy.h1, h3]
        exact h4
  · exact .inr e
theorem nthE_out : ∀ {es : List LE} {i : Nat}, es.length ≤ i → nthE es i = ⟨[], [], 0, 0, fun _ e => e, .nil, .nil⟩
  | [], _, _ => rfl
  | e :: m, 0, h => by simp at h
  | e :: m, i + 1, h => nthE_out (es := m) (i := i) (by simpa using h)
theorem LEhs.len : ∀ {cs : List Ct} {es : List LE}, LEhs cs es → cs.length = es.length
  | [], [], _ => rfl
  | [], _ :: _, h => h.elim
  | _ :: _, [], h => h.elim
  | _ :: cs, _ :: es, h => by simp [LEhs.len h.2]
theorem LEhs.get1 : ∀ {cs : List Ct} {es : List LE}, LEhs cs es → ∀ {i : Nat} {c : Ct}, cs[i]? = some c → LEh c (nthE es i)
  | [], _, _, _, _, hi => by simp at hi
  | c :: l, [], h, _, _, _ => h.elim
  | c :: l, e :: m, h, 0, x, hi => by
    simp only [List.getElem?_cons_zero, Option.some.injEq] at hi
    subst hi
    exact h.1
  | c :: l, e :: m, h, i + 1, x, hi => LEhs.get1 h.2 (i := i) (by simpa using hi)
theorem LEhs.get {cs : List Ct} {es : List LE} (h : LEhs cs es) (i : Nat) : ∃ c, LEh c (nthE es i) ∧ ∀ x, cs[i]? = some x → x = c := by
  by_cases hi : i < cs.length
  · exact ⟨cs[i], h.get1 (List.getElem?_eq_getElem hi), fun x hx => by rw [List.getElem?_eq_getElem hi] at hx; exact (Option.some.inj hx).symm⟩
  · refine ⟨⟨fun _ => none, 0, ([], []), none, fun _ => none, 0⟩, ?_, fun x hx => by rw [List.getElem?_eq_none (by omega)] at hx; cases hx⟩
    rw [nthE_out (by rw [← h.len]; omega)]
    exact ⟨fun _ => rfl, fun _ => rfl, fun _ _ _ e => .inr ⟨rfl, e⟩⟩
theorem live_all {id : Nat} {ok : RT} : ∀ {cs : List Ct} {es : List LE}, LEhs cs es → (List.rec (motive := fun _ => RT) ok (fun e _ ih => e.h0.get id fun _ => e.h1.get id fun _ => ih) es) = some r → (∀ c ∈ cs, c.h id ≠ none ∧ c.h1 id ≠ none) ∧ ok = some r
  | [], [], _, e => ⟨by simp, e⟩
  | [], _ :: _, h, _ => h.elim
  | _ :: _, [], h, _ => h.elim
  | c :: cs, a :: es, h, e => by
    replace e : a.h0.get id (fun _ => a.h1.get id fun _ => List.rec (motive := fun _ => RT) ok (fun e _ ih => e.h0.get id fun _ => e.h1.get id fun _ => ih) es) = some r := e
    obtain ⟨o, h1, e⟩ := HL.get_el e
    obtain ⟨o', h2, e⟩ := HL.get_el e
    obtain ⟨h3, e⟩ := live_all h.2 e
    refine ⟨fun d hd => ?_, e⟩
    rcases List.mem_cons.1 hd with rfl | hd
    · rw [← h.1.h0, ← h.1.h1, h1, h2]
      exact ⟨nofun, nofun⟩
    · exact h3 d hd
theorem live_el {cs : List Ct} {es : List LE} (hs : LEhs cs es) {x : Ct} {a : LE} (hx : LEh x a) {ok : RT} (e : liveC es a ok = some r) : Live cs x ∧ ok = some r := by
  rcases hx.q _ _ _ e with ⟨p, hp, e⟩ | ⟨hp, e⟩
  · obtain ⟨h1, e⟩ := live_all hs e
    refine ⟨fun q hq => ?_, e⟩
    rw [hp] at hq
    cases hq
    exact h1
  · exact ⟨fun q hq => by rw [hp] at hq; (cases hq), e⟩
theorem pair_el {cs : List Ct} {es : List LE} (hs : LEhs cs es) {x y : Ct} {a b : LE} (hx : LEh x a) (hy : LEh y b) {ok : RT} (e : pairC es a b ok = some r) : ((Stab x y ∨ Stab y x) ∧ Live cs x ∧ Live cs y) ∧ ok = some r := by
  rcases stab_el hx hy e with ⟨h, e⟩ | e
  · obtain ⟨l1, e⟩ := live_el hs hx e
    obtain ⟨l2, e⟩ := live_el hs hy e
    exact ⟨⟨.inl h, l1, l2⟩, e⟩
  · rcases stab_el hy hx e with ⟨h, e⟩ | e
    · obtain ⟨l1, e⟩ := live_el hs hx e
      obtain ⟨l2, e⟩ := live_el hs hy e
      exact ⟨⟨.inr h, l1, l2⟩, e⟩
    · exact (nn e).elim
theorem exc_el {cs : List Ct} {es : List LE} (hs : LEhs cs es) {ok : RT} : ∀ {ps : List (Nat × Nat)}, excC es ok ps = some r → ok = some r ∧ ∀ p ∈ ps, ∀ x y, cs[p.1]? = some x → cs[p.2]? = some y → clashB (nthE es p.1) (nthE es p.2) = true ∨ ((Stab x y ∨ Stab y x) ∧ Live cs x ∧ Live cs y)
  | [], e => ⟨e, by simp⟩
  | q :: ps, e => by
    replace e : Bool.rec (motive := fun _ => RT) (pairC es (nthE es q.1) (nthE es q.2) (excC es ok ps)) (excC es ok ps) (clashB (nthE es q.1) (nthE es q.2)) = some r := e
    rcases br_b e with ⟨hb, e⟩ | ⟨hb, e⟩
    · obtain ⟨c, c1, c2⟩ := hs.get q.1
      obtain ⟨d, d1, d2⟩ := hs.get q.2
      obtain ⟨hp, e⟩ := pair_el hs c1 d1 e
      obtain ⟨h1, h2⟩ := exc_el hs e
      refine ⟨h1, fun p hm x y hx hy => ?_⟩
      rcases List.mem_cons.1 hm with rfl | hm
      · rw [c2 x hx, d2 y hy]
        exact .inr hp
      · exact h2 p hm x y hx hy
    · obtain ⟨h1, h2⟩ := exc_el hs e
      refine ⟨h1, fun p hm x y hx hy => ?_⟩
      rcases List.mem_cons.1 hm with rfl | hm
      · exact .inl hb
      · exact h2 p hm x y hx hy

theorem LEs.at : ∀ {n : Nat} {lgs : List LogN} {es : List LE}, LEs n lgs es → ∀ {i : Nat} {x : LogN}, lgs[i]? = some x → n ≤ x.2.1 ∧ LEok x (nthE es i)
  | _, [], _, _, _, _, hi => by simp at hi
  | n, y :: l, [], h, _, _, _ => h.elim
  | n, y :: l, e :: m, h, 0, x, hi => by
    simp only [List.getElem?_cons_zero, Option.some.injEq] at hi
    subst hi
    exact ⟨h.1, h.2.1⟩
  | n, y :: l, e :: m, h, i + 1, x, hi => by
    obtain ⟨h1, h2⟩ := LEs.at h.2.2 (i := i) (x := x) (by simpa using hi)
    exact ⟨Nat.le_trans h.1 (Nat.le_trans h.2.1.le h1), h2⟩
theorem LEs.lt : ∀ {n : Nat} {lgs : List LogN} {es : List LE}, LEs n lgs es → ∀ {i j : Nat} {x y : LogN}, i < j → lgs[i]? = some x → lgs[j]? = some y → x.2.2 ≤ y.2.1
  | _, [], _, _, _, _, _, _, _, hi, _ => by simp at hi
  | n, z :: l, [], h, _, _, _, _, _, _, _ => h.elim
  | n, z :: l, e :: m, h, 0, j + 1, x, y, _, hi, hj => by
    simp only [List.getElem?_cons_zero, Option.some.injEq] at hi
    subst hi
    exact (LEs.at h.2.2 (i := j) (x := y) (by simpa using hj)).1
  | n, z :: l, e :: m, h, i + 1, j + 1, x, y, hl, hi, hj => LEs.lt h.2.2 (i := i) (j := j) (by omega) (by simpa using hi) (by simpa using hj)
  | n, z :: l, e :: m, h, i, 0, x, y, hl, hi, hj => by omega

theorem disB_el : ∀ {a b : List Nat}, disB a b = true → ∀ x ∈ a, x ∉ b
  | [], b, _ => by simp
  | y :: a, b, h => by
    replace h : Bool.rec (motive := fun _ => Bool) (disB a b) false (memB b y) = true := h
    cases e : memB b y with
    | true => rw [e] at h; cases h
    | false =>
      rw [e] at h
      intro x hx
      rcases List.mem_cons.1 hx with rfl | hx
      · exact memB_no e
      · exact disB_el h x hx
theorem outB_el {a b : Nat} : ∀ {l : List Nat}, outB a b l = true → ∀ x ∈ l, ¬(a ≤ x ∧ x < b)
  | [], _ => by simp
  | y :: l, h => by
    replace h : Bool.rec (motive := fun _ => Bool) (outB a b l) (Bool.rec (motive := fun _ => Bool) (outB a b l) false (Nat.ble (Nat.succ y) b)) (Nat.ble a y) = true := h
    cases e1 : Nat.ble a y with
    | false =>
      rw [e1] at h
      intro x hx
      rcases List.mem_cons.1 hx with rfl | hx
      · have := ble_nle e1; omega
      · exact outB_el h x hx
    | true =>
      rw [e1] at h
      cases e2 : Nat.ble (Nat.succ y) b with
      | true => rw [e2] at h; cases h
      | false =>
        rw [e2] at h
        intro x hx
        rcases List.mem_cons.1 hx with rfl | hx
        · have := ble_nle e2; omega
        · exact outB_el h x hx
theorem clashB_el {x y : LE} (h : clashB x y = true) : (∀ i ∈ x.wr, i ∉ y.rd) ∧ (∀ i ∈ x.wr, i ∉ y.wr) ∧ (∀ i ∈ y.wr, i ∉ x.rd) ∧ (∀ i ∈ y.rd, ¬(x.a ≤ i ∧ i < x.b)) ∧ ∀ i ∈ y.wr, ¬(x.a ≤ i ∧ i < x.b) := by
  unfold clashB at h
  cases e1 : disB x.wr y.rd with
  | false => rw [e1] at h; cases h
  | true =>
    rw [e1] at h
    cases e2 : disB x.wr y.wr with
    | false => rw [e2] at h; cases h
    | true =>
      rw [e2] at h
      cases e3 : disB y.wr x.rd with
      | false => rw [e3] at h; cases h
      | true =>
        rw [e3] at h
        cases e4 : outB x.a x.b y.rd with
        | false => rw [e4] at h; cases h
        | true =>
          rw [e4] at h
          exact ⟨disB_el e1, disB_el e2, disB_el e3, outB_el e4, outB_el h⟩
theorem clash_no {x y : LogN} {d e : LE} (hx : LEok x d) (hy : LEok y e) (hl : x.2.2 ≤ y.2.1) (h : clashB d e = true) : clash x y = false := by
  obtain ⟨c1, c2, c3, c4, c5⟩ := clashB_el h
  have ry : ∀ id ∈ y.1.1, id < x.2.2 → id ∈ e.rd := fun id hi hlt => hy.rd id hi (by omega)
  have wy : ∀ id ∈ y.1.2, id < x.2.2 → id ∈ e.wr := fun id hi hlt => hy.wr id hi (by omega)
  have r4 : ∀ id ∈ y.1.1, ¬(x.2.1 ≤ id ∧ id < x.2.2) := fun id hi hc => c4 id (ry id hi hc.2) (by rw [hx.a, hx.b]; exact hc)
  have r5 : ∀ id ∈ y.1.2, ¬(x.2.1 ≤ id ∧ id < x.2.2) := fun id hi hc => c5 id (wy id hi hc.2) (by rw [hx.a, hx.b]; exact hc)
  have low : ∀ id, (id ∈ y.1.1 ∨ id ∈ y.1.2) → id < x.2.2 → id < x.2.1 := by
    intro id hi hlt
    rcases hi with hi | hi
    · have := r4 id hi; omega
    · have := r5 id hi; omega
  have d1 : disj x.1.2 y.1.1 = true := by
    unfold disj
    rw [List.all_eq_true]
    intro id hi
    simp only [Bool.not_eq_true', List.contains_eq_mem, decide_eq_false_iff_not]
    intro hc
    have hlt := hx.own id (.inr hi)
    exact c1 id (hx.wr id hi (low id (.inl hc) hlt)) (ry id hc hlt)
  have d2 : disj x.1.2 y.1.2 = true := by
    unfold disj
    rw [List.all_eq_true]
    intro id hi
    simp only [Bool.not_eq_true', List.contains_eq_mem, decide_eq_false_iff_not]
    intro hc
    have hlt := hx.own id (.inr hi)
    exact c2 id (hx.wr id hi (low id (.inr hc) hlt)) (wy id hc hlt)
  have d3 : disj y.1.2 x.1.1 = true := by
    unfold disj
    rw [List.all_eq_true]
    intro id hi
    simp only [Bool.not_eq_true', List.contains_eq_mem, decide_eq_false_iff_not]
    intro hc
    have hlt := hx.own id (.inl hc)
    exact c3 id (wy id hi hlt) (hx.rd id hc (low id (.inr hi) hlt))
  have d4 : ((y.1.1 ++ y.1.2).all fun id => !(decide (x.2.1 ≤ id) && decide (id < x.2.2))) = true := by
    rw [List.all_eq_true]
    intro id hi
    have : ¬(x.2.1 ≤ id ∧ id < x.2.2) := by
      rcases List.mem_append.1 hi with hi | hi
      · exact r4 id hi
      · exact r5 id hi
    simp only [Bool.not_eq_true', Bool.and_eq_false_iff, decide_eq_false_iff_not]
    omega
  unfold clash
  rw [d1, d2, d3, d4]
  rfl
theorem calmB_el {es : List LE} : ∀ {ps : List (Nat × Nat)}, calmB es ps = true → ∀ p ∈ ps, clashB (nthE es p.1) (nthE es p.2) = true
  | [], _ => by simp
  | q :: ps, h => by
    replace h : Bool.rec (motive := fun _ => Bool) false (calmB es ps) (clashB (nthE es q.1) (nthE es q.2)) = true := h
    cases e : clashB (nthE es q.1) (nthE es q.2) with
    | false => rw [e] at h; cases h
    | true =>
      rw [e] at h
      intro p hp
      rcases List.mem_cons.1 hp with rfl | hp
      · exact e
      · exact calmB_el h p hp

theorem clash_silent1 {a b : LogN} (h : a.1 = ([], [])) (h2 : a.2.1 = a.2.2) : clash a b = false := by
  simp only [clash, h, disj_nil, Bool.true_and]
  have d : disj b.1.2 [] = true := by simp [disj]
  rw [d, h2]
  simp only [Bool.true_and, Bool.not_eq_false', List.all_eq_true, Bool.not_eq_true', Bool.and_eq_false_iff, decide_eq_false_iff_not]
  intro id _
  omega
theorem clash_silent2 {a b : LogN} (h : b.1 = ([], [])) : clash a b = false := by
  simp [clash, h, disj]

theorem open_lt {ops : Array Oper} {p : Nat × Nat} (h : p ∈ openPairs ops) : p.1 < p.2 := by
  unfold openPairs at h
  simp only [List.mem_flatMap, List.mem_map, List.mem_filter, List.mem_range] at h
  obtain ⟨j, _, i, ⟨hi, _⟩, rfl⟩ := h
  exact hi

/- the logs are calm -/
theorem calm_of {ops : Array Oper} {call : Nat → List AV → AM AV} {fr fr' : Fr} {h h' : Heap} {n n' : Nat} {lgs : List LogN} (e : runLog call P A f nt ops ops.toList fr h n = some (fr', h', n', lgs))
    (hp : ∀ p ∈ ecPs A f ops, ∀ x y, lgs[p.1]? = some x → lgs[p.2]? = some y → clash x y = false) : calm ops lgs = true := by
  have hs : ∀ j, silentAt A f ops j = true → (lgs.getD j (([], []), 0, 0)).1 = ([], []) ∧ (lgs.getD j (([], []), 0, 0)).2.1 = (lgs.getD j (([], []), 0, 0)).2.2 := by
    intro j hj
    unfold silentAt at hj
    split at hj
    · rename_i o ho
      obtain ⟨m, hm⟩ := silent_log ops.toList e j o (by simpa using ho) hj
      rw [List.getD_eq_getElem?_getD, hm]
      exact ⟨rfl, rfl⟩
    · cases hj
  unfold calm
  rw [List.all_eq_true]
  intro p hm
  rw [Bool.not_eq_true']
  by_cases s1 : silentAt A f ops p.1 = true
  · obtain ⟨a1, a2⟩ := hs _ s1
    exact clash_silent1 a1 a2
  · by_cases s2 : silentAt A f ops p.2 = true
    · exact clash_silent2 (hs _ s2).1
    · have hin : p ∈ ecPs A f ops := by
        unfold ecPs
        exact List.mem_filter.2 ⟨hm, by simp [s1, s2]⟩
      rw [List.getD_eq_getElem?_getD, List.getD_eq_getElem?_getD]
      cases h1 : lgs[p.1]? with
      | none => exact clash_silent1 rfl rfl
      | some x =>
        cases h2 : lgs[p.2]? with
        | none => exact clash_silent2 rfl
        | some y => exact hp p hin x y h1 h2

/- all of the open pairs -/
theorem open_all {ops : Array Oper} {call : Nat → List AV → AM AV} {fr fr' : Fr} {h h' : Heap} {n n' : Nat} {cs : List Ct} (ch : ChT call P A f nt ops ops.toList fr h n cs fr' h' n')
    (hp : ∀ p ∈ ecPs A f ops, ∀ x y, cs[p.1]? = some x → cs[p.2]? = some y → clash x.log y.log = false ∨ ((Stab x y ∨ Stab y x) ∧ Live cs x ∧ Live cs y)) :
    ∀ p ∈ openPairs ops, ∀ x y, cs[p.1]? = some x → cs[p.2]? = some y → clash x.log y.log = false ∨ ((Stab x y ∨ Stab y x) ∧ Live cs x ∧ Live cs y) := by
  have e := (cht_log ch).1
  have hs : ∀ (j : Nat) x, cs[j]? = some x → silentAt A f ops j = true → x.log.1 = ([], []) ∧ x.log.2.1 = x.log.2.2 := by
    intro j x hx hj
    unfold silentAt at hj
    split at hj
    · rename_i o ho
      obtain ⟨m, hm⟩ := silent_log ops.toList e j o (by simpa using ho) hj
      rw [List.getElem?_map, hx] at hm
      simp only [Option.map_some, Option.some.injEq] at hm
      rw [hm]
      exact ⟨rfl, rfl⟩
    · cases hj
  intro p hm x y hx hy
  by_cases s1 : silentAt A f ops p.1 = true
  · obtain ⟨a1, a2⟩ := hs _ _ hx s1
    exact .inl (clash_silent1 a1 a2)
  · by_cases s2 : silentAt A f ops p.2 = true
    · exact .inl (clash_silent2 (hs _ _ hy s2).1)
    · refine hp p ?_ x y hx hy
      unfold ecPs
      exact List.mem_filter.2 ⟨hm, by simp [s1, s2]⟩

theorem draw_of {ops : Array Oper} {call : Nat → List AV → AM AV} {fr fr' : Fr} {h h' : Heap} {n n' : Nat} {cs : List Ct} (ch : ChT call P A f nt ops ops.toList fr h n cs fr' h' n')
    (hp0 : ∀ p ∈ ecPs A f ops, ∀ x y, cs[p.1]? = some x → cs[p.2]? = some y → clash x.log y.log = false ∨ ((Stab x y ∨ Stab y x) ∧ Live cs x ∧ Live cs y)) :
    runDraw call P A f nt ops fr h n = some (fr', h', n', joinLogs (cs.map Ct.log)) := by
  have hp := open_all ch hp0
  obtain ⟨e1, hlen⟩ := cht_log ch
  unfold runDraw
  rw [e1]
  simp only
  split
  · rfl
  · let es : List (LogN × Pl) := cs.map fun c => (c.log, c.pl)
    have hat : ∀ i x, cs[i]? = some x → lgAt es i = x.log := by
      intro i x hx
      unfold lgAt
      simp [es, List.getD_eq_getElem?_getD, hx]
    have hout : ∀ i, cs[i]? = none → lgAt es i = (([], []), 0, 0) := by
      intro i hx
      unfold lgAt
      simp only [es, List.getD_eq_getElem?_getD, List.getElem?_map, hx, Option.map_none, Option.getD_none]
    have hcl : ∀ p ∈ openPairs ops, clash (lgAt es p.1) (lgAt es p.2) = true → ∃ x y, cs[p.1]? = some x ∧ cs[p.2]? = some y ∧ (Stab x y ∨ Stab y x) ∧ Live cs x ∧ Live cs y := by
      intro p hm hc
      cases h1 : cs[p.1]? with
      | none => rw [hout _ h1, clash_silent1 rfl rfl] at hc; cases hc
      | some x =>
        cases h2 : cs[p.2]? with
        | none => rw [hout _ h2, clash_silent2 rfl] at hc; cases hc
        | some y =>
          rw [hat _ _ h1, hat _ _ h2] at hc
          rcases hp p hm x y h1 h2 with h3 | h3
          · rw [h3] at hc; cases hc
          · exact ⟨x, y, rfl, rfl, h3⟩
    have hneed : ∀ i x, cs[i]? = some x → (∃ p ∈ openPairs ops, clash (lgAt es p.1) (lgAt es p.2) = true ∧ (p.1 = i ∨ p.2 = i)) → (needs ops es)[i]? = some x.pl := by
      intro i x hx hex
      unfold needs
      have hi : i < es.length := by simpa [es] using (List.getElem?_eq_some_iff.1 hx).1
      rw [List.getElem?_map, List.getElem?_range hi]
      simp only [Option.map_some, Option.some.injEq]
      rw [if_pos]
      · simp [es, List.getD_eq_getElem?_getD, hx]
      · rw [List.any_eq_true]
        obtain ⟨p, h1, h2, h3⟩ := hex
        refine ⟨p, h1, ?_⟩
        rw [h2]
        rcases h3 with h3 | h3 <;> simp [h3]
    have hlive : ∀ q, some q ∈ needs ops es → h q.1 ≠ none ∧ ∀ c ∈ cs, c.h1 q.1 ≠ none := by
      intro q hq
      unfold needs at hq
      obtain ⟨i, hi, hq⟩ := List.mem_map.1 hq
      split at hq
      · rename_i hany
        rw [List.any_eq_true] at hany
        obtain ⟨p, hm, hc⟩ := hany
        simp only [Bool.and_eq_true, Bool.or_eq_true, beq_iff_eq] at hc
        obtain ⟨x, y, h1, h2, _, l1, l2⟩ := hcl p hm hc.1
        have key : ∀ c ∈ cs, c.h q.1 ≠ none ∧ c.h1 q.1 ≠ none := by
          rcases hc.2 with h3 | h3
          · rw [← h3] at hq
            simp only [es, List.getD_eq_getElem?_getD, List.getElem?_map, h1, Option.map_some, Option.getD_some] at hq
            exact l1 q hq
          · rw [← h3] at hq
            simp only [es, List.getD_eq_getElem?_getD, List.getElem?_map, h2, Option.map_some, Option.getD_some] at hq
            exact l2 q hq
        refine ⟨?_, fun c hc => (key c hc).2⟩
        cases cs with
        | nil => simp at h1
        | cons c cs =>
          cases hops : ops.toList with
          | nil => rw [hops] at hlen; simp at hlen
          | cons o l =>
            rw [hops] at ch
            have := (key c (List.mem_cons_self ..)).1
            rw [ch.1] at this
            exact this
      · cases hq
    obtain ⟨sn, lg, e2, b1, b2, _, b4⟩ := cht_look (ps := needs ops es) ch hlive
    have hcalm : calmL ops es sn = true := by
      unfold calmL
      rw [List.all_eq_true]
      intro p hm
      cases hc : clash (lgAt es p.1) (lgAt es p.2) with
      | false => simp
      | true =>
        obtain ⟨x, y, h1, h2, hst, _, _⟩ := hcl p hm hc
        have n1 := hneed p.1 x h1 ⟨p, hm, hc, .inl rfl⟩
        have n2 := hneed p.2 y h2 ⟨p, hm, hc, .inr rfl⟩
        have key : ∀ (i j : Nat) x y, (needs ops es)[i]? = some x.pl → cs[j]? = some y → Stab x y → stabL sn i j = true := by
          intro i j x y hi hj hs
          obtain ⟨q, c, d, g1, g2, g3, g4⟩ := hs
          obtain ⟨s1, s2⟩ := b4 j y hj
          unfold stabL
          simp only [List.getD_eq_getElem?_getD, s1, s2, Option.getD_some, List.getElem?_map, hi, g1, Option.map_some, snapOf, g2, g3]
          exact g4
        rcases hst with hst | hst
        · simp [key p.1 p.2 x y n1 h2 hst]
        · simp [key p.2 p.1 y x n2 h1 hst]
    unfold AM.both
    rw [cht_D ch]
    simp only
    rw [show (cs.map fun c => (c.log, c.pl)) = es from rfl, e2]
    simp only
    rw [if_pos, if_pos hcalm]
    refine ⟨by simp, ?_, ?_⟩
    · rw [List.all_eq_true]
      intro x hx
      rw [Bool.or_eq_true]
      refine .inl ?_
      simp only [List.contains_eq_mem, decide_eq_true_eq]
      rcases b1 x hx with h1 | ⟨q, h1, rfl⟩
      · exact h1
      · unfold needs at h1
        obtain ⟨i, hi, hq⟩ := List.mem_map.1 h1
        split at hq
        · cases h2 : cs[i]? with
          | none => simp [es, List.getD_eq_getElem?_getD, h2] at hq
          | some c =>
            simp only [es, List.getD_eq_getElem?_getD, List.getElem?_map, h2, Option.map_some, Option.getD_some] at hq
            have hmem := List.mem_of_getElem? h2
            have := cht_pl ch c hmem q hq
            simp only [joinLogs, List.mem_flatMap, List.mem_map]
            exact ⟨c.log, ⟨c, hmem, rfl⟩, by rw [show c.log.1.1 = c.lg.1 from rfl, this]; simp⟩
        · cases hq
    · rw [List.all_eq_true]
      intro x hx
      simpa using b2 x hx

/- a region -/
theorem reg_ok {ops : Array Oper} {dr : Bool} {i : Nat} {cl : CL} {kk : Nat} {l : List SO} {R : RG} {s : HS} {Kn : RG → HS → RT} {Kx : KX} {fr : Fr} {h : Heap} {n : Nat} (hc : CLok P A cl) (hl : slOs P A f ops ops.toList = some l) (hd : (l.all fun o => dokO nt o.dst) = true)
    (hf : FrR R s fr) (hr : Rel s h n) (e : regC (if dr then ecPs A f ops else []) l cl kk R s Kn Kx = some r) :
    ∃ fr' h' n' lg R' s', (∃ k0, ∀ k, k0 ≤ k → ∀ j, exec (callN P A k) P A f nt j (.region i ops dr) fr h n = some ((.norm, fr'), h', n', lg)) ∧ Nx (unb s) h n lg (unb s') h' n' ∧ FrR R' s' fr' ∧ Kn R' s' = some r := by
  have fin : ∀ {fr' h' n' lg} {k : Nat} (j : Nat), (if dr then runDraw (callN P A k) P A f nt ops fr else runOps (callN P A k) P A f nt ops ops.toList fr) h n = some (fr', h', n', lg) → exec (callN P A k) P A f nt j (.region i ops dr) fr h n = some ((.norm, fr'), h', n', lg) := by
    intro fr' h' n' lg k j this
    simp only [exec]
    unfold AM.bind
    rw [this]
    simp [AM.pure]
  generalize hps : (if dr then ecPs A f ops else []) = ps at e
  cases ps with
  | nil =>
    replace e : opsC l cl R s Kn = some r := e
    obtain ⟨fr', h', n', lgs, R', s', ⟨k0, hk⟩, nx, hf', e⟩ := ops_ok hc hl hd hf hr e
    refine ⟨fr', h', n', _, R', s', ⟨k0, fun k hle j => fin j ?_⟩, nx, hf', e⟩
    cases dr with
    | false => exact runOps_of_log ops _ _ _ _ (hk k hle)
    | true =>
      simp only [if_true] at hps ⊢
      unfold runDraw
      rw [hk k hle]
      simp only
      rw [if_pos (calm_of (hk k hle) (by rw [hps]; simp))]
  | cons p ps =>
    have hdr : dr = true := by cases dr <;> first | rfl | simp at hps
    subst hdr
    simp only [if_true] at hps
    replace e : logC l cl R s (fun es R s => Bool.rec (motive := fun _ => RT) (excC es (Kn R s) (p :: ps)) (Kn R s) (calmB es (p :: ps))) = some r := e
    obtain ⟨fr', h', n', cs, es, R', s', ⟨k0, hk⟩, nx, hes, hhs, hf', e⟩ := log_ok hc hl hd hf hr e
    have hno : ∀ q ∈ ecPs A f ops, ∀ x y, cs[q.1]? = some x → cs[q.2]? = some y → clashB (nthE es q.1) (nthE es q.2) = true → clash x.log y.log = false := by
      intro q hq x y hx hy hb
      have hlt := open_lt (List.mem_filter.1 (show q ∈ (openPairs ops).filter _ from hq)).1
      have gx : (cs.map Ct.log)[q.1]? = some x.log := by rw [List.getElem?_map, hx]; rfl
      have gy : (cs.map Ct.log)[q.2]? = some y.log := by rw [List.getElem?_map, hy]; rfl
      exact clash_no (hes.at gx).2 (hes.at gy).2 (hes.lt hlt gx gy) hb
    have main : Kn R' s' = some r ∧ ∀ q ∈ ecPs A f ops, ∀ x y, cs[q.1]? = some x → cs[q.2]? = some y → clash x.log y.log = false ∨ ((Stab x y ∨ Stab y x) ∧ Live cs x ∧ Live cs y) := by
      rcases br_b e with ⟨_, e⟩ | ⟨hcb, e⟩
      · obtain ⟨e, h2⟩ := exc_el hhs e
        refine ⟨e, fun q hq x y hx hy => ?_⟩
        rcases h2 q (by rw [← hps]; exact hq) x y hx hy with h3 | h3
        · exact .inl (hno q hq x y hx hy h3)
        · exact .inr h3
      · exact ⟨e, fun q hq x y hx hy => .inl (hno q hq x y hx hy (calmB_el hcb q (by rw [← hps]; exact hq)))⟩
    refine ⟨fr', h', n', _, R', s', ⟨k0, fun k hle j => fin j ?_⟩, nx, hf', main.1⟩
    simp only [if_true]
    exact draw_of (hk k hle) main.2
end
end Go.Abs
